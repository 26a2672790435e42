/- Plain words on codes: texts. No Go. -/
import Derived.Test.YtgonghmihghhnaaDoorIdC
import Derived.Laws.Concat
import Derived.Lib.Strings
namespace Go.Proofs.YtgonghmihghhnaaDoor.Id

theorem code7_text {k n : Int} (h0 : 0 ≤ k) (h1 : k < 128) : Utf8.encode k ++ (⟨(49 :: digs n).toArray⟩ : ByteArray).extract 1 ((digs n).length + 1) = ⟨(code7 k n).toArray⟩ := by
  rw [enc_small h0 h1, Lib.extract_eq, show (⟨#[bN k]⟩ : ByteArray) = ⟨[bN k].toArray⟩ from rfl, ByteArray.mk_append_mk]
  rfl
theorem codeS_text {k n : Int} : (⟨(code7 k n).toArray⟩ : ByteArray) ++ Utf8.encode (65 + letM (code7 k n)) = codeS k n := by
  have := letM_range (code7 k n)
  rw [enc_small (by omega) (by omega), show (⟨#[bN (65 + letM (code7 k n))]⟩ : ByteArray) = ⟨[bN (65 + letM (code7 k n))].toArray⟩ from rfl, ByteArray.mk_append_mk]
  rfl
theorem code7_len (k n : Int) : (code7 k n).length = 7 := rfl
theorem codeL_len (k n : Int) : (codeL k n).length = 8 := rfl
theorem code7_size (k n : Int) : (⟨(code7 k n).toArray⟩ : ByteArray).size = 7 := rfl
theorem codeS_size (k n : Int) : (codeS k n).size = 8 := rfl
theorem codeS_data (k n : Int) : (codeS k n).data.toList = codeL k n := rfl
theorem cat7 (a b c d e f g : UInt8) : (⟨#[a]⟩ : ByteArray) ++ ⟨#[b]⟩ ++ ⟨#[c]⟩ ++ ⟨#[d]⟩ ++ ⟨#[e]⟩ ++ ⟨#[f]⟩ ++ ⟨#[g]⟩ = ⟨[a, b, c, d, e, f, g].toArray⟩ := by
  simp only [ByteArray.mk_append_mk]
  rfl
theorem codeS_cat (k n : Int) : (⟨(code7 k n).toArray⟩ : ByteArray) ++ ⟨#[bN (65 + letM (code7 k n))]⟩ = codeS k n := by
  rw [show (⟨#[bN (65 + letM (code7 k n))]⟩ : ByteArray) = ⟨[bN (65 + letM (code7 k n))].toArray⟩ from rfl, ByteArray.mk_append_mk]
  rfl
theorem num_range {c1 c2 c3 c4 c5 c6 : UInt8} (h1 : digB c1.toNat = true) (h2 : digB c2.toNat = true) (h3 : digB c3.toNat = true) (h4 : digB c4.toNat = true) (h5 : digB c5.toNat = true) (h6 : digB c6.toNat = true) :
    0 ≤ numL [c1, c2, c3, c4, c5, c6] ∧ numL [c1, c2, c3, c4, c5, c6] ≤ 999999 := by
  simp only [digB, decide_eq_true_eq] at h1 h2 h3 h4 h5 h6
  simp only [numL, List.foldl_cons, List.foldl_nil]
  omega
/-- what a string that is a code looks like -/
theorem split_zero {l : List UInt8} (h : splitE l = 0) : ∃ c0 c1 c2 c3 c4 c5 c6 c7 : UInt8, l = [c0, c1, c2, c3, c4, c5, c6, c7] ∧ capB c0.toNat = true ∧ digB c1.toNat = true ∧ digB c2.toNat = true ∧ digB c3.toNat = true ∧ digB c4.toNat = true ∧ digB c5.toNat = true ∧ digB c6.toNat = true ∧ (c7.toNat : Int) = 65 + letM [c0, c1, c2, c3, c4, c5, c6] := by
  unfold splitE at h
  split at h
  · rename_i c0 c1 c2 c3 c4 c5 c6 c7
    refine ⟨c0, c1, c2, c3, c4, c5, c6, c7, rfl, ?_⟩
    cases h0 : capB c0.toNat <;> simp only [h0, if_true, Bool.true_eq_false, if_false] at h
    · omega
    cases h1 : digB c1.toNat <;> simp only [h1, if_true, Bool.true_eq_false, if_false] at h
    · omega
    cases h2 : digB c2.toNat <;> simp only [h2, if_true, Bool.true_eq_false, if_false] at h
    · omega
    cases h3 : digB c3.toNat <;> simp only [h3, if_true, Bool.true_eq_false, if_false] at h
    · omega
    cases h4 : digB c4.toNat <;> simp only [h4, if_true, Bool.true_eq_false, if_false] at h
    · omega
    cases h5 : digB c5.toNat <;> simp only [h5, if_true, Bool.true_eq_false, if_false] at h
    · omega
    cases h6 : digB c6.toNat <;> simp only [h6, if_true, Bool.true_eq_false, if_false] at h
    · omega
    split at h
    · exact ⟨rfl, rfl, rfl, rfl, rfl, rfl, rfl, by assumption⟩
    · omega
  · omega
theorem splitN_range (l : List UInt8) : 0 ≤ splitN l ∧ splitN l ≤ 999999 := by
  by_cases h : splitE l = 0
  · obtain ⟨c0, c1, c2, c3, c4, c5, c6, c7, rfl, _, h1, h2, h3, h4, h5, h6, _⟩ := split_zero h
    rw [splitN_yes h]
    exact num_range h1 h2 h3 h4 h5 h6
  · rw [splitN_no rfl h]; omega
end Go.Proofs.YtgonghmihghhnaaDoor.Id
