/- Codes: made, by the program. -/
import Derived.Test.YtfmjconjgfhfbaaDoorId4
import Derived.Test.YtfmjconjgfhfbaaDoorIdD
import Derived.Lib.ItoaMem
import Derived.ShutString
namespace Go.Proofs.YtfmjconjgfhfbaaDoor.Id
open Go.RowKit

theorem ret_se {a b : ByteArray} {k : IntKind} {x y : Int} (h : a = b) (h2 : x = y) : Ending.returned (.tuple #[.string a, .int k x]) = .returned (.tuple #[.string b, .int k y]) := by rw [h, h2]
theorem bG {a w : World} (h : Below a.heap.size a w) (os : Array Obj) : Below a.heap.size a (Go.Sort.grow w os) :=
  h.trans ⟨rfl, rfl, rfl, by simp [Go.Sort.grow], fun k hk => by
    have hs := h.size
    simp only [Go.Sort.grow]
    rw [Array.getElem?_append_left (by omega)]⟩

set_option maxRecDepth 100000 in
set_option maxHeartbeats 1000000 in
theorem Code_ok (k n : Int) (w : World) (h : capB k = true) (h0 : 0 ≤ n) (h1 : n ≤ 999999) (htab : Lib.TabIs Tryd.prog w "internal/strconv.uint64pow10" .u64 Lib.pow10Tab) :
    Calls Tryd.prog 16 #[.int .u8 k, .int .i64 n] w fun e w' => e = .returned (.tuple #[.string (codeS k n), .int .i64 0]) ∧ Below w.heap.size w w' := by
  have hk : 65 ≤ k ∧ k ≤ 90 := by simpa [capB] using h
  obtain ⟨hk0, hk1⟩ := hk
  have HB := Below.refl w.heap.size w
  have hi := Lib.hid (itoa7 h0 h1)
  obtain ⟨c, e7, e8, hm, hl, he⟩ : ∃ c : List UInt8, Hid (Utf8.encode k ++ (⟨(49 :: digs n).toArray⟩ : ByteArray).extract 1 7 = ⟨c.toArray⟩) ∧ Hid ((⟨c.toArray⟩ : ByteArray) ++ Utf8.encode (65 + letM c) = codeS k n) ∧ (0 ≤ letM c ∧ letM c < 23) ∧ c.length ≤ 7 ∧ Hid (Utf8.encode (65 + letM c) = ⟨#[bN (65 + letM c)]⟩) :=
    ⟨code7 k n, code7_text (by omega) (by omega), codeS_text, letM_range _, Nat.le_refl _, enc_small (by have := letM_range (code7 k n); omega) (by have := letM_range (code7 k n); omega)⟩
  have hd : (digs n).length = 6 := rfl
  have hz : (Utf8.encode k).size = 1 := by rw [enc_small (by omega) (by omega)]; rfl
  go_enter Tryd.func16, Tryd.ntmps16
  go_wp2_with (first | (go_at_call 26; refine (capital_any _ _).mono ?_; rintro e w' ⟨rfl, rfl⟩) | fail)
  refine (Tryd.strconv_Itoa _ (by omega) (by omega) _ htab).mono ?_
  rw [hi.out]
  rintro e w1 ⟨rfl, kk, os, rfl⟩
  go_wp2_with fail
  rw [e7.out]
  refine (Letter_any ⟨c.toArray⟩ _ (by rw [size_of_list]; omega)).mono ?_
  rintro e w2 ⟨rfl, rfl⟩
  have hs : (Utf8.encode (65 + letM c)).size = 1 := by rw [he.out]; rfl
  go_wp2
  go_ret2
  refine ⟨ret_se e8.out rfl, ?_⟩
  repeat (first | exact HB | apply bA | apply bG | apply bD | apply bd)

def Tab (w : World) : Prop := Lib.TabIs Tryd.prog w "internal/strconv.uint64pow10" .u64 Lib.pow10Tab

theorem Code_any (k n : Int) (w : World) (htab : Tab w) :
    Calls Tryd.prog 16 #[.int .u8 k, .int .i64 n] w fun e w' => e = .returned (.tuple #[.string (codeR k n), .int .i64 (codeE k n)]) ∧ Below w.heap.size w w' := by
  by_cases h : capB k = true
  · by_cases h0 : n < 0
    · rw [codeR_range h (.inl h0), codeE_range h (.inl h0)]
      clear htab
      go_enter Tryd.func16, Tryd.ntmps16
      go_wp2_with (go_at_call 26; refine (capital_any _ _).mono ?_; rintro e w' ⟨rfl, rfl⟩)
      go_ret2
      exact ⟨rfl, Below.refl _ _⟩
    · by_cases h1 : n ≤ 999999
      · rw [codeR_ok h (by omega) h1, codeE_ok h (by omega) h1]
        exact Code_ok k n w h (by omega) h1 htab
      · rw [codeR_range h (.inr (by omega)), codeE_range h (.inr (by omega))]
        clear htab
        go_enter Tryd.func16, Tryd.ntmps16
        go_wp2_with (go_at_call 26; refine (capital_any _ _).mono ?_; rintro e w' ⟨rfl, rfl⟩)
        go_ret2
        exact ⟨rfl, Below.refl _ _⟩
  · have h : capB k = false := by simpa using h
    rw [codeR_kind n h, codeE_kind n h]
    clear htab
    go_enter Tryd.func16, Tryd.ntmps16
    go_wp2_with (go_at_call 26; refine (capital_any _ _).mono ?_; rintro e w' ⟨rfl, rfl⟩)
    go_ret2
    exact ⟨rfl, Below.refl _ _⟩
end Go.Proofs.YtfmjconjgfhfbaaDoor.Id
