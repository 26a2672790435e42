/- Plain facts on codes: back, order, detection. No Go. -/
import Derived.Test.YtfmjconjgfhfbaaDoorIdD
import GoSem.Op.String
namespace Go.Proofs.YtfmjconjgfhfbaaDoor.Id

theorem letM_7 (c0 c1 c2 c3 c4 c5 c6 : UInt8) : letM [c0, c1, c2, c3, c4, c5, c6] = ((c0.toNat : Int) + 2 * c1.toNat + 3 * c2.toNat + 4 * c3.toNat + 5 * c4.toNat + 6 * c5.toNat + 7 * c6.toNat) % 23 := by
  unfold letM
  simp only [lsum]
  congr 1
  simp only [Int.natCast_add, Int.natCast_one, Int.natCast_zero]
  omega
theorem capB_of {n : Int} (h : capB n = true) : 65 ≤ n ∧ n ≤ 90 := by simpa [capB] using h
theorem digB_of {n : Int} (h : digB n = true) : 48 ≤ n ∧ n ≤ 57 := by simpa [digB] using h
theorem dig_at (x : Int) : ((bN (48 + x % 10)).toNat : Int) = 48 + x % 10 := bN_val (by omega) (by omega)
theorem dig_ok (x : Int) : digB ((bN (48 + x % 10)).toNat : Int) = true := by rw [dig_at]; exact digB_yes (by omega) (by omega)

theorem split_code {k n : Int} (hk : capB k = true) (h0 : 0 ≤ n) (h1 : n ≤ 999999) : splitE (codeL k n) = 0 ∧ splitK (codeL k n) = k ∧ splitN (codeL k n) = n := by
  have hb := capB_of hk
  have e0 : ((bN k).toNat : Int) = k := bN_val (by omega) (by omega)
  have hm := letM_range (code7 k n)
  have e7 : ((bN (65 + letM (code7 k n))).toNat : Int) = 65 + letM (code7 k n) := bN_val (by omega) (by omega)
  have hE : splitE (codeL k n) = 0 := by
    refine spl_0 _ _ _ _ _ _ _ _ ?_ ?_ ?_ ?_ ?_ ?_ ?_ ?_
    · rw [e0, hk]; rfl
    · rw [dig_ok]; rfl
    · rw [dig_ok]; rfl
    · rw [dig_ok]; rfl
    · rw [dig_ok]; rfl
    · rw [dig_ok]; rfl
    · rw [dig_ok]; rfl
    · rw [e7]
      show (65 + letM (code7 k n) != 65 + letM (code7 k n)) = false
      simp
  refine ⟨hE, ?_, ?_⟩
  · have : splitK (codeL k n) = ((bN k).toNat : Int) := splitK_yes hE
    rw [this, e0]
  · rw [splitN_yes hE]
    show numL [bN (48 + n / 100000 % 10), bN (48 + n / 10000 % 10), bN (48 + n / 1000 % 10), bN (48 + n / 100 % 10), bN (48 + n / 10 % 10), bN (48 + n % 10)] = n
    simp only [numL, List.foldl_cons, List.foldl_nil, dig_at]
    omega

theorem digs_num {c1 c2 c3 c4 c5 c6 : UInt8} (h1 : digB c1.toNat = true) (h2 : digB c2.toNat = true) (h3 : digB c3.toNat = true) (h4 : digB c4.toNat = true) (h5 : digB c5.toNat = true) (h6 : digB c6.toNat = true) :
    digs (numL [c1, c2, c3, c4, c5, c6]) = [c1, c2, c3, c4, c5, c6] := by
  have b1 := digB_of h1; have b2 := digB_of h2; have b3 := digB_of h3; have b4 := digB_of h4; have b5 := digB_of h5; have b6 := digB_of h6
  have hn : numL [c1, c2, c3, c4, c5, c6] = 100000 * (c1.toNat - 48) + 10000 * (c2.toNat - 48) + 1000 * (c3.toNat - 48) + 100 * (c4.toNat - 48) + 10 * (c5.toNat - 48) + (c6.toNat - 48) := by
    simp only [numL, List.foldl_cons, List.foldl_nil]
    omega
  rw [hn]
  unfold digs
  rw [← bN_of c1, ← bN_of c2, ← bN_of c3, ← bN_of c4, ← bN_of c5, ← bN_of c6]
  simp only [bN_of]
  refine List.cons_eq_cons.2 ⟨by rw [← bN_of c1]; congr 1; rw [bN_of]; omega, List.cons_eq_cons.2 ⟨by rw [← bN_of c2]; congr 1; rw [bN_of]; omega, List.cons_eq_cons.2 ⟨by rw [← bN_of c3]; congr 1; rw [bN_of]; omega, List.cons_eq_cons.2 ⟨by rw [← bN_of c4]; congr 1; rw [bN_of]; omega, List.cons_eq_cons.2 ⟨by rw [← bN_of c5]; congr 1; rw [bN_of]; omega, List.cons_eq_cons.2 ⟨by rw [← bN_of c6]; congr 1; rw [bN_of]; omega, rfl⟩⟩⟩⟩⟩⟩

/-- what is split without an error is a code -/
theorem code_split {l : List UInt8} (h : splitE l = 0) : capB (splitK l) = true ∧ 0 ≤ splitN l ∧ splitN l ≤ 999999 ∧ l = codeL (splitK l) (splitN l) := by
  obtain ⟨c0, c1, c2, c3, c4, c5, c6, c7, rfl, h0, h1, h2, h3, h4, h5, h6, h7⟩ := split_zero h
  rw [splitK_yes h, splitN_yes h]
  show capB (c0.toNat : Int) = true ∧ 0 ≤ numL [c1, c2, c3, c4, c5, c6] ∧ numL [c1, c2, c3, c4, c5, c6] ≤ 999999 ∧ [c0, c1, c2, c3, c4, c5, c6, c7] = codeL c0.toNat (numL [c1, c2, c3, c4, c5, c6])
  have hr := num_range h1 h2 h3 h4 h5 h6
  have e7 : code7 c0.toNat (numL [c1, c2, c3, c4, c5, c6]) = [c0, c1, c2, c3, c4, c5, c6] := by
    unfold code7
    rw [digs_num h1 h2 h3 h4 h5 h6, bN_of]
  refine ⟨h0, hr.1, hr.2, ?_⟩
  unfold codeL
  rw [e7, ← h7, bN_of]
  rfl
theorem code_of_string {s : ByteArray} (h : splitE s.data.toList = 0) : ∃ k n, capB k = true ∧ 0 ≤ n ∧ n ≤ 999999 ∧ s = codeS k n := by
  obtain ⟨h1, h2, h3, h4⟩ := code_split h
  refine ⟨_, _, h1, h2, h3, ?_⟩
  unfold codeS
  rw [← h4]
theorem codeE_zero {k n : Int} (h : codeE k n = 0) : capB k = true ∧ 0 ≤ n ∧ n ≤ 999999 := by
  unfold codeE at h
  split at h
  · omega
  · split at h
    · omega
    · rename_i h1 h2
      exact ⟨by simpa using h1, by omega, by omega⟩

theorem less_cons (a b : UInt8) (x y : List UInt8) : Op.bytesLess (a :: x) (b :: y) = (decide ((a.toNat : Int) < b.toNat) || (decide ((a.toNat : Int) = b.toNat) && Op.bytesLess x y)) := by
  have e1 : decide (a < b) = decide ((a.toNat : Int) < b.toNat) := by
    rw [decide_eq_decide, UInt8.lt_iff_toNat_lt]; omega
  have e2 : (a == b) = decide ((a.toNat : Int) = b.toNat) := by
    rw [Bool.eq_iff_iff, beq_iff_eq, decide_eq_true_iff, ← UInt8.toNat_inj]; omega
  rw [Op.bytesLess, e1, e2]
theorem less_same (a : UInt8) (x y : List UInt8) : Op.bytesLess (a :: x) (a :: y) = Op.bytesLess x y := by rw [less_cons]; simp
theorem less_refl : ∀ l : List UInt8, Op.bytesLess l l = false
  | [] => rfl
  | a :: l => by rw [less_cons, less_refl l]; simp
theorem less_code (k n m : Int) (h0 : 0 ≤ n) (h1 : n ≤ 999999) (g0 : 0 ≤ m) (g1 : m ≤ 999999) : Op.bytesLess (codeL k n) (codeL k m) = decide (n < m) := by
  by_cases e : n = m
  · subst e
    rw [less_refl]; simp
  have hc : ∀ x : Int, codeL k x = bN k :: bN (48 + x / 100000 % 10) :: bN (48 + x / 10000 % 10) :: bN (48 + x / 1000 % 10) :: bN (48 + x / 100 % 10) :: bN (48 + x / 10 % 10) :: bN (48 + x % 10) :: [bN (65 + letM (code7 k x))] := fun _ => rfl
  rw [hc, hc, less_same]
  have step : ∀ (a b : Int) (P : Bool), (decide (a < b) || (decide (a = b) && P)) = if a = b then P else decide (a < b) := by
    intro a b P
    by_cases h : a = b
    · subst h; simp
    · simp [h]
  simp only [less_cons, dig_at, step]
  by_cases q0 : (48 : Int) + n / 100000 % 10 = 48 + m / 100000 % 10
  rotate_left
  · rw [if_neg q0, decide_eq_decide]; omega
  rw [if_pos q0]
  by_cases q1 : (48 : Int) + n / 10000 % 10 = 48 + m / 10000 % 10
  rotate_left
  · rw [if_neg q1, decide_eq_decide]; omega
  rw [if_pos q1]
  by_cases q2 : (48 : Int) + n / 1000 % 10 = 48 + m / 1000 % 10
  rotate_left
  · rw [if_neg q2, decide_eq_decide]; omega
  rw [if_pos q2]
  by_cases q3 : (48 : Int) + n / 100 % 10 = 48 + m / 100 % 10
  rotate_left
  · rw [if_neg q3, decide_eq_decide]; omega
  rw [if_pos q3]
  by_cases q4 : (48 : Int) + n / 10 % 10 = 48 + m / 10 % 10
  rotate_left
  · rw [if_neg q4, decide_eq_decide]; omega
  rw [if_pos q4]
  by_cases q5 : (48 : Int) + n % 10 = 48 + m % 10
  rotate_left
  · rw [if_neg q5, decide_eq_decide]; omega
  rw [if_pos q5]
  exact absurd (show n = m by omega) e
theorem code_inj {k n m : Int} (h0 : 0 ≤ n) (h1 : n ≤ 999999) (g0 : 0 ≤ m) (g1 : m ≤ 999999) (e : codeL k n = codeL k m) : n = m := by
  have h := less_code k n m h0 h1 g0 g1
  have h' := less_code k m n g0 g1 h0 h1
  rw [e, less_refl] at h
  rw [e, less_refl] at h'
  have a : ¬ n < m := by simpa using h.symm
  have b : ¬ m < n := by simpa using h'.symm
  omega
theorem beq_code (k n m : Int) (h0 : 0 ≤ n) (h1 : n ≤ 999999) (g0 : 0 ≤ m) (g1 : m ≤ 999999) : (codeL k n == codeL k m) = (n == m) := by
  by_cases e : n = m
  · subst e; simp
  · have : ¬ codeL k n = codeL k m := fun h => e (code_inj h0 h1 g0 g1 h)
    rw [beq_eq_false_iff_ne.2 this, beq_eq_false_iff_ne.2 e]
end Go.Proofs.YtfmjconjgfhfbaaDoor.Id
