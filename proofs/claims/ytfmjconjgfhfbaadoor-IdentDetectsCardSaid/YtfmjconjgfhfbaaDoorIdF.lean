/- Plain facts on codes: a changed byte, two exchanged bytes. No Go. -/
import Derived.Test.YtfmjconjgfhfbaaDoorIdE
namespace Go.Proofs.YtfmjconjgfhfbaaDoor.Id

/-- the bytes of a code, one by one -/
theorem code_bytes {k n : Int} (hk : capB k = true) (h0 : 0 ≤ n) (h1 : n ≤ 999999) : ∃ c0 c1 c2 c3 c4 c5 c6 c7 : UInt8, codeL k n = [c0, c1, c2, c3, c4, c5, c6, c7] ∧ (c0.toNat : Int) = k ∧ (65 ≤ (c0.toNat : Int) ∧ (c0.toNat : Int) ≤ 90) ∧ (48 ≤ (c1.toNat : Int) ∧ (c1.toNat : Int) ≤ 57) ∧ (48 ≤ (c2.toNat : Int) ∧ (c2.toNat : Int) ≤ 57) ∧ (48 ≤ (c3.toNat : Int) ∧ (c3.toNat : Int) ≤ 57) ∧ (48 ≤ (c4.toNat : Int) ∧ (c4.toNat : Int) ≤ 57) ∧ (48 ≤ (c5.toNat : Int) ∧ (c5.toNat : Int) ≤ 57) ∧ (48 ≤ (c6.toNat : Int) ∧ (c6.toNat : Int) ≤ 57) ∧ (c7.toNat : Int) = 65 + ((c0.toNat : Int) + 2 * c1.toNat + 3 * c2.toNat + 4 * c3.toNat + 5 * c4.toNat + 6 * c5.toNat + 7 * c6.toNat) % 23 := by
  obtain ⟨e1, e2, _⟩ := split_code hk h0 h1
  obtain ⟨c0, c1, c2, c3, c4, c5, c6, c7, hl, g0, g1, g2, g3, g4, g5, g6, g7⟩ := split_zero e1
  rw [hl] at e1 e2
  rw [letM_7] at g7
  exact ⟨c0, c1, c2, c3, c4, c5, c6, c7, hl, by rw [← e2, splitK_yes e1], capB_of g0, digB_of g1, digB_of g2, digB_of g3, digB_of g4, digB_of g5, digB_of g6, g7⟩
theorem isB_bytes {c0 c1 c2 c3 c4 c5 c6 c7 : UInt8} {k : Int} (h : isB [c0, c1, c2, c3, c4, c5, c6, c7] k = true) : (c0.toNat : Int) = k ∧ (65 ≤ (c0.toNat : Int) ∧ (c0.toNat : Int) ≤ 90) ∧ (48 ≤ (c1.toNat : Int) ∧ (c1.toNat : Int) ≤ 57) ∧ (48 ≤ (c2.toNat : Int) ∧ (c2.toNat : Int) ≤ 57) ∧ (48 ≤ (c3.toNat : Int) ∧ (c3.toNat : Int) ≤ 57) ∧ (48 ≤ (c4.toNat : Int) ∧ (c4.toNat : Int) ≤ 57) ∧ (48 ≤ (c5.toNat : Int) ∧ (c5.toNat : Int) ≤ 57) ∧ (48 ≤ (c6.toNat : Int) ∧ (c6.toNat : Int) ≤ 57) ∧ (c7.toNat : Int) = 65 + ((c0.toNat : Int) + 2 * c1.toNat + 3 * c2.toNat + 4 * c3.toNat + 5 * c4.toNat + 6 * c5.toNat + 7 * c6.toNat) % 23 := by
  simp only [isB, Bool.and_eq_true, beq_iff_eq] at h
  obtain ⟨e1, e2⟩ := h
  obtain ⟨d0, d1, d2, d3, d4, d5, d6, d7, hl, g0, g1, g2, g3, g4, g5, g6, g7⟩ := split_zero e1
  simp only [List.cons.injEq, and_true] at hl
  obtain ⟨rfl, rfl, rfl, rfl, rfl, rfl, rfl, rfl⟩ := hl
  rw [letM_7] at g7
  exact ⟨by rw [← e2, splitK_yes e1], capB_of g0, digB_of g1, digB_of g2, digB_of g3, digB_of g4, digB_of g5, digB_of g6, g7⟩
theorem ne_int {a b : UInt8} (h : a ≠ b) : (a.toNat : Int) ≠ b.toNat := fun e => h (UInt8.toNat_inj.1 (by omega))

theorem detect_set {k n : Int} (hk : capB k = true) (h0 : 0 ≤ n) (h1 : n ≤ 999999) (i : Nat) (hi : i < 8) (d : UInt8) (hd : d ≠ (codeL k n).getD i 0) : isB ((codeL k n).set i d) k = false := by
  obtain ⟨c0, c1, c2, c3, c4, c5, c6, c7, hl, e0, b0, b1, b2, b3, b4, b5, b6, b7⟩ := code_bytes hk h0 h1
  rw [hl] at hd ⊢
  cases hb : isB ([c0, c1, c2, c3, c4, c5, c6, c7].set i d) k with
  | false => rfl
  | true =>
    exfalso
    have hi' : i = 0 ∨ i = 1 ∨ i = 2 ∨ i = 3 ∨ i = 4 ∨ i = 5 ∨ i = 6 ∨ i = 7 := by omega
    rcases hi' with rfl | rfl | rfl | rfl | rfl | rfl | rfl | rfl
    · have hn := ne_int (show d ≠ c0 from hd)
      obtain ⟨f0, a0, a1, a2, a3, a4, a5, a6, a7⟩ := isB_bytes hb
      omega
    · have hn := ne_int (show d ≠ c1 from hd)
      obtain ⟨f0, a0, a1, a2, a3, a4, a5, a6, a7⟩ := isB_bytes hb
      omega
    · have hn := ne_int (show d ≠ c2 from hd)
      obtain ⟨f0, a0, a1, a2, a3, a4, a5, a6, a7⟩ := isB_bytes hb
      omega
    · have hn := ne_int (show d ≠ c3 from hd)
      obtain ⟨f0, a0, a1, a2, a3, a4, a5, a6, a7⟩ := isB_bytes hb
      omega
    · have hn := ne_int (show d ≠ c4 from hd)
      obtain ⟨f0, a0, a1, a2, a3, a4, a5, a6, a7⟩ := isB_bytes hb
      omega
    · have hn := ne_int (show d ≠ c5 from hd)
      obtain ⟨f0, a0, a1, a2, a3, a4, a5, a6, a7⟩ := isB_bytes hb
      omega
    · have hn := ne_int (show d ≠ c6 from hd)
      obtain ⟨f0, a0, a1, a2, a3, a4, a5, a6, a7⟩ := isB_bytes hb
      omega
    · have hn := ne_int (show d ≠ c7 from hd)
      obtain ⟨f0, a0, a1, a2, a3, a4, a5, a6, a7⟩ := isB_bytes hb
      omega
theorem detect_swap {k n : Int} (hk : capB k = true) (h0 : 0 ≤ n) (h1 : n ≤ 999999) (i : Nat) (hi : i < 7) (hd : (codeL k n).getD i 0 ≠ (codeL k n).getD (i + 1) 0) : isB (((codeL k n).set i ((codeL k n).getD (i + 1) 0)).set (i + 1) ((codeL k n).getD i 0)) k = false := by
  obtain ⟨c0, c1, c2, c3, c4, c5, c6, c7, hl, e0, b0, b1, b2, b3, b4, b5, b6, b7⟩ := code_bytes hk h0 h1
  rw [hl] at hd ⊢
  cases hb : isB (([c0, c1, c2, c3, c4, c5, c6, c7].set i ([c0, c1, c2, c3, c4, c5, c6, c7].getD (i + 1) 0)).set (i + 1) ([c0, c1, c2, c3, c4, c5, c6, c7].getD i 0)) k with
  | false => rfl
  | true =>
    exfalso
    have hi' : i = 0 ∨ i = 1 ∨ i = 2 ∨ i = 3 ∨ i = 4 ∨ i = 5 ∨ i = 6 := by omega
    rcases hi' with rfl | rfl | rfl | rfl | rfl | rfl | rfl
    · have hn := ne_int (show c0 ≠ c1 from hd)
      obtain ⟨f0, a0, a1, a2, a3, a4, a5, a6, a7⟩ := isB_bytes (show isB [c1, c0, c2, c3, c4, c5, c6, c7] k = true from hb)
      omega
    · have hn := ne_int (show c1 ≠ c2 from hd)
      obtain ⟨f0, a0, a1, a2, a3, a4, a5, a6, a7⟩ := isB_bytes (show isB [c0, c2, c1, c3, c4, c5, c6, c7] k = true from hb)
      omega
    · have hn := ne_int (show c2 ≠ c3 from hd)
      obtain ⟨f0, a0, a1, a2, a3, a4, a5, a6, a7⟩ := isB_bytes (show isB [c0, c1, c3, c2, c4, c5, c6, c7] k = true from hb)
      omega
    · have hn := ne_int (show c3 ≠ c4 from hd)
      obtain ⟨f0, a0, a1, a2, a3, a4, a5, a6, a7⟩ := isB_bytes (show isB [c0, c1, c2, c4, c3, c5, c6, c7] k = true from hb)
      omega
    · have hn := ne_int (show c4 ≠ c5 from hd)
      obtain ⟨f0, a0, a1, a2, a3, a4, a5, a6, a7⟩ := isB_bytes (show isB [c0, c1, c2, c3, c5, c4, c6, c7] k = true from hb)
      omega
    · have hn := ne_int (show c5 ≠ c6 from hd)
      obtain ⟨f0, a0, a1, a2, a3, a4, a5, a6, a7⟩ := isB_bytes (show isB [c0, c1, c2, c3, c4, c6, c5, c7] k = true from hb)
      omega
    · have hn := ne_int (show c6 ≠ c7 from hd)
      obtain ⟨f0, a0, a1, a2, a3, a4, a5, a6, a7⟩ := isB_bytes (show isB [c0, c1, c2, c3, c4, c5, c7, c6] k = true from hb)
      omega
end Go.Proofs.YtfmjconjgfhfbaaDoor.Id
