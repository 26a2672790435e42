/- permit: the methods that only read, and Use, walked. -/
import Derived.Test.YtgonghmihghhnaaDoorPe1
namespace Go.Proofs.YtgonghmihghhnaaDoor.Pe
open Go.RowKit Go.Proofs.YtgonghmihghhnaaDoor.Id

/-- The register at block b; F: its blocks. -/
def Reg (W : World) (F : Nat → Prop) (b : Nat) (ps : List Perm) (ls : List Int) : Prop :=
  ∃ v1 v2, W.heap[b]? = some (.cells #[v1, v2] 87 (0, 0)) ∧ W.ownsRow 0 50 5 v1 ps.length (pcells ps) ∧ W.ownsRow 0 3 1 v2 ps.length (ucells ps ls) ∧ Inv ps ls ∧
    F b ∧ (∀ k, v1.ownBlock = some k → F k) ∧ (∀ k, v2.ownBlock = some k → F k)
theorem Reg.keep {W W' : World} {F G : Nat → Prop} {b : Nat} {ps : List Perm} {ls : List Int} (h : Reg W F b ps ls) (hk : Keeps G W W') (hG : ∀ k, F k → ¬ G k) : Reg W' F b ps ls := by
  obtain ⟨v1, v2, h1, h2, h3, h4, h5, h6, h7⟩ := h
  exact ⟨v1, v2, (hk.block b (Array.getElem?_eq_some_iff.1 h1).1 (hG b h5)).trans h1, own_keep h2 (fun k e hlt => hk.block k hlt (hG k (h6 k e))), own_keep h3 (fun k e hlt => hk.block k hlt (hG k (h7 k e))), h4, h5, h6, h7⟩
theorem Reg.below {W W' : World} {F : Nat → Prop} {b : Nat} {ps : List Perm} {ls : List Int} (h : Reg W F b ps ls) (hk : Below W.heap.size W W') : Reg W' F b ps ls :=
  h.keep (Keeps.of_below (fun _ => False) hk) (fun _ _ h => h)
theorem Reg.inv {W : World} {F : Nat → Prop} {b : Nat} {ps : List Perm} {ls : List Int} (h : Reg W F b ps ls) : Inv ps ls := by
  obtain ⟨v1, v2, _, _, _, h4, _⟩ := h; exact h4

theorem isTime_any (t : Int) (w : World) : Calls Tryd.prog 45 #[.int .i64 t] w fun e w' => e = .returned (.bool (timeB t)) ∧ w = w' := by
  by_cases h1 : 0 ≤ t
  · by_cases h2 : t ≤ 10000000
    · rw [show timeB t = true by simp [timeB, h1, h2]]
      go_enter Tryd.func45, Tryd.ntmps45
      go_wp2
      go_ret
      exact ⟨rfl, rfl⟩
    · rw [show timeB t = false by simp [timeB, h2]]
      go_enter Tryd.func45, Tryd.ntmps45
      go_wp2
      go_ret
      exact ⟨rfl, rfl⟩
  · rw [show timeB t = false by simp [timeB, h1]]
    go_enter Tryd.func45, Tryd.ntmps45
    go_wp2
    go_ret
    exact ⟨rfl, rfl⟩

theorem New_any (w : World) : Calls Tryd.prog 19 #[] w fun e w' => e = .returned (.pointer (some ⟨w.heap.size, 0, none⟩)) ∧ Reg w' (fun k => k = w.heap.size) w.heap.size [] [] ∧ Below w.heap.size w w' ∧ w.heap.size < w'.heap.size := by
  go_enter Tryd.func19, Tryd.ntmps19
  go_wp2
  go_ret
  refine ⟨rfl, ⟨.slice none 0 0, .slice none 0 0, heap_alloc_new w _, World.ownsRow_nil _ _ _ _, World.ownsRow_nil _ _ _ _, Inv.nil, rfl, fun k h => ?_, fun k h => ?_⟩, (Below.refl _ _).alloc (Nat.le_refl _) _, by simp⟩
  · simp [Value.ownBlock] at h
  · simp [Value.ownBlock] at h

theorem find_reg (b : Nat) (F : Nat → Prop) (ps : List Perm) (ls : List Int) (s : ByteArray) (w : World) (hR : Reg w F b ps ls) :
    Calls Tryd.prog 44 #[.pointer (some ⟨b, 0, none⟩), .string s] w fun e w' => e = .returned (.int .i64 (findI ps s)) ∧ Below w.heap.size w w' := by
  obtain ⟨v1, v2, h1, h2, _⟩ := hR
  exact find_any b v1 v2 ps s w h1 (SliceIs.of_own h2)
/-- the cells of one permit and of what was used of it -/
theorem Reg.cells {W : World} {F : Nat → Prop} {b : Nat} {ps : List Perm} {ls : List Int} (h : Reg W F b ps ls) {k : Nat} {p : Perm} (hp : ps[k]? = some p) :
    ∃ g1 c1 g2 c2 l, W.cell? ⟨b, 0, none⟩ = some (.slice (some ⟨g1, 0, none⟩) ps.length c1) ∧ W.cell? ⟨b, 1, none⟩ = some (.slice (some ⟨g2, 0, none⟩) ps.length c2) ∧ ls[k]? = some l ∧ 0 ≤ l ∧ l ≤ p.pqu ∧ p.pqu ≤ 1125899906842624 ∧ k < ps.length ∧ ps.length ≤ 16 ∧
      W.cell? ⟨g1, k * 5 + 1, none⟩ = some (.string p.psp) ∧ W.cell? ⟨g1, k * 5 + 2, none⟩ = some (.int .i64 p.pfr) ∧ W.cell? ⟨g1, k * 5 + 3, none⟩ = some (.int .i64 p.pun) ∧ W.cell? ⟨g1, k * 5 + 4, none⟩ = some (.int .i64 p.pqu) ∧
      W.cell? ⟨g2, k, none⟩ = some (.int .i64 (p.pqu - l)) := by
  obtain ⟨v1, v2, h1, h2, h3, h4, _⟩ := h
  have hk := (List.getElem?_eq_some_iff.1 hp).1
  obtain ⟨l, hl, b1, b2, b3⟩ := h4.left hp
  obtain ⟨g1, c1, rfl, _, _⟩ := h2.form (by omega)
  obtain ⟨g2, c2, rfl, _, _⟩ := h3.form (by omega)
  refine ⟨g1, c1, g2, c2, l, by rw [cell_of_row W b 0 _ _ _ h1]; rfl, by rw [cell_of_row W b 1 _ _ _ h1]; rfl, hl, b1, b2, b3, hk, h4.2.1, ?_, ?_, ?_, ?_, ?_⟩
  · rw [h2.cellAt _ (by omega), pcells_at hp (by omega)]; rfl
  · rw [h2.cellAt _ (by omega), pcells_at hp (by omega)]; rfl
  · rw [h2.cellAt _ (by omega), pcells_at hp (by omega)]; rfl
  · rw [h2.cellAt _ (by omega), pcells_at hp (by omega)]; rfl
  · rw [h3.cellAt _ (by omega), ucells_at hp hl]

theorem fellE_none {ps : List Perm} {s sp : ByteArray} {at_ : Int} (h : findI ps s = -1) : fellE ps s sp at_ = 8 := by simp [fellE, h]
theorem fellE_at {ps : List Perm} {s sp : ByteArray} {at_ : Int} {k : Nat} {p : Perm} (h : findI ps s = k) (hp : ps[k]? = some p) : fellE ps s sp at_ = if p.psp ≠ sp then 24 else if at_ < p.pfr ∨ p.pun ≤ at_ then 15 else 0 := by
  unfold fellE
  rw [h, if_neg (by omega), Int.toNat_natCast, hp]
theorem leftN_at {ps : List Perm} {ls : List Int} {s : ByteArray} {k : Nat} {l : Int} (h : findI ps s = k) (hl : ls[k]? = some l) : leftN ps ls s = l := by
  unfold leftN
  rw [h, if_neg (by omega), Int.toNat_natCast, List.getD_eq_getElem?_getD, hl]; rfl
theorem useE_at {ps : List Perm} {ls : List Int} {s : ByteArray} {v : Int} {k : Nat} {l : Int} (h : findI ps s = k) (hl : ls[k]? = some l) : useE ps ls s v = if v < 1 ∨ 1125899906842624 < v then 9 else if l < v then 23 else 0 := by
  unfold useE
  rw [h, if_neg (by omega), Int.toNat_natCast, List.getD_eq_getElem?_getD, hl]; rfl
theorem useL_at {ps : List Perm} {ls : List Int} {s : ByteArray} {v : Int} {k : Nat} {l : Int} (h : findI ps s = k) (hl : ls[k]? = some l) (he : useE ps ls s v = 0) : useL ps ls s v = ls.set k (l - v) := by
  unfold useL
  rw [if_pos he, h, Int.toNat_natCast, List.getD_eq_getElem?_getD, hl]; rfl

set_option maxHeartbeats 1000000 in
theorem Fell_any (b : Nat) (F : Nat → Prop) (ps : List Perm) (ls : List Int) (s sp : ByteArray) (at_ : Int) (w : World) (hR : Reg w F b ps ls) :
    Calls Tryd.prog 24 #[.pointer (some ⟨b, 0, none⟩), .string s, .string sp, .int .i64 at_] w fun e w' => e = .returned (.int .i64 (fellE ps s sp at_)) ∧ Below w.heap.size w w' := by
  have HR := Lib.hid hR
  clear hR
  have c := find_reg b F ps ls s w HR.out
  rcases findI_cases ps s with ⟨h1, _⟩ | ⟨k, p, hp, h1, h2, _⟩
  · rw [h1] at c
    have HC := Lib.hid c
    rw [fellE_none h1]
    clear c h1
    go_enter Tryd.func24, Tryd.ntmps24
    go_wp2_with (go_at_call 44; refine HC.out.mono ?_; rintro e w1 ⟨rfl, b1⟩)
    go_ret
    exact ⟨rfl, b1⟩
  · rw [h1] at c
    have HC := Lib.hid c
    rw [fellE_at h1 hp]
    clear c h1
    have HP := Lib.hid hp
    clear hp h2
    by_cases e1 : p.psp = sp
    · have e1' : (p.psp.toList == sp.toList) = true := by rw [str_eq]; simpa using e1
      rw [if_neg (by simp [e1])]
      clear e1
      by_cases e2 : at_ < p.pfr
      · rw [if_pos (.inl e2)]
        go_enter Tryd.func24, Tryd.ntmps24
        go_wp2_with fail
        refine HC.out.mono ?_
        rintro e w1 ⟨rfl, b1⟩
        obtain ⟨g1, c1, g2, c2, l, q0, q1, _, _, _, _, hk, hn, d1, d2, d3, d4, d5⟩ := (HR.out.below b1).cells HP.out
        go_wp2
        go_ret
        exact ⟨rfl, b1⟩
      · by_cases e3 : p.pun ≤ at_
        · rw [if_pos (.inr e3)]
          go_enter Tryd.func24, Tryd.ntmps24
          go_wp2_with fail
          refine HC.out.mono ?_
          rintro e w1 ⟨rfl, b1⟩
          obtain ⟨g1, c1, g2, c2, l, q0, q1, _, _, _, _, hk, hn, d1, d2, d3, d4, d5⟩ := (HR.out.below b1).cells HP.out
          go_wp2
          go_ret
          exact ⟨rfl, b1⟩
        · rw [if_neg (by omega)]
          go_enter Tryd.func24, Tryd.ntmps24
          go_wp2_with fail
          refine HC.out.mono ?_
          rintro e w1 ⟨rfl, b1⟩
          obtain ⟨g1, c1, g2, c2, l, q0, q1, _, _, _, _, hk, hn, d1, d2, d3, d4, d5⟩ := (HR.out.below b1).cells HP.out
          go_wp2
          go_ret
          exact ⟨rfl, b1⟩
    · have e1' : (p.psp.toList == sp.toList) = false := by rw [str_eq]; simpa using e1
      rw [if_pos e1]
      clear e1
      go_enter Tryd.func24, Tryd.ntmps24
      go_wp2_with fail
      refine HC.out.mono ?_
      rintro e w1 ⟨rfl, b1⟩
      obtain ⟨g1, c1, g2, c2, l, q0, q1, _, _, _, _, hk, hn, d1, d2, d3, d4, d5⟩ := (HR.out.below b1).cells HP.out
      go_wp2
      go_ret
      exact ⟨rfl, b1⟩
end Go.Proofs.YtgonghmihghhnaaDoor.Pe
