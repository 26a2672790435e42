/- the reference of permits: Fell, Left, Same, walked. -/
import Derived.Test.YtgonghmihghhnaaDoorRf0
import Derived.Test.YtgonghmihghhnaaDoorPe3
namespace Go.Proofs.YtgonghmihghhnaaDoor.Pe
open Go.RowKit Go.Proofs.YtgonghmihghhnaaDoor.Id

theorem RReg.cells {W : World} {G : Nat → Prop} {v1 v2 : Value} {ps : List Perm} {ls : List Int} (h : RReg W G v1 v2 ps ls) {k : Nat} {p : Perm} (hp : ps[k]? = some p) :
    ∃ g1 o1 c1 g2 o2 c2 l, v1 = .slice (some ⟨g1, o1, none⟩) ps.length c1 ∧ v2 = .slice (some ⟨g2, o2, none⟩) ls.length c2 ∧ g1 < W.heap.size ∧ g2 < W.heap.size ∧ ls[k]? = some l ∧ k < ps.length ∧ k < ls.length ∧ ps.length ≤ 16 ∧ ls.length ≤ 16 ∧
      W.cell? ⟨g1, o1 + k * 5 + 1, none⟩ = some (.string p.psp) ∧ W.cell? ⟨g1, o1 + k * 5 + 2, none⟩ = some (.int .i64 p.pfr) ∧ W.cell? ⟨g1, o1 + k * 5 + 3, none⟩ = some (.int .i64 p.pun) ∧
      W.cell? ⟨g2, o2 + k, none⟩ = some (.int .i64 l) := by
  obtain ⟨h1, h2, h3, _, _⟩ := h
  have hk := (List.getElem?_eq_some_iff.1 hp).1
  obtain ⟨l, hl, _⟩ := h3.left hp
  have hk2 := (List.getElem?_eq_some_iff.1 hl).1
  have hn := h3.2.1
  have hn2 := h3.1
  rcases h1.2.2 with ⟨h0, _⟩ | ⟨g1, o1, c1, e1, _, b1, x1⟩
  · omega
  rcases h2.2.2 with ⟨h0, _⟩ | ⟨g2, o2, c2, e2, _, b2, x2⟩
  · omega
  refine ⟨g1, o1, c1, g2, o2, c2, l, e1, e2, b1, b2, hl, hk, hk2, hn, by omega, x1 (k * 5 + 1) _ (pcells_at hp (j := 1) (by omega)), x1 (k * 5 + 2) _ (pcells_at hp (j := 2) (by omega)), x1 (k * 5 + 3) _ (pcells_at hp (j := 3) (by omega)), x2 k _ ?_⟩
  simp [lcells, hl]

set_option maxHeartbeats 1000000 in
theorem rFell_any (G : Nat → Prop) (v1 v2 : Value) (ps : List Perm) (ls : List Int) (s sp : ByteArray) (at_ : Int) (w : World) (hR : RReg w G v1 v2 ps ls) :
    Calls Tryd.prog 25 #[.agg #[v1, v2], .string s, .string sp, .int .i64 at_] w fun e w' => e = .returned (.int .i64 (fellE ps s sp at_)) ∧ Below w.heap.size w w' := by
  have HR := Lib.hid hR
  clear hR
  have HW := Lib.hid (bA (Below.refl w.heap.size w) (.cells #[v1, v2] 48))
  have c := rfind_any v1 v2 ps s _ (HR.out.1.below HW.out)
  rcases findI_cases ps s with ⟨h1, _⟩ | ⟨k, p, hp, h1, h2, _⟩
  · rw [h1] at c
    have HC := Lib.hid c
    rw [fellE_none h1]
    clear c h1
    go_enter Tryd.func25, Tryd.ntmps25
    go_wp2_with fail
    refine HC.out.mono ?_
    rintro e w1 ⟨rfl, b1⟩
    go_wp2
    go_ret
    exact ⟨rfl, bT HW.out b1⟩
  · rw [h1] at c
    have HC := Lib.hid c
    rw [fellE_at h1 hp]
    clear c h1
    obtain ⟨g1, o1, c1, g2, o2, c2, l, e1, e2, q1, q2, hl, hk, hk2, hn, hn2, d1, d2, d3, d4⟩ := HR.out.cells hp
    subst e1 e2
    have HD := Lib.hid (And.intro d1 (And.intro d2 d3))
    clear hp h2 d1 d2 d3 d4 hl
    by_cases e1 : p.psp = sp
    · have e1' : (p.psp.toList == sp.toList) = true := by rw [str_eq]; simpa using e1
      rw [if_neg (by simp [e1])]
      clear e1
      by_cases e2 : at_ < p.pfr
      · rw [if_pos (.inl e2)]
        go_enter Tryd.func25, Tryd.ntmps25
        go_wp2_with fail
        refine HC.out.mono ?_
        rintro e w1 ⟨rfl, b1⟩
        have d0 := (b1.cell (show w.heap.size < _ by simp)).trans (cell_of_row _ w.heap.size 0 _ _ _ (heap_alloc_new w _))
        have d1 := ((bT HW.out b1).cell (p := ⟨g1, o1 + k * 5 + 1, none⟩) q1).trans HD.out.1
        have d2 := ((bT HW.out b1).cell (p := ⟨g1, o1 + k * 5 + 2, none⟩) q1).trans HD.out.2.1
        have d3 := ((bT HW.out b1).cell (p := ⟨g1, o1 + k * 5 + 3, none⟩) q1).trans HD.out.2.2
        go_wp2
        go_ret
        exact ⟨rfl, bT HW.out b1⟩
      · by_cases e3 : p.pun ≤ at_
        · rw [if_pos (.inr e3)]
          go_enter Tryd.func25, Tryd.ntmps25
          go_wp2_with fail
          refine HC.out.mono ?_
          rintro e w1 ⟨rfl, b1⟩
          have d0 := (b1.cell (show w.heap.size < _ by simp)).trans (cell_of_row _ w.heap.size 0 _ _ _ (heap_alloc_new w _))
          have d1 := ((bT HW.out b1).cell (p := ⟨g1, o1 + k * 5 + 1, none⟩) q1).trans HD.out.1
          have d2 := ((bT HW.out b1).cell (p := ⟨g1, o1 + k * 5 + 2, none⟩) q1).trans HD.out.2.1
          have d3 := ((bT HW.out b1).cell (p := ⟨g1, o1 + k * 5 + 3, none⟩) q1).trans HD.out.2.2
          go_wp2
          go_ret
          exact ⟨rfl, bT HW.out b1⟩
        · rw [if_neg (by omega)]
          go_enter Tryd.func25, Tryd.ntmps25
          go_wp2_with fail
          refine HC.out.mono ?_
          rintro e w1 ⟨rfl, b1⟩
          have d0 := (b1.cell (show w.heap.size < _ by simp)).trans (cell_of_row _ w.heap.size 0 _ _ _ (heap_alloc_new w _))
          have d1 := ((bT HW.out b1).cell (p := ⟨g1, o1 + k * 5 + 1, none⟩) q1).trans HD.out.1
          have d2 := ((bT HW.out b1).cell (p := ⟨g1, o1 + k * 5 + 2, none⟩) q1).trans HD.out.2.1
          have d3 := ((bT HW.out b1).cell (p := ⟨g1, o1 + k * 5 + 3, none⟩) q1).trans HD.out.2.2
          go_wp2
          go_ret
          exact ⟨rfl, bT HW.out b1⟩
    · have e1' : (p.psp.toList == sp.toList) = false := by rw [str_eq]; simpa using e1
      rw [if_pos e1]
      clear e1
      go_enter Tryd.func25, Tryd.ntmps25
      go_wp2_with fail
      refine HC.out.mono ?_
      rintro e w1 ⟨rfl, b1⟩
      have d0 := (b1.cell (show w.heap.size < _ by simp)).trans (cell_of_row _ w.heap.size 0 _ _ _ (heap_alloc_new w _))
      have d1 := ((bT HW.out b1).cell (p := ⟨g1, o1 + k * 5 + 1, none⟩) q1).trans HD.out.1
      go_wp2
      go_ret
      exact ⟨rfl, bT HW.out b1⟩

set_option maxHeartbeats 1000000 in
theorem rLeft_any (G : Nat → Prop) (v1 v2 : Value) (ps : List Perm) (ls : List Int) (s : ByteArray) (w : World) (hR : RReg w G v1 v2 ps ls) :
    Calls Tryd.prog 27 #[.agg #[v1, v2], .string s] w fun e w' => e = .returned (.tuple #[.int .i64 (leftN ps ls s), .bool (leftB ps s)]) ∧ Below w.heap.size w w' := by
  have HR := Lib.hid hR
  clear hR
  have HW := Lib.hid (bA (Below.refl w.heap.size w) (.cells #[v1, v2] 48))
  have c := rfind_any v1 v2 ps s _ (HR.out.1.below HW.out)
  rcases findI_cases ps s with ⟨h1, _⟩ | ⟨k, p, hp, h1, h2, _⟩
  · rw [h1] at c
    have HC := Lib.hid c
    rw [show leftN ps ls s = 0 by simp [leftN, h1], show leftB ps s = false by simp [leftB, h1]]
    clear c h1
    go_enter Tryd.func27, Tryd.ntmps27
    go_wp2_with fail
    refine HC.out.mono ?_
    rintro e w1 ⟨rfl, b1⟩
    go_wp2
    go_ret2
    exact ⟨rfl, bT HW.out b1⟩
  · rw [h1] at c
    have HC := Lib.hid c
    obtain ⟨g1, o1, c1, g2, o2, c2, l, e1, e2, q1, q2, hl, hk, hk2, hn, hn2, d1, d2, d3, d4⟩ := HR.out.cells hp
    rw [show leftB ps s = true by simp [leftB, h1], leftN_at h1 hl]
    subst e1 e2
    have HD := Lib.hid d4
    clear c h1 hp h2 d1 d2 d3 d4 hl
    go_enter Tryd.func27, Tryd.ntmps27
    go_wp2_with fail
    refine HC.out.mono ?_
    rintro e w1 ⟨rfl, b1⟩
    have d1 := (b1.cell (show w.heap.size < _ by simp)).trans (cell_of_row _ w.heap.size 1 _ _ _ (heap_alloc_new w _))
    have d4 := ((bT HW.out b1).cell (p := ⟨g2, o2 + k, none⟩) q2).trans HD.out
    go_wp2
    go_ret2
    exact ⟨rfl, bT HW.out b1⟩
end Go.Proofs.YtgonghmihghhnaaDoor.Pe
