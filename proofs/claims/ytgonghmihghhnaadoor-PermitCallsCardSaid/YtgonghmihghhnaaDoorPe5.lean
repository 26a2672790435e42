/- permit: Add joined; List, walked. -/
import Derived.Test.YtgonghmihghhnaaDoorPe4
import Derived.Laws.AppendOwnNone
namespace Go.Proofs.YtgonghmihghhnaaDoor.Pe
open Go.RowKit Go.Proofs.YtgonghmihghhnaaDoor.Id

theorem pcells_one (ps : List Perm) : ∀ u ∈ pcells ps, u.oneCell' = true := by
  intro u hu
  obtain ⟨p, _, h⟩ := List.mem_flatMap.1 hu
  exact perm_one p u h
theorem Add_any (b : Nat) (F : Nat → Prop) (ps : List Perm) (ls : List Int) (p : Perm) (w : World) (hR : Reg w F b ps ls) (hs1 : p.pid.size ≤ 140737488355328) (hs2 : p.psp.size ≤ 140737488355328) :
    Calls Tryd.prog 21 #[.pointer (some ⟨b, 0, none⟩), p.val] w fun e w' => e = .returned (.int .i64 (addE ps p)) ∧ Added F b (addP ps p) (addL ps ls p) w w' := by
  by_cases he : addE ps p = 0
  · rw [addP, addL, if_pos he, if_pos he, he]
    exact Add_ok b F ps ls p w hR hs1 hs2 he
  · obtain ⟨e1, e2⟩ := addE_bad (ls := ls) rfl he
    rw [e1, e2]
    refine (Add_bad b F ps ls p w hR hs1 hs2 _ he rfl).mono ?_
    rintro e w' ⟨h1, h2⟩
    exact ⟨h1, Added.same hR h2⟩

set_option maxHeartbeats 1000000 in
set_option maxRecDepth 100000 in
theorem List_any (b : Nat) (F : Nat → Prop) (ps : List Perm) (ls : List Int) (w : World) (hR : Reg w F b ps ls) :
    Calls Tryd.prog 29 #[.pointer (some ⟨b, 0, none⟩)] w fun e w' => ∃ v, e = .returned v ∧ w'.ownsRow w.heap.size 50 5 v ps.length (pcells ps) ∧ Below w.heap.size w w' := by
  obtain ⟨v1, v2, h1, h2, h3, h4, h5, h6, h7⟩ := hR
  have c0 : w.cell? ⟨b, 0, none⟩ = some v1 := by rw [cell_of_row w b 0 _ _ _ h1]; rfl
  have cA : ∀ o, (w.alloc o).cell? ⟨b, 0, none⟩ = some v1 := fun o => by
    rw [cell_of_row _ b 0 _ _ _ ((heap_alloc_old w o (Array.getElem?_eq_some_iff.1 h1).1).trans h1)]; rfl
  obtain ⟨i0, hi, hz0, hz1, hz2⟩ := info_parts infoPermit
  have hO := Lib.hid (World.ownsRow_lit (base := w.heap.size) (e := 50) (size := 5) w #[] 0 (Nat.le_refl _) (by unfold maxLen; omega) rfl)
  rcases h2.2 with ⟨rfl, h0⟩ | ⟨g, cap, cur, rfl, hg, hgg, hnc, hcm, hcs, htk⟩
  · obtain rfl := List.eq_nil_of_length_eq_zero h0
    have H := Lib.hid h1
    clear h1 h2 h3 h4 h5 h6 h7
    go_enter Tryd.func29, Tryd.ntmps29
    go_wp2_with (at_builtin; refine wpList_append_own_none rfl (.tmp 11) (.tmp 18) 45 (by rfl) w.heap.size 50 i0 5 undPermits hi (.slice (some ⟨w.heap.size, 0, none⟩) 0 0) 0 [] (by rfl) hO.out (by rfl) ?_)
    go_ret
    exact ⟨_, rfl, hO.out, bA (Below.refl _ _) _⟩
  · have hn := h4.2.1
    have HO := Lib.hid h2
    have H := Lib.hid h1
    have hnews : ∀ j u, (pcells ps)[j]? = some u → (w.alloc (.cells #[] 50)).cell? ((⟨g, 0, none⟩ : Addr).add j) = some u := fun j u hu => by
      have hj : j < ps.length * 5 := by have := (List.getElem?_eq_some_iff.1 hu).1; rwa [pcells_len] at this
      have hadd : (⟨g, 0, none⟩ : Addr).add j = ⟨g, j, none⟩ := by unfold Addr.add; split <;> simp_all
      rw [hadd, (bA (Below.refl _ w) _).cell (Array.getElem?_eq_some_iff.1 hgg).1, h2.cellAt j hj]; exact hu
    have HN := Lib.hid hnews
    clear h1 h2 h3 h4 h5 h6 h7 hgg hcs htk hnews
    go_enter Tryd.func29, Tryd.ntmps29
    go_wp2_with (at_builtin; refine wpList_append_own_at _ rfl (.tmp 11) (.tmp 18) 45 (by rfl) w.heap.size 50 i0 _ 5 56 undPermits hi hz0 hz1 hz2 rfl (by omega) (.slice (some ⟨w.heap.size, 0, none⟩) 0 0) 0 [] (by rfl) hO.out ⟨g, 0, none⟩ ps.length ps.length (pcells ps) (by rfl) (pcells_len ps) HN.out (pcells_one ps) (by unfold maxLen; omega) (by omega) (by simp) ?_)
    intro v' w1 hown hgrow _ _
    have HW := Lib.hid hown
    clear hown
    go_wp2
    go_ret
    refine ⟨_, rfl, HW.out, ?_⟩
    exact (bA (Below.refl _ w) (.cells #[] 50)).trans ⟨hgrow.os, hgrow.tape, hgrow.output, hgrow.size, fun k hk => hgrow.block k (by simp; omega) (by simp [Value.ownBlock]; omega)⟩
end Go.Proofs.YtgonghmihghhnaaDoor.Pe
