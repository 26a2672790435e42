/- permit: Add, walked. -/
import Derived.Test.YtgonghmihghhnaaDoorPe3
import Derived.OwnWalk
import Derived.Deep.RegionLaw
namespace Go.Proofs.YtgonghmihghhnaaDoor.Pe
open Go.RowKit Go.Proofs.YtgonghmihghhnaaDoor.Id

theorem infoPermit : (Tryd.prog.info? 50).map (fun i => (i.zero, i.size, i.bytes)) = some (some (.agg #[.string ⟨#[]⟩, .string ⟨#[]⟩, .int .i64 0, .int .i64 0, .int .i64 0]), 5, 56) := by kernel_rfl
theorem infoInt : (Tryd.prog.info? 3).map (fun i => (i.zero, i.size, i.bytes)) = some (some (.int .i64 0), 1, 8) := by kernel_rfl
theorem undPermits : Tryd.prog.underlying 45 = some (.slice 50) := by kernel_rfl
theorem undInts : Tryd.prog.underlying 46 = some (.slice 3) := by kernel_rfl
theorem perm_one (p : Perm) : ∀ u ∈ p.cells, u.oneCell' = true := by intro u hu; simp [Perm.cells] at hu; rcases hu with rfl | rfl | rfl | rfl | rfl <;> rfl

def Perm.val (p : Perm) : Value := .agg #[.string p.pid, .string p.psp, .int .i64 p.pfr, .int .i64 p.pun, .int .i64 p.pqu]
theorem boxed (w w' : World) (p : Perm) (h : Below (w.alloc (.cells #[.string p.pid, .string p.psp, .int .i64 p.pfr, .int .i64 p.pun, .int .i64 p.pqu] 50)).heap.size (w.alloc (.cells #[.string p.pid, .string p.psp, .int .i64 p.pfr, .int .i64 p.pun, .int .i64 p.pqu] 50)) w') :
    w'.cell? ⟨w.heap.size, 0, none⟩ = some (.string p.pid) ∧ w'.cell? ⟨w.heap.size, 1, none⟩ = some (.string p.psp) ∧ w'.cell? ⟨w.heap.size, 2, none⟩ = some (.int .i64 p.pfr) ∧ w'.cell? ⟨w.heap.size, 3, none⟩ = some (.int .i64 p.pun) ∧ w'.cell? ⟨w.heap.size, 4, none⟩ = some (.int .i64 p.pqu) := by
  have hb := (h.block w.heap.size (by simp)).trans (heap_alloc_new w _)
  refine ⟨?_, ?_, ?_, ?_, ?_⟩ <;> (rw [cell_of_row _ _ _ _ _ _ hb]; rfl)
theorem bB {w w' : World} {o : Obj} (h : Below (w.alloc o).heap.size (w.alloc o) w') : Below w.heap.size w w' := ⟨h.os, h.tape, h.output, by have := h.size; simp at this; omega, fun k hk => (h.block k (by simp; omega)).trans (heap_alloc_old w o hk)⟩
theorem Reg.lens {W : World} {F : Nat → Prop} {b : Nat} {ps : List Perm} {ls : List Int} (h : Reg W F b ps ls) (hn : 0 < ps.length) : ∃ A c, W.cell? ⟨b, 0, none⟩ = some (.slice A ps.length c) := by
  obtain ⟨v1, v2, h1, h2, _⟩ := h
  obtain ⟨g, c, rfl, _⟩ := h2.form hn
  exact ⟨_, _, by rw [cell_of_row W b 0 _ _ _ h1]; rfl⟩
theorem addE_bad {ps : List Perm} {ls : List Int} {p : Perm} {c : Int} (h : addE ps p = c) (hc : c ≠ 0) : addP ps p = ps ∧ addL ps ls p = ls := by
  have : addE ps p ≠ 0 := by rw [h]; exact hc
  exact ⟨by rw [addP, if_neg this], by rw [addL, if_neg this]⟩
/-- what Add leaves -/
def Added (F : Nat → Prop) (b : Nat) (ps : List Perm) (ls : List Int) (w w' : World) : Prop :=
  ∃ F', Reg w' F' b ps ls ∧ (∀ k, F k → F' k) ∧ (∀ k, F' k → F k ∨ w.heap.size ≤ k) ∧ Keeps F w w'
theorem Added.same {F : Nat → Prop} {b : Nat} {ps : List Perm} {ls : List Int} {w w' : World} (h : Reg w F b ps ls) (hb : Below w.heap.size w w') : Added F b ps ls w w' :=
  ⟨F, h.below hb, fun _ h => h, fun _ h => .inl h, Keeps.of_below _ hb⟩

set_option maxHeartbeats 4000000 in
theorem Add_bad (b : Nat) (F : Nat → Prop) (ps : List Perm) (ls : List Int) (p : Perm) (w : World) (hR : Reg w F b ps ls) (hs1 : p.pid.size ≤ 140737488355328) (hs2 : p.psp.size ≤ 140737488355328) (c : Int) (hc : c ≠ 0) (he : addE ps p = c) :
    Calls Tryd.prog 21 #[.pointer (some ⟨b, 0, none⟩), p.val] w fun e w' => e = .returned (.int .i64 (addE ps p)) ∧ Below w.heap.size w w' := by
  have HE := Lib.hid he
  have HR := Lib.hid hR
  unfold Perm.val
  clear hR
  unfold addE at he
  by_cases q1 : isB p.pid.data.toList 80 = true
  · by_cases q2 : nameB p.psp.data.toList = true
    · rw [if_neg (by simp [q1, q2])] at he
      by_cases q3 : 0 ≤ findI ps p.pid
      · rw [if_pos q3] at he
        subst he
        go_enter Tryd.func21, Tryd.ntmps21
        go_wp2_with fail
        refine (Is_any _ _ _ hs1).mono ?_
        rintro e w1 ⟨rfl, b1⟩
        obtain ⟨x0, x1, x2, x3, x4⟩ := boxed w w1 p b1
        go_wp2_with fail
        refine (IsName_any _ _ hs2).mono ?_
        rintro e w2 ⟨rfl, rfl⟩
        go_wp2_with fail
        refine (find_reg b F ps ls _ _ (HR.out.below (bB b1))).mono ?_
        rintro e w2 ⟨rfl, b2⟩
        have b3 := bT b1 b2
        obtain ⟨y0, y1, y2, y3, y4⟩ := boxed w w2 p b3
        go_wp2_with fail
        go_ret
        exact ⟨ret_int HE.out.symm, bB b3⟩
      · rw [if_neg q3] at he
        by_cases t1 : timeB p.pfr = true
        · by_cases t2 : timeB p.pun = true
          · by_cases t3 : p.pun ≤ p.pfr
            · rw [if_pos (.inr (.inr t3))] at he
              subst he
              go_enter Tryd.func21, Tryd.ntmps21
              go_wp2_with fail
              refine (Is_any _ _ _ hs1).mono ?_
              rintro e w1 ⟨rfl, b1⟩
              obtain ⟨x0, x1, x2, x3, x4⟩ := boxed w w1 p b1
              go_wp2_with fail
              refine (IsName_any _ _ hs2).mono ?_
              rintro e w2 ⟨rfl, rfl⟩
              go_wp2_with fail
              refine (find_reg b F ps ls _ _ (HR.out.below (bB b1))).mono ?_
              rintro e w2 ⟨rfl, b2⟩
              have b3 := bT b1 b2
              obtain ⟨y0, y1, y2, y3, y4⟩ := boxed w w2 p b3
              go_wp2_with fail
              refine (isTime_any _ _).mono ?_
              rintro e w3 ⟨rfl, rfl⟩
              go_wp2_with fail
              refine (isTime_any _ _).mono ?_
              rintro e w4 ⟨rfl, rfl⟩
              go_wp2_with fail
              go_ret
              exact ⟨ret_int HE.out.symm, bB b3⟩
            · have t1' : 0 ≤ p.pfr ∧ p.pfr ≤ 10000000 := by simpa [timeB] using t1
              have t2' : 0 ≤ p.pun ∧ p.pun ≤ 10000000 := by simpa [timeB] using t2
              rw [if_neg (by omega)] at he
              by_cases r1 : p.pqu < 1
              · rw [if_pos (.inl r1)] at he
                subst he
                clear t1' t2'
                go_enter Tryd.func21, Tryd.ntmps21
                go_wp2_with fail
                refine (Is_any _ _ _ hs1).mono ?_
                rintro e w1 ⟨rfl, b1⟩
                obtain ⟨x0, x1, x2, x3, x4⟩ := boxed w w1 p b1
                go_wp2_with fail
                refine (IsName_any _ _ hs2).mono ?_
                rintro e w2 ⟨rfl, rfl⟩
                go_wp2_with fail
                refine (find_reg b F ps ls _ _ (HR.out.below (bB b1))).mono ?_
                rintro e w2 ⟨rfl, b2⟩
                have b3 := bT b1 b2
                obtain ⟨y0, y1, y2, y3, y4⟩ := boxed w w2 p b3
                go_wp2_with fail
                refine (isTime_any _ _).mono ?_
                rintro e w3 ⟨rfl, rfl⟩
                go_wp2_with fail
                refine (isTime_any _ _).mono ?_
                rintro e w4 ⟨rfl, rfl⟩
                go_wp2_with fail
                go_ret
                exact ⟨ret_int HE.out.symm, bB b3⟩
              · by_cases r2 : 1125899906842624 < p.pqu
                · rw [if_pos (.inr r2)] at he
                  subst he
                  clear t1' t2'
                  go_enter Tryd.func21, Tryd.ntmps21
                  go_wp2_with fail
                  refine (Is_any _ _ _ hs1).mono ?_
                  rintro e w1 ⟨rfl, b1⟩
                  obtain ⟨x0, x1, x2, x3, x4⟩ := boxed w w1 p b1
                  go_wp2_with fail
                  refine (IsName_any _ _ hs2).mono ?_
                  rintro e w2 ⟨rfl, rfl⟩
                  go_wp2_with fail
                  refine (find_reg b F ps ls _ _ (HR.out.below (bB b1))).mono ?_
                  rintro e w2 ⟨rfl, b2⟩
                  have b3 := bT b1 b2
                  obtain ⟨y0, y1, y2, y3, y4⟩ := boxed w w2 p b3
                  go_wp2_with fail
                  refine (isTime_any _ _).mono ?_
                  rintro e w3 ⟨rfl, rfl⟩
                  go_wp2_with fail
                  refine (isTime_any _ _).mono ?_
                  rintro e w4 ⟨rfl, rfl⟩
                  go_wp2_with fail
                  go_ret
                  exact ⟨ret_int HE.out.symm, bB b3⟩
                · rw [if_neg (by omega)] at he
                  by_cases r3 : 16 ≤ ps.length
                  · rw [if_pos r3] at he
                    subst he
                    clear t1' t2'
                    have hn : (ps.length : Int) ≥ 16 := by omega
                    have hm : ps.length ≤ 16 := HR.out.inv.2.1
                    go_enter Tryd.func21, Tryd.ntmps21
                    go_wp2_with fail
                    refine (Is_any _ _ _ hs1).mono ?_
                    rintro e w1 ⟨rfl, b1⟩
                    obtain ⟨x0, x1, x2, x3, x4⟩ := boxed w w1 p b1
                    go_wp2_with fail
                    refine (IsName_any _ _ hs2).mono ?_
                    rintro e w2 ⟨rfl, rfl⟩
                    go_wp2_with fail
                    refine (find_reg b F ps ls _ _ (HR.out.below (bB b1))).mono ?_
                    rintro e w2 ⟨rfl, b2⟩
                    have b3 := bT b1 b2
                    obtain ⟨v1, v2, h1⟩ := (HR.out.below (bB b3)).lens (by omega)
                    obtain ⟨y0, y1, y2, y3, y4⟩ := boxed w w2 p b3
                    go_wp2_with fail
                    refine (isTime_any _ _).mono ?_
                    rintro e w3 ⟨rfl, rfl⟩
                    go_wp2_with fail
                    refine (isTime_any _ _).mono ?_
                    rintro e w4 ⟨rfl, rfl⟩
                    go_wp2_with fail
                    go_ret
                    exact ⟨ret_int HE.out.symm, bB b3⟩
                  · rw [if_neg r3] at he
                    exact absurd he.symm hc
          · have t2 : timeB p.pun = false := by simpa using t2
            have t2' : ¬ (0 ≤ p.pun ∧ p.pun ≤ 10000000) := by simpa [timeB] using t2
            have t1' : 0 ≤ p.pfr ∧ p.pfr ≤ 10000000 := by simpa [timeB] using t1
            rw [if_pos (by omega)] at he
            subst he
            clear t1' t2'
            go_enter Tryd.func21, Tryd.ntmps21
            go_wp2_with fail
            refine (Is_any _ _ _ hs1).mono ?_
            rintro e w1 ⟨rfl, b1⟩
            obtain ⟨x0, x1, x2, x3, x4⟩ := boxed w w1 p b1
            go_wp2_with fail
            refine (IsName_any _ _ hs2).mono ?_
            rintro e w2 ⟨rfl, rfl⟩
            go_wp2_with fail
            refine (find_reg b F ps ls _ _ (HR.out.below (bB b1))).mono ?_
            rintro e w2 ⟨rfl, b2⟩
            have b3 := bT b1 b2
            obtain ⟨y0, y1, y2, y3, y4⟩ := boxed w w2 p b3
            go_wp2_with fail
            refine (isTime_any _ _).mono ?_
            rintro e w3 ⟨rfl, rfl⟩
            go_wp2_with fail
            refine (isTime_any _ _).mono ?_
            rintro e w4 ⟨rfl, rfl⟩
            go_wp2_with fail
            go_ret
            exact ⟨ret_int HE.out.symm, bB b3⟩
        · have t1 : timeB p.pfr = false := by simpa using t1
          have t1' : ¬ (0 ≤ p.pfr ∧ p.pfr ≤ 10000000) := by simpa [timeB] using t1
          rw [if_pos (by omega)] at he
          subst he
          clear t1'
          go_enter Tryd.func21, Tryd.ntmps21
          go_wp2_with fail
          refine (Is_any _ _ _ hs1).mono ?_
          rintro e w1 ⟨rfl, b1⟩
          obtain ⟨x0, x1, x2, x3, x4⟩ := boxed w w1 p b1
          go_wp2_with fail
          refine (IsName_any _ _ hs2).mono ?_
          rintro e w2 ⟨rfl, rfl⟩
          go_wp2_with fail
          refine (find_reg b F ps ls _ _ (HR.out.below (bB b1))).mono ?_
          rintro e w2 ⟨rfl, b2⟩
          have b3 := bT b1 b2
          obtain ⟨y0, y1, y2, y3, y4⟩ := boxed w w2 p b3
          go_wp2_with fail
          refine (isTime_any _ _).mono ?_
          rintro e w3 ⟨rfl, rfl⟩
          go_wp2_with fail
          go_ret
          exact ⟨ret_int HE.out.symm, bB b3⟩
    · have q2 : nameB p.psp.data.toList = false := by simpa using q2
      rw [if_pos (.inr q2)] at he
      subst he
      go_enter Tryd.func21, Tryd.ntmps21
      go_wp2_with fail
      refine (Is_any _ _ _ hs1).mono ?_
      rintro e w1 ⟨rfl, b1⟩
      obtain ⟨x0, x1, x2, x3, x4⟩ := boxed w w1 p b1
      go_wp2_with fail
      refine (IsName_any _ _ hs2).mono ?_
      rintro e w2 ⟨rfl, rfl⟩
      go_wp2_with fail
      go_ret
      exact ⟨ret_int HE.out.symm, bB b1⟩
  · have q1 : isB p.pid.data.toList 80 = false := by simpa using q1
    rw [if_pos (.inl q1)] at he
    subst he
    go_enter Tryd.func21, Tryd.ntmps21
    go_wp2_with fail
    refine (Is_any _ _ _ hs1).mono ?_
    rintro e w1 ⟨rfl, b1⟩
    obtain ⟨x0, x1, x2, x3, x4⟩ := boxed w w1 p b1
    go_wp2_with fail
    go_ret
    exact ⟨ret_int HE.out.symm, bB b1⟩

theorem own_grow {w w' : World} {base : Nat} {e : TypeId} {size n : Nat} {v : Value} {xs : List Value} {row : Option Nat} (h : w.ownsRow base e size v n xs) (g : w.grownBy w' row) (hr : ∀ k, v.ownBlock = some k → row ≠ some k) : w'.ownsRow base e size v n xs :=
  own_keep h (fun k e hlt => g.block k hlt (fun e2 => hr k e e2.symm))
theorem own_below {w w' : World} {base : Nat} {e : TypeId} {size n : Nat} {v : Value} {xs : List Value} (h : w.ownsRow base e size v n xs) (g : Below w.heap.size w w') : w'.ownsRow base e size v n xs := own_keep h (fun k _ hlt => g.block k hlt)

theorem own_other {w : World} {base : Nat} {e t : TypeId} {size n : Nat} {v : Value} {xs : List Value} (h : w.ownsRow base e size v n xs) {b : Nat} {cs : Array Value} (hb : w.heap[b]? = some (.cells cs t (0, 0))) (hne : e ≠ t) : v.ownBlock ≠ some b := fun e1 => by
  obtain ⟨c, hc⟩ := own_type h b e1
  rw [hb] at hc
  simp at hc
  exact hne hc.2.symm
theorem own_apart {w : World} {base base' : Nat} {e t : TypeId} {size n size' n' : Nat} {v v' : Value} {xs xs' : List Value} (h : w.ownsRow base e size v n xs) (h' : w.ownsRow base' t size' v' n' xs') (hne : e ≠ t) : ∀ k, v.ownBlock = some k → v'.ownBlock ≠ some k := fun k e1 e2 => by
  obtain ⟨c, hc⟩ := own_type h k e1
  obtain ⟨c', hc'⟩ := own_type h' k e2
  rw [hc] at hc'
  simp at hc'
  exact hne hc'.2
theorem after_append {w2 W w3 : World} (hB : Below w2.heap.size w2 W) {row : Option Nat} (h : W.grownBy w3 row) {b : Nat} {x : Obj} (hb : w2.heap[b]? = some x) (hr : row ≠ some b) : w3.heap[b]? = some x := by
  have hlt := (Array.getElem?_eq_some_iff.1 hb).1
  have := hB.size
  exact (h.block b (by omega) (Ne.symm hr)).trans ((hB.block b hlt).trans hb)
theorem after_own {w2 W w3 : World} (hB : Below w2.heap.size w2 W) {row : Option Nat} (h : W.grownBy w3 row) {base : Nat} {e : TypeId} {size n : Nat} {v : Value} {xs : List Value} (hb : w2.ownsRow base e size v n xs) (hr : ∀ k, v.ownBlock = some k → row ≠ some k) : w3.ownsRow base e size v n xs :=
  own_grow (own_below hb hB) h hr
theorem after_keeps {F : Nat → Prop} {w2 W w3 : World} (hB : Below w2.heap.size w2 W) {row : Option Nat} (h : W.grownBy w3 row) (hr : ∀ k, row = some k → F k) : Keeps F w2 w3 :=
  (Keeps.of_below F hB).trans (Keeps.of_grown h hr) (fun _ h => .inl h)
/-- the state of the register's block while Add writes -/
structure Half (W : World) (F : Nat → Prop) (b : Nat) (v1 v2 : Value) (n m : Nat) (xs ys : List Value) : Prop where
  row : W.heap[b]? = some (.cells #[v1, v2] 87 (0, 0))
  one : W.ownsRow 0 50 5 v1 n xs
  two : W.ownsRow 0 3 1 v2 m ys
  fb : F b
  f1 : ∀ k, v1.ownBlock = some k → F k
  f2 : ∀ k, v2.ownBlock = some k → F k
theorem Half.cell0 {W : World} {F : Nat → Prop} {b : Nat} {v1 v2 : Value} {n m : Nat} {xs ys : List Value} (h : Half W F b v1 v2 n m xs ys) (o : Obj) : (W.alloc o).cell? ⟨b, 0, none⟩ = some v1 := by
  have hlt := (Array.getElem?_eq_some_iff.1 h.row).1
  rw [cell_of_row _ b 0 _ _ _ ((heap_alloc_old W o hlt).trans h.row)]; rfl
theorem Half.cell1 {W : World} {F : Nat → Prop} {b : Nat} {v1 v2 : Value} {n m : Nat} {xs ys : List Value} (h : Half W F b v1 v2 n m xs ys) (o : Obj) : (W.alloc o).cell? ⟨b, 1, none⟩ = some v2 := by
  have hlt := (Array.getElem?_eq_some_iff.1 h.row).1
  rw [cell_of_row _ b 1 _ _ _ ((heap_alloc_old W o hlt).trans h.row)]; rfl
theorem Half.cell {W : World} {F : Nat → Prop} {b : Nat} {v1 v2 : Value} {n m : Nat} {xs ys : List Value} (h : Half W F b v1 v2 n m xs ys) : W.cell? ⟨b, 0, none⟩ = some v1 ∧ W.cell? ⟨b, 1, none⟩ = some v2 := by
  constructor
  · rw [cell_of_row _ b 0 _ _ _ h.row]; rfl
  · rw [cell_of_row _ b 1 _ _ _ h.row]; rfl
theorem Half.put1 {w w3 : World} {F : Nat → Prop} {b n n' m g cap : Nat} {v1 v2 : Value} {xs ys xs' : List Value} {W : World} (h : Half w F b v1 v2 n m xs ys) (hB : Below w.heap.size w W) (hg : W.grownBy w3 v1.ownBlock) (hn : w3.ownsRow 0 50 5 (.slice (some ⟨g, 0, none⟩) n' cap) n' xs') :
    Half (w3.setCell ⟨b, 0, none⟩ (.slice (some ⟨g, 0, none⟩) n' cap)) (fun k => F k ∨ k = g) b (.slice (some ⟨g, 0, none⟩) n' cap) v2 n' m xs' ys ∧ Keeps F w (w3.setCell ⟨b, 0, none⟩ (.slice (some ⟨g, 0, none⟩) n' cap)) := by
  have k0 := after_append hB hg h.row (own_other h.one h.row (by decide))
  refine ⟨⟨?_, ?_, ?_, .inl h.fb, fun k e => .inr ?_, fun k e => .inl (h.f2 k e)⟩, ?_⟩
  · rw [heap_setCell_same w3 b 0 _ _ _ k0]; rfl
  · exact own_keep hn (fun k e _ => heap_setCell_other w3 ⟨b, 0, none⟩ k _ (fun e2 => own_other hn k0 (by decide) (by rw [e, e2])))
  · have hy := after_own hB hg h.two (fun k e => fun e1 => own_apart h.two h.one (by decide) k e e1)
    exact own_keep hy (fun k e _ => heap_setCell_other w3 ⟨b, 0, none⟩ k _ (fun e2 => own_other hy k0 (by decide) (by rw [e, e2])))
  · simp [Value.ownBlock] at e; exact e.symm
  · exact (after_keeps hB hg h.f1).trans (Keeps.setCell F w3 h.fb _) (fun _ h => .inl h)
theorem Half.put2 {w w3 : World} {F : Nat → Prop} {b n n' m g cap : Nat} {v1 v2 : Value} {xs ys ys' : List Value} {W : World} (h : Half w F b v1 v2 m n xs ys) (hB : Below w.heap.size w W) (hg : W.grownBy w3 v2.ownBlock) (hn : w3.ownsRow 0 3 1 (.slice (some ⟨g, 0, none⟩) n' cap) n' ys') :
    Half (w3.setCell ⟨b, 1, none⟩ (.slice (some ⟨g, 0, none⟩) n' cap)) (fun k => F k ∨ k = g) b v1 (.slice (some ⟨g, 0, none⟩) n' cap) m n' xs ys' ∧ Keeps F w (w3.setCell ⟨b, 1, none⟩ (.slice (some ⟨g, 0, none⟩) n' cap)) := by
  have k0 := after_append hB hg h.row (own_other h.two h.row (by decide))
  refine ⟨⟨?_, ?_, ?_, .inl h.fb, fun k e => .inl (h.f1 k e), fun k e => .inr ?_⟩, ?_⟩
  · rw [heap_setCell_same w3 b 1 _ _ _ k0]; rfl
  · have hy := after_own hB hg h.one (fun k e => fun e1 => own_apart h.one h.two (by decide) k e e1)
    exact own_keep hy (fun k e _ => heap_setCell_other w3 ⟨b, 1, none⟩ k _ (fun e2 => own_other hy k0 (by decide) (by rw [e, e2])))
  · exact own_keep hn (fun k e _ => heap_setCell_other w3 ⟨b, 1, none⟩ k _ (fun e2 => own_other hn k0 (by decide) (by rw [e, e2])))
  · simp [Value.ownBlock] at e; exact e.symm
  · exact (after_keeps hB hg h.f2).trans (Keeps.setCell F w3 h.fb _) (fun _ h => .inl h)
theorem run_len_own {w : World} {base n size : Nat} {v : Value} {xs : List Value} {e t : TypeId} (ht : Tryd.prog.underlying t = some (.slice e)) (h : w.ownsRow base e size v n xs) (W : World) : (Builtin.len_ #[t] 3 #[v]).run Tryd.prog W = .ok (.int .i64 n) W := by
  rcases h.2 with ⟨rfl, rfl⟩ | ⟨g, cap, cur, rfl, _⟩
  · simp [Builtin.len_, run_underlying ht]; rfl
  · simp [Builtin.len_, run_underlying ht]; rfl
theorem pcells_snoc (ps : List Perm) (p : Perm) : pcells (ps ++ [p]) = pcells ps ++ p.cells := by simp [pcells]
theorem Added.fin {w w2 w4 w6 : World} {F : Nat → Prop} {b g cap g2 cap2 : Nat} {v1 v2 : Value} {ps : List Perm} {ls : List Int} {p : Perm} (hb : Below w.heap.size w w2) (hn : ls.length = ps.length)
    (h2 : Half w2 F b v1 v2 ps.length ps.length (pcells ps) (ucells ps ls)) (h24 : Keeps F w2 w4) (hat : v1.ownBlock = some g ∨ g = w2.heap.size + 1) (hat2 : v2.ownBlock = some g2 ∨ g2 = w4.heap.size + 1)
    (h6 : Half w6 (fun k => (F k ∨ k = g) ∨ k = g2) b (.slice (some ⟨g, 0, none⟩) (ps.length + 1) cap) (.slice (some ⟨g2, 0, none⟩) (ps.length + 1) cap2) (ps.length + 1) (ps.length + 1) (pcells ps ++ p.cells) (ucells ps ls ++ [.int .i64 0]))
    (h46 : Keeps (fun k => F k ∨ k = g) w4 w6) (hI : Inv (ps ++ [p]) (ls ++ [p.pqu])) : Added F b (ps ++ [p]) (ls ++ [p.pqu]) w w6 := by
  have s2 := hb.size
  have s4 := h24.size
  have hg : F g ∨ w.heap.size ≤ g := by
    rcases hat with h | h
    · exact .inl (h2.f1 g h)
    · right; omega
  have hg2 : F g2 ∨ w.heap.size ≤ g2 := by
    rcases hat2 with h | h
    · exact .inl (h2.f2 g2 h)
    · right; omega
  refine ⟨_, ⟨_, _, h6.row, ?_, ?_, hI, h6.fb, h6.f1, h6.f2⟩, fun k h => .inl (.inl h), fun k h => ?_, ((Keeps.of_below F hb).trans h24 (fun i h => .inl h)).trans h46 (fun i h => ?_)⟩
  · rw [pcells_snoc, show (ps ++ [p]).length = ps.length + 1 by simp]; exact h6.one
  · rw [ucells_snoc hn, show (ps ++ [p]).length = ps.length + 1 by simp]; exact h6.two
  · rcases h with (h | h) | h
    · exact .inl h
    · subst h; exact hg
    · subst h; exact hg2
  · rcases h with h | h
    · exact .inl h
    · subst h; exact hg
set_option maxHeartbeats 4000000 in
set_option maxRecDepth 100000 in
set_option linter.all false in
theorem Add_ok (b : Nat) (F : Nat → Prop) (ps : List Perm) (ls : List Int) (p : Perm) (w : World) (hR : Reg w F b ps ls) (hs1 : p.pid.size ≤ 140737488355328) (hs2 : p.psp.size ≤ 140737488355328) (he : addE ps p = 0) :
    Calls Tryd.prog 21 #[.pointer (some ⟨b, 0, none⟩), p.val] w fun e w' => e = .returned (.int .i64 0) ∧ Added F b (ps ++ [p]) (ls ++ [p.pqu]) w w' := by
  have HR := Lib.hid hR
  have HI : Hid (Inv (ps ++ [p]) (ls ++ [p.pqu])) := by
    have := hR.inv.add p
    rw [addP, addL, if_pos he, if_pos he] at this
    exact this
  unfold Perm.val
  clear hR
  obtain ⟨q1, q2, q3, t1, t2, t3, r1, r2, r3⟩ : isB p.pid.data.toList 80 = true ∧ nameB p.psp.data.toList = true ∧ findI ps p.pid < 0 ∧ timeB p.pfr = true ∧ timeB p.pun = true ∧ p.pfr < p.pun ∧ 1 ≤ p.pqu ∧ p.pqu ≤ 1125899906842624 ∧ ps.length < 16 := by
    unfold addE at he
    split at he
    · omega
    rename_i h1
    split at he
    · omega
    split at he
    · omega
    split at he
    · omega
    split at he
    · omega
    simp only [not_or, Bool.not_eq_false] at h1
    exact ⟨h1.1, h1.2, by omega, by simp [timeB]; omega, by simp [timeB]; omega, by omega, by omega, by omega, by omega⟩
  have q3' : decide (0 ≤ findI ps p.pid) = false := by simp; omega
  have r1' : decide (p.pqu < 1) = false := by simp; omega
  have r2' : decide (1125899906842624 < p.pqu) = false := by simp; omega
  have t3' : decide (p.pun ≤ p.pfr) = false := by simp; omega
  have r3' : decide ((16 : Int) ≤ ps.length) = false := by simp; omega
  have HE := Lib.hid he
  clear he
  go_enter Tryd.func21, Tryd.ntmps21
  go_wp2_with fail
  refine (Is_any _ _ _ hs1).mono ?_
  rintro e w1 ⟨rfl, b1⟩
  obtain ⟨x0, x1, x2, x3, x4⟩ := boxed w w1 p b1
  go_wp2_with fail
  refine (IsName_any _ _ hs2).mono ?_
  rintro e w2 ⟨rfl, rfl⟩
  go_wp2_with fail
  refine (find_reg b F ps ls _ _ (HR.out.below (bB b1))).mono ?_
  rintro e w2 ⟨rfl, b2⟩
  have b3 := bT b1 b2
  obtain ⟨y0, y1, y2, y3, y4⟩ := boxed w w2 p b3
  obtain ⟨v1, v2, h1, h2, h3, h4, h5, h6, h7⟩ := HR.out.below (bB b3)
  have hlen := fun W => run_len_own undPermits h2 W
  have HA := Lib.hid (Half.mk h1 h2 h3 h5 h6 h7)
  have hdis := Lib.hid (own_other h2 h1 (by decide))
  have hdis2 := Lib.hid (own_other h3 h1 (by decide))
  clear h1 h2 h3 h4 h6 h7
  obtain ⟨c0, _⟩ := HA.out.cell
  have cA := HA.out.cell0
  go_wp2_with fail
  refine (isTime_any _ _).mono ?_
  rintro e w3 ⟨rfl, rfl⟩
  go_wp2_with fail
  refine (isTime_any _ _).mono ?_
  rintro e w4 ⟨rfl, rfl⟩
  go_wp2_with fail
  obtain ⟨i0, hi, hz0, hz1, hz2⟩ := info_parts infoPermit
  go_region_law ((refine step_append_lies _ (by rfl) _ _ _ (by rfl) 0 50 i0 _ 5 56 undPermits hi hz0 hz1 hz2 rfl (by omega) v1 ps.length (pcells ps) (by rfl) (own_below HA.out.one (bA (bd (Below.refl _ _)) _)) ⟨w2.heap.size, 0, none⟩ 1 1 p.cells (by rfl) rfl (World.news_of_block (heap_alloc_new w2.drew _)) (perm_one p) (by omega) (by unfold maxLen; omega) (by omega) (Nat.zero_le _) (w2.heap.size + 1) (by simp) ?_; intro g cap w3 hown hgrow hat hlt; have k0 := after_append (bA (bd (Below.refl _ w2)) _) hgrow HA.out.row hdis.out; have hc3 : w3.cell? ⟨b, 0, none⟩ = some v1 := (by rw [cell_of_row w3 b 0 _ _ _ k0]; rfl); have hf3 := frozen_of_row w3 b 0 _ _ k0; clear k0; have HB := Lib.hid (HA.out.put1 (bA (bd (Below.refl _ w2)) _) hgrow hown); clear hown hgrow))
  all_goals (
    generalize w3.setCell ⟨b, 0, none⟩ (.slice (some ⟨g, 0, none⟩) (ps.length + 1) cap) = w4 at HB ⊢
    obtain ⟨d0, d1⟩ := HB.out.1.cell
    have dA := HB.out.1.cell1
    have hdis3 := Lib.hid (own_other HB.out.1.two HB.out.1.row (by decide))
    obtain ⟨i1, hi1, hy0, hy1, hy2⟩ := info_parts infoInt
    clear hc3 hf3
    go_wp2_with (at_builtin; refine wpList_append_lies _ rfl (.tmp 73) (.tmp 74) _ (by rfl) 0 3 i1 _ 1 8 undInts hi1 hy0 hy1 hy2 rfl (by omega) v2 ps.length (ucells ps ls) (by rfl) (own_below HB.out.1.two (bA (Below.refl _ _) _)) ⟨w4.heap.size, 0, none⟩ 1 1 [.int .i64 0] (by rfl) rfl (World.news_of_block (heap_alloc_new w4 _)) (by intro u hu; simp at hu; subst hu; rfl) (by omega) (by unfold maxLen; omega) (by omega) (Nat.zero_le _) (w4.heap.size + 1) (by simp) ?_)
    intro g2 cap2 w5 hown hgrow hat2 hlt2
    have k0 := after_append (bA (Below.refl _ w4) _) hgrow HB.out.1.row hdis3.out
    have hc3 : w5.cell? ⟨b, 1, none⟩ = some v2 := by rw [cell_of_row w5 b 1 _ _ _ k0]; rfl
    have hf3 := frozen_of_row w5 b 1 _ _ k0
    have HC := Lib.hid (HB.out.1.put2 (bA (Below.refl _ w4) _) hgrow hown)
    clear hown hgrow k0
    go_wp2
    clear hc3 hf3
    go_ret
    exact ⟨rfl, Added.fin (bB b3) HR.out.inv.1 HA.out HB.out.2 hat hat2 HC.out.1 HC.out.2 HI.out⟩)
end Go.Proofs.YtgonghmihghhnaaDoor.Pe
