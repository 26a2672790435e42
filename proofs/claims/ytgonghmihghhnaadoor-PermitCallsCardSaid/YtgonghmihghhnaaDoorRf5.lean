/- the reference of permits: Add, walked: refusals. -/
import Derived.Test.YtgonghmihghhnaaDoorRf4
namespace Go.Proofs.YtgonghmihghhnaaDoor.Pe
open Go.RowKit Go.Proofs.YtgonghmihghhnaaDoor.Id
set_option maxHeartbeats 8000000 in
set_option maxRecDepth 100000 in
theorem rAdd_bad (G : Nat → Prop) (v1 v2 : Value) (ps : List Perm) (ls : List Int) (p : Perm) (w : World) (hR : RReg w G v1 v2 ps ls) (hs1 : p.pid.size ≤ 140737488355328) (hs2 : p.psp.size ≤ 140737488355328) (c : Int) (hc : c ≠ 0) (he : addE ps p = c) :
    Calls Tryd.prog 20 #[.agg #[v1, v2], p.val] w (RNext G (addE ps p) ps ls w) := by
  obtain ⟨A1, c1, rfl⟩ := slice_shape hR.1
  obtain ⟨A2, c2, rfl⟩ := slice_shape hR.2.1
  have HR := Lib.hid hR
  clear hR
  have hres := Lib.hid (show Tryd.f20.results = #[.cell 4 48, .tmp 5] from rfl)
  unfold Perm.val
  have HE := Lib.hid he
  unfold addE at he
  by_cases q1 : isB p.pid.data.toList 80 = true
  · by_cases q2 : nameB p.psp.data.toList = true
    · rw [if_neg (by simp [q1, q2])] at he
      by_cases q3 : 0 ≤ findI ps p.pid
      · rw [if_pos q3] at he
        subst he
        go_enter Tryd.func20, Tryd.ntmps20
        go_wp2_with fail
        refine (rIs_any _ _ _ hs1).mono ?_
        rintro e w1 ⟨rfl, b1⟩
        have B1 := boxes3 b1
        obtain ⟨y1, y2, _⟩ := two_cells B1.1
        obtain ⟨z1, z2, z3, z4⟩ := two_cells B1.2.2.1
        obtain ⟨x0, x1, x2, x3, x4⟩ := perm_cells (p := p) B1.2.1
        have hB1 := Lib.hid B1
        clear B1
        go_wp2_with fail
        refine (rIsName_any _ _ hs2).mono ?_
        rintro e w2 ⟨rfl, rfl⟩
        go_wp2_with fail
        refine (rfind_any _ _ ps _ _ (HR.out.1.below hB1.out.2.2.2.2)).mono ?_
        rintro e w2 ⟨rfl, b2⟩
        have B2 := boxes3 (bT b1 b2)
        obtain ⟨Y1, Y2, _⟩ := two_cells B2.1
        obtain ⟨Z1, Z2, Z3, Z4⟩ := two_cells B2.2.2.1
        obtain ⟨X0, X1, X2, X3, X4⟩ := perm_cells (p := p) B2.2.1
        have hB2 := Lib.hid B2
        clear B2
        go_wp2_with fail
        refine bodyPost_ret (results_reg hres.out rfl (put_two hB2.out.2.2.1 _ _)) rfl ?_
        exact RNext.same (ret_ai HE.out.symm) HR.out (bS (bS hB2.out.2.2.2.2 (p := ⟨w.heap.size + 2, 0, none⟩) (Nat.le_add_right _ _) _) (p := ⟨w.heap.size + 2, 1, none⟩) (Nat.le_add_right _ _) _)
      · rw [if_neg q3] at he
        have q3' : decide (0 ≤ findI ps p.pid) = false := by simpa using q3
        by_cases t1 : p.pfr < 0
        · rw [if_pos (.inl t1)] at he
          subst he
          have t1' : decide (p.pfr < 0) = true := by simpa using t1
          go_enter Tryd.func20, Tryd.ntmps20
          go_wp2_with fail
          refine (rIs_any _ _ _ hs1).mono ?_
          rintro e w1 ⟨rfl, b1⟩
          have B1 := boxes3 b1
          obtain ⟨y1, y2, _⟩ := two_cells B1.1
          obtain ⟨z1, z2, z3, z4⟩ := two_cells B1.2.2.1
          obtain ⟨x0, x1, x2, x3, x4⟩ := perm_cells (p := p) B1.2.1
          have hB1 := Lib.hid B1
          clear B1
          go_wp2_with fail
          refine (rIsName_any _ _ hs2).mono ?_
          rintro e w2 ⟨rfl, rfl⟩
          go_wp2_with fail
          refine (rfind_any _ _ ps _ _ (HR.out.1.below hB1.out.2.2.2.2)).mono ?_
          rintro e w2 ⟨rfl, b2⟩
          have B2 := boxes3 (bT b1 b2)
          obtain ⟨Y1, Y2, _⟩ := two_cells B2.1
          obtain ⟨Z1, Z2, Z3, Z4⟩ := two_cells B2.2.2.1
          obtain ⟨X0, X1, X2, X3, X4⟩ := perm_cells (p := p) B2.2.1
          have hB2 := Lib.hid B2
          clear B2
          go_wp2_with fail
          refine bodyPost_ret (results_reg hres.out rfl (put_two hB2.out.2.2.1 _ _)) rfl ?_
          exact RNext.same (ret_ai HE.out.symm) HR.out (bS (bS hB2.out.2.2.2.2 (p := ⟨w.heap.size + 2, 0, none⟩) (Nat.le_add_right _ _) _) (p := ⟨w.heap.size + 2, 1, none⟩) (Nat.le_add_right _ _) _)
        · have t1' : decide (p.pfr < 0) = false := by simpa using t1
          by_cases t2 : 10000000 < p.pun
          · rw [if_pos (.inr (.inl t2))] at he
            subst he
            have t2' : decide (10000000 < p.pun) = true := by simpa using t2
            go_enter Tryd.func20, Tryd.ntmps20
            go_wp2_with fail
            refine (rIs_any _ _ _ hs1).mono ?_
            rintro e w1 ⟨rfl, b1⟩
            have B1 := boxes3 b1
            obtain ⟨y1, y2, _⟩ := two_cells B1.1
            obtain ⟨z1, z2, z3, z4⟩ := two_cells B1.2.2.1
            obtain ⟨x0, x1, x2, x3, x4⟩ := perm_cells (p := p) B1.2.1
            have hB1 := Lib.hid B1
            clear B1
            go_wp2_with fail
            refine (rIsName_any _ _ hs2).mono ?_
            rintro e w2 ⟨rfl, rfl⟩
            go_wp2_with fail
            refine (rfind_any _ _ ps _ _ (HR.out.1.below hB1.out.2.2.2.2)).mono ?_
            rintro e w2 ⟨rfl, b2⟩
            have B2 := boxes3 (bT b1 b2)
            obtain ⟨Y1, Y2, _⟩ := two_cells B2.1
            obtain ⟨Z1, Z2, Z3, Z4⟩ := two_cells B2.2.2.1
            obtain ⟨X0, X1, X2, X3, X4⟩ := perm_cells (p := p) B2.2.1
            have hB2 := Lib.hid B2
            clear B2
            go_wp2_with fail
            refine bodyPost_ret (results_reg hres.out rfl (put_two hB2.out.2.2.1 _ _)) rfl ?_
            exact RNext.same (ret_ai HE.out.symm) HR.out (bS (bS hB2.out.2.2.2.2 (p := ⟨w.heap.size + 2, 0, none⟩) (Nat.le_add_right _ _) _) (p := ⟨w.heap.size + 2, 1, none⟩) (Nat.le_add_right _ _) _)
          · have t2' : decide (10000000 < p.pun) = false := by simpa using t2
            by_cases t3 : p.pun ≤ p.pfr
            · rw [if_pos (.inr (.inr t3))] at he
              subst he
              have t3' : decide (p.pun ≤ p.pfr) = true := by simpa using t3
              go_enter Tryd.func20, Tryd.ntmps20
              go_wp2_with fail
              refine (rIs_any _ _ _ hs1).mono ?_
              rintro e w1 ⟨rfl, b1⟩
              have B1 := boxes3 b1
              obtain ⟨y1, y2, _⟩ := two_cells B1.1
              obtain ⟨z1, z2, z3, z4⟩ := two_cells B1.2.2.1
              obtain ⟨x0, x1, x2, x3, x4⟩ := perm_cells (p := p) B1.2.1
              have hB1 := Lib.hid B1
              clear B1
              go_wp2_with fail
              refine (rIsName_any _ _ hs2).mono ?_
              rintro e w2 ⟨rfl, rfl⟩
              go_wp2_with fail
              refine (rfind_any _ _ ps _ _ (HR.out.1.below hB1.out.2.2.2.2)).mono ?_
              rintro e w2 ⟨rfl, b2⟩
              have B2 := boxes3 (bT b1 b2)
              obtain ⟨Y1, Y2, _⟩ := two_cells B2.1
              obtain ⟨Z1, Z2, Z3, Z4⟩ := two_cells B2.2.2.1
              obtain ⟨X0, X1, X2, X3, X4⟩ := perm_cells (p := p) B2.2.1
              have hB2 := Lib.hid B2
              clear B2
              go_wp2_with fail
              refine bodyPost_ret (results_reg hres.out rfl (put_two hB2.out.2.2.1 _ _)) rfl ?_
              exact RNext.same (ret_ai HE.out.symm) HR.out (bS (bS hB2.out.2.2.2.2 (p := ⟨w.heap.size + 2, 0, none⟩) (Nat.le_add_right _ _) _) (p := ⟨w.heap.size + 2, 1, none⟩) (Nat.le_add_right _ _) _)
            · rw [if_neg (by omega)] at he
              have t3' : decide (p.pun ≤ p.pfr) = false := by simpa using t3
              by_cases r1 : p.pqu < 1
              · rw [if_pos (.inl r1)] at he
                subst he
                have r1' : decide (p.pqu < 1) = true := by simpa using r1
                go_enter Tryd.func20, Tryd.ntmps20
                go_wp2_with fail
                refine (rIs_any _ _ _ hs1).mono ?_
                rintro e w1 ⟨rfl, b1⟩
                have B1 := boxes3 b1
                obtain ⟨y1, y2, _⟩ := two_cells B1.1
                obtain ⟨z1, z2, z3, z4⟩ := two_cells B1.2.2.1
                obtain ⟨x0, x1, x2, x3, x4⟩ := perm_cells (p := p) B1.2.1
                have hB1 := Lib.hid B1
                clear B1
                go_wp2_with fail
                refine (rIsName_any _ _ hs2).mono ?_
                rintro e w2 ⟨rfl, rfl⟩
                go_wp2_with fail
                refine (rfind_any _ _ ps _ _ (HR.out.1.below hB1.out.2.2.2.2)).mono ?_
                rintro e w2 ⟨rfl, b2⟩
                have B2 := boxes3 (bT b1 b2)
                obtain ⟨Y1, Y2, _⟩ := two_cells B2.1
                obtain ⟨Z1, Z2, Z3, Z4⟩ := two_cells B2.2.2.1
                obtain ⟨X0, X1, X2, X3, X4⟩ := perm_cells (p := p) B2.2.1
                have hB2 := Lib.hid B2
                clear B2
                go_wp2_with fail
                refine bodyPost_ret (results_reg hres.out rfl (put_two hB2.out.2.2.1 _ _)) rfl ?_
                exact RNext.same (ret_ai HE.out.symm) HR.out (bS (bS hB2.out.2.2.2.2 (p := ⟨w.heap.size + 2, 0, none⟩) (Nat.le_add_right _ _) _) (p := ⟨w.heap.size + 2, 1, none⟩) (Nat.le_add_right _ _) _)
              · have r1' : decide (p.pqu < 1) = false := by simpa using r1
                by_cases r2 : 1125899906842624 < p.pqu
                · rw [if_pos (.inr r2)] at he
                  subst he
                  have r2' : decide (1125899906842624 < p.pqu) = true := by simpa using r2
                  go_enter Tryd.func20, Tryd.ntmps20
                  go_wp2_with fail
                  refine (rIs_any _ _ _ hs1).mono ?_
                  rintro e w1 ⟨rfl, b1⟩
                  have B1 := boxes3 b1
                  obtain ⟨y1, y2, _⟩ := two_cells B1.1
                  obtain ⟨z1, z2, z3, z4⟩ := two_cells B1.2.2.1
                  obtain ⟨x0, x1, x2, x3, x4⟩ := perm_cells (p := p) B1.2.1
                  have hB1 := Lib.hid B1
                  clear B1
                  go_wp2_with fail
                  refine (rIsName_any _ _ hs2).mono ?_
                  rintro e w2 ⟨rfl, rfl⟩
                  go_wp2_with fail
                  refine (rfind_any _ _ ps _ _ (HR.out.1.below hB1.out.2.2.2.2)).mono ?_
                  rintro e w2 ⟨rfl, b2⟩
                  have B2 := boxes3 (bT b1 b2)
                  obtain ⟨Y1, Y2, _⟩ := two_cells B2.1
                  obtain ⟨Z1, Z2, Z3, Z4⟩ := two_cells B2.2.2.1
                  obtain ⟨X0, X1, X2, X3, X4⟩ := perm_cells (p := p) B2.2.1
                  have hB2 := Lib.hid B2
                  clear B2
                  go_wp2_with fail
                  refine bodyPost_ret (results_reg hres.out rfl (put_two hB2.out.2.2.1 _ _)) rfl ?_
                  exact RNext.same (ret_ai HE.out.symm) HR.out (bS (bS hB2.out.2.2.2.2 (p := ⟨w.heap.size + 2, 0, none⟩) (Nat.le_add_right _ _) _) (p := ⟨w.heap.size + 2, 1, none⟩) (Nat.le_add_right _ _) _)
                · rw [if_neg (by omega)] at he
                  have r2' : decide (1125899906842624 < p.pqu) = false := by simpa using r2
                  by_cases r3 : 16 ≤ ps.length
                  · rw [if_pos r3] at he
                    subst he
                    have hm : ps.length ≤ 16 := HR.out.2.2.1.2.1
                    have hm' : decide ((16 : Int) ≤ ps.length) = true := by simp; omega
                    go_enter Tryd.func20, Tryd.ntmps20
                    go_wp2_with fail
                    refine (rIs_any _ _ _ hs1).mono ?_
                    rintro e w1 ⟨rfl, b1⟩
                    have B1 := boxes3 b1
                    obtain ⟨y1, y2, _⟩ := two_cells B1.1
                    obtain ⟨z1, z2, z3, z4⟩ := two_cells B1.2.2.1
                    obtain ⟨x0, x1, x2, x3, x4⟩ := perm_cells (p := p) B1.2.1
                    have hB1 := Lib.hid B1
                    clear B1
                    go_wp2_with fail
                    refine (rIsName_any _ _ hs2).mono ?_
                    rintro e w2 ⟨rfl, rfl⟩
                    go_wp2_with fail
                    refine (rfind_any _ _ ps _ _ (HR.out.1.below hB1.out.2.2.2.2)).mono ?_
                    rintro e w2 ⟨rfl, b2⟩
                    have B2 := boxes3 (bT b1 b2)
                    obtain ⟨Y1, Y2, _⟩ := two_cells B2.1
                    obtain ⟨Z1, Z2, Z3, Z4⟩ := two_cells B2.2.2.1
                    obtain ⟨X0, X1, X2, X3, X4⟩ := perm_cells (p := p) B2.2.1
                    have hB2 := Lib.hid B2
                    clear B2
                    go_wp2_with fail
                    refine bodyPost_ret (results_reg hres.out rfl (put_two hB2.out.2.2.1 _ _)) rfl ?_
                    exact RNext.same (ret_ai HE.out.symm) HR.out (bS (bS hB2.out.2.2.2.2 (p := ⟨w.heap.size + 2, 0, none⟩) (Nat.le_add_right _ _) _) (p := ⟨w.heap.size + 2, 1, none⟩) (Nat.le_add_right _ _) _)
                  · rw [if_neg r3] at he
                    exact absurd he.symm hc
    · have q2 : nameB p.psp.data.toList = false := by simpa using q2
      rw [if_pos (.inr q2)] at he
      subst he
      go_enter Tryd.func20, Tryd.ntmps20
      go_wp2_with fail
      refine (rIs_any _ _ _ hs1).mono ?_
      rintro e w1 ⟨rfl, b1⟩
      have B1 := boxes3 b1
      obtain ⟨y1, y2, _⟩ := two_cells B1.1
      obtain ⟨z1, z2, z3, z4⟩ := two_cells B1.2.2.1
      obtain ⟨x0, x1, x2, x3, x4⟩ := perm_cells (p := p) B1.2.1
      have hB1 := Lib.hid B1
      clear B1
      go_wp2_with fail
      refine (rIsName_any _ _ hs2).mono ?_
      rintro e w2 ⟨rfl, rfl⟩
      go_wp2_with fail
      refine bodyPost_ret (results_reg hres.out rfl (put_two hB1.out.2.2.1 _ _)) rfl ?_
      exact RNext.same (ret_ai HE.out.symm) HR.out (bS (bS hB1.out.2.2.2.2 (p := ⟨w.heap.size + 2, 0, none⟩) (Nat.le_add_right _ _) _) (p := ⟨w.heap.size + 2, 1, none⟩) (Nat.le_add_right _ _) _)
  · have q1 : isB p.pid.data.toList 80 = false := by simpa using q1
    rw [if_pos (.inl q1)] at he
    subst he
    go_enter Tryd.func20, Tryd.ntmps20
    go_wp2_with fail
    refine (rIs_any _ _ _ hs1).mono ?_
    rintro e w1 ⟨rfl, b1⟩
    have B1 := boxes3 b1
    obtain ⟨y1, y2, _⟩ := two_cells B1.1
    obtain ⟨z1, z2, z3, z4⟩ := two_cells B1.2.2.1
    obtain ⟨x0, x1, x2, x3, x4⟩ := perm_cells (p := p) B1.2.1
    have hB1 := Lib.hid B1
    clear B1
    go_wp2_with fail
    refine bodyPost_ret (results_reg hres.out rfl (put_two hB1.out.2.2.1 _ _)) rfl ?_
    exact RNext.same (ret_ai HE.out.symm) HR.out (bS (bS hB1.out.2.2.2.2 (p := ⟨w.heap.size + 2, 0, none⟩) (Nat.le_add_right _ _) _) (p := ⟨w.heap.size + 2, 1, none⟩) (Nat.le_add_right _ _) _)
end Go.Proofs.YtgonghmihghhnaaDoor.Pe
