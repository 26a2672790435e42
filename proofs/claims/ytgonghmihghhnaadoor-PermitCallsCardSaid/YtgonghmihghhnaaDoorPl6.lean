/- the law PermitFells, walked. -/
import Derived.Test.YtgonghmihghhnaaDoorPl5
namespace Go.Proofs.YtgonghmihghhnaaDoor.Pe
open Go.RowKit Go.Proofs.YtgonghmihghhnaaDoor.Id

theorem fells_plain {ps : List Perm} (hd : Dist ps) {k : Nat} {p : Perm} (hp : ps[k]? = some p) (sp : ByteArray) (t : Int) : fellE ps p.pid sp t = if p.psp ≠ sp then 24 else if t < p.pfr ∨ p.pun ≤ t then 15 else 0 := fellE_at (hd.find hp) hp
theorem has_plain {ps : List Perm} (hd : Dist ps) {k : Nat} {p : Perm} (hp : ps[k]? = some p) : leftB ps p.pid = true := by unfold leftB; rw [hd.find hp]; simp
set_option maxHeartbeats 8000000 in
set_option maxRecDepth 100000 in
theorem PermitFells_any (v : Value) (os : List OpP) (sp : ByteArray) (t : Int) (w : World) (hs : SliceIs w 7 v os.length (ocells os)) (hsp : sp.size ≤ 140737488355328) :
    Calls Tryd.prog 8 #[v, .string sp, .int .i64 t] w fun e w' => e = .returned (.bool true) ∧ Below w.heap.size w w' := by
  have HS := Lib.hid hs
  obtain ⟨A, c0, rfl⟩ := slice_shape hs
  clear hs
  go_enter Tryd.func8, Tryd.ntmps8
  go_wp2_with fail
  refine (short_any _ os w HS.out).mono ?_
  rintro e w1 ⟨bb, rfl, b1, hb⟩
  have HB := Lib.hid hb
  clear hb
  cases bb with
  | false =>
    go_wp2_with fail
    refine (awake_any _).mono ?_
    rintro e w2 ⟨rfl, b2⟩
    go_wp2_with fail
    go_ret
    exact ⟨rfl, bT b1 b2⟩
  | true =>
    by_cases h40 : sp.size ≤ 40
    · have h40' : decide ((40 : Int) < sp.size) = false := by simp; omega
      go_wp2_with fail
      refine (play_any _ os _ (HS.out.below b1) (HB.out (by simp)).2).mono ?_
      rintro e w2 ⟨rfl, hL⟩
      have hst := hL.stay
      have hdist := pst_dist os os.length
      generalize pst os os.length = s at hst hdist
      obtain ⟨ps, ls⟩ := s
      have HT := Lib.hid hst
      have HD := Lib.hid hdist
      clear hL hst hdist
      go_wp2_with fail
      refine (HT.out.list).mono ?_
      rintro e w3 ⟨v3, rfl, ho, b3⟩
      have HT3 := Lib.hid (HT.out.below b3)
      have HI := Lib.hid (SliceIs.of_own ho)
      have hn : ps.length ≤ 16 := by obtain ⟨_, hr, _⟩ := HT3.out; exact hr.inv.2.1
      have HW : Hid (Below w.heap.size w w3) := by obtain ⟨_, _, _, hb, _⟩ := HT3.out; exact bT b1 hb
      have hend : ∀ (W : World) (vl : Value), Below w3.heap.size w3 W → SliceIs W 5 vl ps.length (pcells ps) → True := fun _ _ _ _ => trivial
      clear hend ho
      have HH := HI
      rcases HI.out.2.2 with ⟨h0, A3, c3, rfl⟩ | ⟨g, off, c3, rfl, hc, hg, hx⟩
      · have hps : ps = [] := List.eq_nil_of_length_eq_zero h0
        subst hps
        clear h0
        go_wp2
        refine wp_loop_rounds 1 ?_
        rw [rounds_succ]
        go_wp2_with fail
        refine (HT3.out.list).mono ?_
        rintro e w4 ⟨v4, rfl, ho4, b4⟩
        have HO4 := Lib.hid ho4
        clear ho4
        go_wp2_with fail
        refine (Same_any v4 _ [] _ (SliceIs.of_own HO4.out) (HH.out.below b4)).mono ?_
        rintro e w5 ⟨rfl, b5⟩
        go_wp2_with fail
        refine (awake_any _).mono ?_
        rintro e w6 ⟨rfl, b6⟩
        go_wp2_with fail
        go_ret
        exact ⟨rfl, bT (bT (bT HW.out b4) b5) b6⟩
      · have hX := Lib.hid hx
        clear hx
        go_wp2
        go_loopw [9] (fun i wr => ∃ k : Nat, k ≤ ps.length ∧ i = .int .i64 k ∧ Below w3.heap.size w3 wr) (fun i _ => ps.length - (intOf i).toNat)
        case atStart => exact ⟨0, Nat.zero_le _, rfl, Below.refl _ _⟩
        case round =>
          obtain ⟨k, hk, rfl, hBr⟩ := hrel
          by_cases hlt : k < ps.length
          · obtain ⟨p, hp⟩ : ∃ p, ps[k]? = some p := ⟨_, List.getElem?_eq_getElem hlt⟩
            have HS4 := Lib.hid (HT3.out.below hBr)
            have d0 : wr.cell? ⟨g, off + k * 5, none⟩ = some (.string p.pid) := (hBr.cell hg).trans (hX.out (k * 5) _ (pcells_at hp (j := 0) (by omega)))
            have d1 : wr.cell? ⟨g, off + k * 5 + 1, none⟩ = some (.string p.psp) := (hBr.cell hg).trans (hX.out (k * 5 + 1) _ (pcells_at hp (j := 1) (by omega)))
            have d2 : wr.cell? ⟨g, off + k * 5 + 2, none⟩ = some (.int .i64 p.pfr) := (hBr.cell hg).trans (hX.out (k * 5 + 2) _ (pcells_at hp (j := 2) (by omega)))
            have d3 : wr.cell? ⟨g, off + k * 5 + 3, none⟩ = some (.int .i64 p.pun) := (hBr.cell hg).trans (hX.out (k * 5 + 3) _ (pcells_at hp (j := 3) (by omega)))
            have d4 : wr.cell? ⟨g, off + k * 5 + 4, none⟩ = some (.int .i64 p.pqu) := (hBr.cell hg).trans (hX.out (k * 5 + 4) _ (pcells_at hp (j := 4) (by omega)))
            have E1 := Lib.hid (has_plain HD.out hp)
            have E2 := Lib.hid (fells_plain HD.out hp sp t)
            clear hp
            have hS4 := HS4.out.alloc (.cells #[.string p.pid, .string p.psp, .int .i64 p.pfr, .int .i64 p.pun, .int .i64 p.pqu] 50)
            have HS5 := Lib.hid hS4
            clear hS4
            go_wp2_with fail
            refine (HS5.out.left _).mono ?_
            rintro e w5 ⟨rfl, b5⟩
            obtain ⟨x0, x1, x2, x3, x4⟩ := boxed wr w5 p b5
            obtain ⟨n0, hn0⟩ : ∃ n0, Hid (leftN ps ls p.pid = n0) := ⟨_, rfl⟩
            rw [E1.out, hn0.out]
            have c := (HS5.out.below b5).fell p.pid sp t
            simp only [E2.out] at c
            by_cases t1 : p.psp = sp
            · have k1 : (p.psp.toList == sp.toList) = true := by rw [str_eq]; simpa using t1
              have k2 : (sp.toList == p.psp.toList) = true := by rw [str_eq]; simpa using t1.symm
              rw [if_neg (by simp [t1])] at c
              clear t1
              by_cases t2 : t < p.pfr
              · have k3 : decide (p.pfr ≤ t) = false := by simp; omega
                rw [if_pos (.inl t2)] at c
                have HCC := Lib.hid c
                clear c
                go_wp2_with fail
                refine HCC.out.mono ?_
                rintro e w6 ⟨rfl, b6⟩
                have b56 := bT b5 b6
                obtain ⟨z0, z1, z2, z3, z4⟩ := boxed wr w6 p b56
                go_wp2_with fail
                refine ((HS5.out.below b56).left _).mono ?_
                rintro e w7 ⟨rfl, b7⟩
                rw [E1.out, hn0.out]
                go_wp2
                go_roundw
                case rel => exact ⟨k + 1, by omega, by go_num, bT hBr (bB (bT b56 b7))⟩
                case measure => simp [intOf]; omega
              · have k3 : decide (p.pfr ≤ t) = true := by simp; omega
                by_cases t3 : p.pun ≤ t
                · have k4 : decide (t < p.pun) = false := by simp; omega
                  rw [if_pos (.inr t3)] at c
                  have HCC := Lib.hid c
                  clear c
                  go_wp2_with fail
                  refine HCC.out.mono ?_
                  rintro e w6 ⟨rfl, b6⟩
                  have b56 := bT b5 b6
                  obtain ⟨z0, z1, z2, z3, z4⟩ := boxed wr w6 p b56
                  go_wp2_with fail
                  refine ((HS5.out.below b56).left _).mono ?_
                  rintro e w7 ⟨rfl, b7⟩
                  rw [E1.out, hn0.out]
                  go_wp2
                  go_roundw
                  case rel => exact ⟨k + 1, by omega, by go_num, bT hBr (bB (bT b56 b7))⟩
                  case measure => simp [intOf]; omega
                · have k4 : decide (t < p.pun) = true := by simp; omega
                  rw [if_neg (by omega)] at c
                  have HCC := Lib.hid c
                  clear c
                  go_wp2_with fail
                  refine HCC.out.mono ?_
                  rintro e w6 ⟨rfl, b6⟩
                  have b56 := bT b5 b6
                  obtain ⟨z0, z1, z2, z3, z4⟩ := boxed wr w6 p b56
                  go_wp2_with fail
                  refine ((HS5.out.below b56).left _).mono ?_
                  rintro e w7 ⟨rfl, b7⟩
                  rw [E1.out, hn0.out]
                  go_wp2
                  go_roundw
                  case rel => exact ⟨k + 1, by omega, by go_num, bT hBr (bB (bT b56 b7))⟩
                  case measure => simp [intOf]; omega
            · have k1 : (p.psp.toList == sp.toList) = false := by rw [str_eq]; simpa using t1
              have k2 : (sp.toList == p.psp.toList) = false := by rw [str_eq]; simpa using fun e => t1 e.symm
              rw [if_pos t1] at c
              have HCC := Lib.hid c
              clear c
              go_wp2_with fail
              refine HCC.out.mono ?_
              rintro e w6 ⟨rfl, b6⟩
              have b56 := bT b5 b6
              obtain ⟨z0, z1, z2, z3, z4⟩ := boxed wr w6 p b56
              go_wp2_with fail
              refine ((HS5.out.below b56).left _).mono ?_
              rintro e w7 ⟨rfl, b7⟩
              rw [E1.out, hn0.out]
              go_wp2
              go_roundw
              case rel => exact ⟨k + 1, by omega, by go_num, bT hBr (bB (bT b56 b7))⟩
              case measure => simp [intOf]; omega
          · obtain rfl : k = ps.length := by omega
            have HS4 := Lib.hid (HT3.out.below hBr)
            go_wp2_with fail
            refine (HS4.out.list).mono ?_
            rintro e w4 ⟨v4, rfl, ho4, b4⟩
            have HO4 := Lib.hid ho4
            clear ho4
            go_wp2_with fail
            refine (Same_any v4 _ ps _ (SliceIs.of_own HO4.out) (HH.out.below (bT hBr b4))).mono ?_
            rintro e w5 ⟨rfl, b5⟩
            go_wp2_with fail
            refine (awake_any _).mono ?_
            rintro e w6 ⟨rfl, b6⟩
            go_wp2_with fail
            go_ret
            exact ⟨rfl, bT (bT (bT (bT HW.out hBr) b4) b5) b6⟩
    · have h40' : decide ((40 : Int) < sp.size) = true := by simp; omega
      go_wp2_with fail
      refine (awake_any _).mono ?_
      rintro e w2 ⟨rfl, b2⟩
      go_wp2_with fail
      go_ret
      exact ⟨rfl, bT b1 b2⟩
end Go.Proofs.YtgonghmihghhnaaDoor.Pe
