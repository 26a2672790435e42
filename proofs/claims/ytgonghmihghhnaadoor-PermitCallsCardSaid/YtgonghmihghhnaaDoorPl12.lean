/- the law PermitCalls, walked. -/
import Derived.Test.YtgonghmihghhnaaDoorPl10
import Derived.Test.YtgonghmihghhnaaDoorPl11
namespace Go.Proofs.YtgonghmihghhnaaDoor.Pe
open Go.RowKit Go.Proofs.YtgonghmihghhnaaDoor.Id

theorem CJ.box {w W : World} {b : Nat} {s t : List Perm × List Int} {v1 v2 : Value} {L : List (Nat × Obj)} (h : CJ w W b s v1 v2 t L) {B : Nat} {p : Perm} (hB : (B, Obj.cells #[.string p.pid, .string p.psp, .int .i64 p.pfr, .int .i64 p.pun, .int .i64 p.pqu] 50 (0, 0)) ∈ L) :
    W.cell? ⟨B, 0, none⟩ = some (.string p.pid) ∧ W.cell? ⟨B, 1, none⟩ = some (.string p.psp) ∧ W.cell? ⟨B, 2, none⟩ = some (.int .i64 p.pfr) ∧ W.cell? ⟨B, 3, none⟩ = some (.int .i64 p.pun) ∧ W.cell? ⟨B, 4, none⟩ = some (.int .i64 p.pqu) := by
  have hb := (h.2.2 _ hB).1
  refine ⟨?_, ?_, ?_, ?_, ?_⟩ <;> (rw [cell_of_row _ _ _ _ _ _ hb]; rfl)
theorem CJ.boxup {w W : World} {b : Nat} {s t : List Perm × List Int} {v1 v2 : Value} {L : List (Nat × Obj)} (h : CJ w W b s v1 v2 t L) {B : Nat} {p : Perm} (hB : (B, Obj.cells #[.string p.pid, .string p.psp, .int .i64 p.pfr, .int .i64 p.pun, .int .i64 p.pqu] 50 (0, 0)) ∈ L) :
    (∀ ob, (W.alloc ob).cell? ⟨B, 0, none⟩ = some (.string p.pid)) ∧ (∀ ob, (W.alloc ob).cell? ⟨B, 1, none⟩ = some (.string p.psp)) ∧ (∀ ob, (W.alloc ob).cell? ⟨B, 2, none⟩ = some (.int .i64 p.pfr)) ∧ (∀ ob, (W.alloc ob).cell? ⟨B, 3, none⟩ = some (.int .i64 p.pun)) ∧ (∀ ob, (W.alloc ob).cell? ⟨B, 4, none⟩ = some (.int .i64 p.pqu)) :=
  have k := fun ob => (h.alloc ob).box (List.mem_cons_of_mem _ hB)
  ⟨fun ob => (k ob).1, fun ob => (k ob).2.1, fun ob => (k ob).2.2.1, fun ob => (k ob).2.2.2.1, fun ob => (k ob).2.2.2.2⟩
theorem CJ.set2 {w W : World} {b : Nat} {s t : List Perm × List Int} {v1 v2 : Value} {L : List (Nat × Obj)} (h : CJ w W b s v1 v2 t L) {B Bx : Nat} {o : Obj} {p q : Value} {ty : TypeId} (hx : (Bx, Obj.cells #[p, q] ty (0, 0)) ∈ L) (hB : (B, o) ∈ L) (hne : B ≠ Bx) (u u' : Value) :
    CJ w ((W.setCell ⟨Bx, 0, none⟩ u).setCell ⟨Bx, 1, none⟩ u') b s v1 v2 t [(B, o), (Bx, .cells #[u, u'] ty (0, 0))] := by
  have h1 : CJ w (W.setCell ⟨Bx, 0, none⟩ u) b s v1 v2 t [(B, o), (Bx, .cells #[u, q] ty (0, 0))] := h.set hx 0 u (fun r hr => by
    rcases List.mem_cons.1 hr with rfl | hr
    · exact .inr ⟨hB, hne⟩
    · rcases List.mem_cons.1 hr with rfl | hr
      · exact .inl rfl
      · simp at hr)
  refine h1.set (cs := #[u, q]) (ty := ty) (by simp) 1 u' (fun r hr => ?_)
  rcases List.mem_cons.1 hr with rfl | hr
  · exact .inr ⟨by simp, hne⟩
  · rcases List.mem_cons.1 hr with rfl | hr
    · exact .inl rfl
    · simp at hr
theorem CJ.set3 {w W : World} {b : Nat} {s t : List Perm × List Int} {v1 v2 : Value} {L L' : List (Nat × Obj)} (h : CJ w W b s v1 v2 t L) {g : Nat} {p q : Value} {ty : TypeId} (hx : (g, Obj.cells #[p, q] ty (0, 0)) ∈ L) (u u' : Value) (hL : ∀ r ∈ L', r = (g, Obj.cells #[u, u'] ty (0, 0)) ∨ r ∈ L ∧ r.1 ≠ g) :
    CJ w ((W.setCell ⟨g, 0, none⟩ u).setCell ⟨g, 1, none⟩ u') b s v1 v2 t L' := by
  have h1 : CJ w (W.setCell ⟨g, 0, none⟩ u) b s v1 v2 t ((g, .cells #[u, q] ty (0, 0)) :: L.filter (fun r => r.1 ≠ g)) := h.set hx 0 u (fun r hr => by
    rcases List.mem_cons.1 hr with rfl | hr
    · exact .inl rfl
    · have := List.mem_filter.1 hr
      exact .inr ⟨this.1, by simpa using this.2⟩)
  refine h1.set (cs := #[u, q]) (ty := ty) (by simp) 1 u' (fun r hr => ?_)
  rcases hL r hr with rfl | ⟨hm, hne⟩
  · exact .inl rfl
  · exact .inr ⟨List.mem_cons_of_mem _ (List.mem_filter.2 ⟨hm, by simpa using hne⟩), hne⟩
set_option maxHeartbeats 16000000 in
set_option maxRecDepth 100000 in
set_option linter.all false in
theorem PermitCalls_any (v : Value) (os : List OpP) (w : World) (hs : SliceIs w 7 v os.length (ocells os)) :
    Calls Tryd.prog 4 #[v] w fun e w' => e = .returned (.bool true) ∧ Below w.heap.size w w' := by
  have HS := Lib.hid hs
  obtain ⟨A, c0, rfl⟩ := slice_shape hs
  clear hs
  go_enter Tryd.func4, Tryd.ntmps4
  go_wp2_with fail
  refine (short_any _ os w HS.out).mono ?_
  rintro e w1 ⟨bb, rfl, b1, hb⟩
  have HB := Lib.hid hb
  clear hb
  cases bb with
  | false =>
    go_wp2_with fail
    refine (awake_any _).mono ?_
    rintro e w2 ⟨rfl, b2⟩
    go_wp2_with fail
    go_ret
    exact ⟨rfl, bT b1 b2⟩
  | true =>
    have hl60 := (HB.out (by simp)).1
    have HOK := Lib.hid (HB.out (by simp)).2
    clear HB
    go_wp2_with fail
    refine (New_ap _).mono ?_
    rintro e w2 ⟨rfl, hA⟩
    have HA := Lib.hid (CJ.start hA 48)
    have HB1 := Lib.hid b1
    clear hA b1
    generalize w1.heap.size = b at HA ⊢
    go_wp2_with fail
    generalize w2.heap.size = Bx at HA ⊢
    go_loopw [5] (fun i wr => ∃ k : Nat, k ≤ os.length ∧ i = .int .i64 k ∧ Hid (∃ A1 c1 A2 c2, CJ w1 wr b (pst os k) (.slice A1 (pst os k).1.length c1) (.slice A2 (pst os k).2.length c2) (pst os k) [(Bx, (.cells #[.slice A1 (pst os k).1.length c1, .slice A2 (pst os k).2.length c2] 48 (0, 0)))])) (fun i _ => os.length - (intOf i).toNat)
    case atStart => exact ⟨0, Nat.zero_le _, rfl, by rw [pst_zero]; exact ⟨none, 0, none, 0, HA⟩⟩
    case round =>
      obtain ⟨k, hk, rfl, HQ0⟩ := hrel
      obtain ⟨A1, c1, A2, c2, hQ⟩ := HQ0.out
      have HQ := Lib.hid hQ
      clear hQ HQ0
      by_cases hlt : k < os.length
      · obtain ⟨o, ho⟩ : ∃ o, os[k]? = some o := ⟨_, List.getElem?_eq_getElem hlt⟩
        obtain ⟨g, off, rfl, hc, hg, hx⟩ := slice_addr HS.out (by omega)
        have HX := Lib.hid hx
        clear hx
        have hS := Lib.hid (pst_succ ho)
        obtain ⟨ok1, ok2⟩ := HOK.out k o ho
        have s1 : o.per.pid.size ≤ 140737488355328 := by omega
        have s2 : o.per.psp.size ≤ 140737488355328 := by omega
        have HOP : Hid (∀ W, Below w1.heap.size w1 W → _) := Lib.hid (fun W (hW : Below w1.heap.size w1 W) => op_cells (W := W) (fun j u hu => ((bT HB1.out hW).cell hg).trans (HX.out j u hu)) ho)
        obtain ⟨d0, d1, d2, d3, d4, d5, d6⟩ := HOP.out wr HQ.out.wb
        have hgw : g < wr.heap.size := by have h1 := HB1.out.size; have h2 := HQ.out.wb.size; omega
        have u0 : ∀ ob, (wr.alloc ob).cell? ⟨g, off + k * 7, none⟩ = some (.int .i64 o.knd) := fun ob => cell_up d0 hgw ob
        have u6 : ∀ ob, (wr.alloc ob).cell? ⟨g, off + k * 7 + 6, none⟩ = some (.int .i64 o.num) := fun ob => cell_up d6 hgw ob
        generalize pst os k = s at HQ hS
        obtain ⟨ps, ls⟩ := s
        have hBx := (HQ.out.2.2 (Bx, (.cells #[.slice A1 ps.length c1, .slice A2 ls.length c2] 48 (0, 0))) (by simp)).1
        have hBw : Bx < wr.heap.size := (Array.getElem?_eq_some_iff.1 hBx).1
        obtain ⟨y0, y1, y2, y3⟩ := two_cells hBx
        have v0 : ∀ ob, (wr.alloc ob).cell? ⟨Bx, 0, none⟩ = some (.slice A1 ps.length c1) := fun ob => cell_up y0 hBw ob
        have v1 : ∀ ob, (wr.alloc ob).cell? ⟨Bx, 1, none⟩ = some (.slice A2 ls.length c2) := fun ob => cell_up y1 hBw ob
        have HH := Lib.hid (HQ.out.alloc (.cells #[.string o.per.pid, .string o.per.psp, .int .i64 o.per.pfr, .int .i64 o.per.pun, .int .i64 o.per.pqu] 50))
        clear ho hBx
        by_cases k0 : o.knd = 0
        · have k0' : (o.knd == 0) = true := by simpa using k0
          have e0 : Hid (pst os (k + 1) = (addP ps o.per, addL ps ls o.per)) := by unfold Hid; rw [hS.out, pstep, if_pos k0]
          clear k0 HQ
          obtain ⟨ee, he⟩ : ∃ ee, Hid (addE ps o.per = ee) := ⟨_, rfl⟩
          go_wp2_with fail
          refine (HH.out.radd o.per s1 s2).mono ?_
          rintro e w3 ⟨B1, n1, B2, n2, rfl, hC, b3⟩
          rw [show addE (ps, ls).1 o.per = ee from he.out]
          have HC3 := Lib.hid hC
          clear hC d0 d1 d2 d3 d4 d5 d6 u0 u6 v0 v1 y0 y1 y2 y3
          have HC4 := Lib.hid (HC3.out.alloc (.cells #[.slice B1 (addP ps o.per).length n1, .slice B2 (addL ps ls o.per).length n2] 48))
          obtain ⟨x0, x1, x2, x3, x4⟩ := CJ.boxup HC3.out (B := wr.heap.size) (p := o.per) (by simp)
          go_wp2_with fail
          refine (HC4.out.add o.per s1 s2).mono ?_
          rintro e w5 ⟨rfl, hC⟩
          rw [show addE (ps, ls).1 o.per = ee from he.out]
          have HC5 := Lib.hid hC
          clear hC x0 x1 x2 x3 x4
          obtain ⟨x0, x1, x2, x3, x4⟩ := CJ.box HC5.out (B := wr.heap.size) (p := o.per) (by simp)
          obtain ⟨y0, y1, y2, y3⟩ := two_cells (HC5.out.2.2 (Bx, (.cells #[.slice A1 ps.length c1, .slice A2 ls.length c2] 48 (0, 0))) (by simp)).1
          obtain ⟨z0, z1, z2, z3⟩ := two_cells (HC5.out.2.2 (w3.heap.size, (.cells #[.slice B1 (addP ps o.per).length n1, .slice B2 (addL ps ls o.per).length n2] 48 (0, 0))) (by simp)).1
          go_wp2_with fail
          have HC6 := Lib.hid (CJ.set2 HC5.out (B := wr.heap.size) (Bx := Bx) (o := (.cells #[.string o.per.pid, .string o.per.psp, .int .i64 o.per.pfr, .int .i64 o.per.pun, .int .i64 o.per.pqu] 50 (0, 0))) (p := .slice A1 ps.length c1) (q := .slice A2 ls.length c2) (ty := 48) (by simp) (by simp) (by omega) (.slice B1 (addP ps o.per).length n1) (.slice B2 (addL ps ls o.per).length n2))
          generalize (w5.setCell ⟨Bx, 0, none⟩ (.slice B1 (addP ps o.per).length n1)).setCell ⟨Bx, 1, none⟩ (.slice B2 (addL ps ls o.per).length n2) = w6 at HC6 ⊢
          clear HC5 HC4 HC3 HH x0 x1 x2 x3 x4 y0 y1 y2 y3 z0 z1 z2 z3
          obtain ⟨f0, f1, f2, f3, f4⟩ := CJ.box HC6.out (B := wr.heap.size) (p := o.per) (by simp)
          obtain ⟨nn, hnn⟩ : ∃ nn, leftN (addP ps o.per) (addL ps ls o.per) o.per.pid = nn := ⟨_, rfl⟩
          have HLN : Hid (leftN (addP ps o.per, addL ps ls o.per).1 (addP ps o.per, addL ps ls o.per).2 o.per.pid = nn) := Lib.hid hnn
          clear hnn
          go_wp2_with fail
          refine (HC6.out.1.left _).mono ?_
          rintro e w7 ⟨rfl, b7⟩
          rw [HLN.out]
          have HC7 := Lib.hid (HC6.out.below b7)
          obtain ⟨f0, f1, f2, f3, f4⟩ := CJ.box HC7.out (B := wr.heap.size) (p := o.per) (by simp)
          obtain ⟨g0, g1, _⟩ := two_cells (HC7.out.2.2 (Bx, (.cells #[.slice B1 (addP ps o.per).length n1, .slice B2 (addL ps ls o.per).length n2] 48 (0, 0))) (by simp)).1
          go_wp2_with fail
          refine (HC7.out.rleft _).mono ?_
          rintro e w8 ⟨rfl, b8⟩
          rw [HLN.out]
          have HC8 := Lib.hid (HC7.out.below b8)
          clear f0 f1 f2 f3 f4 g0 g1
          obtain ⟨g0, g1, _⟩ := two_cells (HC8.out.2.2 (Bx, (.cells #[.slice B1 (addP ps o.per).length n1, .slice B2 (addL ps ls o.per).length n2] 48 (0, 0))) (by simp)).1
          have HC8d := Lib.hid (HC8.out.below (bd (Below.refl _ _)))
          have HX8 := Lib.hid (fun (W : World) (hW : Below w8.heap.size w8 W) => (two_cells ((HC8.out.below hW).2.2 (Bx, (.cells #[.slice B1 (addP ps o.per).length n1, .slice B2 (addL ps ls o.per).length n2] 48 (0, 0))) (by simp)).1).1)
          go_wp2_with fail
          go_region_held3 (fun w' => w'.cell? ⟨Bx, 0, none⟩ = some (.slice B1 (addP ps o.per).length n1)) (first | exact HX8.out _ (bT (bd (Below.refl _ _)) (bT B9.out B10.out)) | exact HX8.out _ (bT (bd (Below.refl _ _)) B9.out) | exact HX8.out _ (bd (Below.refl _ _)))
            (first
              | (go_at_call 29; refine (HC8d.out.1.list).mono ?_; rintro e w9 ⟨v9, rfl, ho9, b9⟩; have HO9 := Lib.hid ho9; have B9 := Lib.hid b9; clear ho9 b9)
              | (go_at_call 28; refine (Same_any v9 _ (addP ps o.per) _ (SliceIs.of_own HO9.out) ((HC8d.out.below B9.out).2.1.1)).mono ?_; rintro e w10 ⟨rfl, b10⟩; have B10 := Lib.hid b10; clear b10))
          go_wp2_with fail
          go_roundw
          case rel => exact ⟨k + 1, by omega, by go_num, Lib.hid ⟨_, _, _, _, by rw [e0.out]; exact ((HC8d.out.below B9.out).below B10.out).drop (by simp)⟩⟩
          case measure => simp [intOf]; omega
        · have k0' : (o.knd == 0) = false := by simpa using k0
          by_cases k1 : o.knd = 1
          · have k1' : (o.knd == 1) = true := by simpa using k1
            have e0 : Hid (pst os (k + 1) = (ps, useL ps ls o.per.pid o.num)) := by unfold Hid; rw [hS.out, pstep, if_neg k0, if_pos k1]
            clear k0 k1 HQ
            obtain ⟨eu, he⟩ : ∃ eu, Hid (useE ps ls o.per.pid o.num = eu) := ⟨_, rfl⟩
            have HHd := Lib.hid (HH.out.below (bd (Below.refl _ _)))
            have HHb := Lib.hid ((HH.out.alloc (.cells #[.slice none 0 0, .slice none 0 0] 48)).below (bd (Below.refl _ _)))
            rw [show (wr.alloc (.cells #[.string o.per.pid, .string o.per.psp, .int .i64 o.per.pfr, .int .i64 o.per.pun, .int .i64 o.per.pqu] 50)).heap.size = wr.heap.size + 1 by simp only [World.alloc, Array.size_push]] at HHb
            have SC := Lib.hid (fun (W : World) (s : List Perm × List Int) (r1 r2 : Value) (t : List Perm × List Int) (L : List (Nat × Obj)) (hW : CJ w1 W b s r1 r2 t L) (h1 : (wr.heap.size, (.cells #[.string o.per.pid, .string o.per.psp, .int .i64 o.per.pfr, .int .i64 o.per.pun, .int .i64 o.per.pqu] 50 (0, 0))) ∈ L) (h2 : (Bx, (.cells #[.slice A1 ps.length c1, .slice A2 ls.length c2] 48 (0, 0))) ∈ L) => And.intro (two_cells (hW.2.2 (Bx, (.cells #[.slice A1 ps.length c1, .slice A2 ls.length c2] 48 (0, 0))) h2).1).1 (And.intro (two_cells (hW.2.2 (Bx, (.cells #[.slice A1 ps.length c1, .slice A2 ls.length c2] 48 (0, 0))) h2).1).2.1 (And.intro (CJ.box hW (B := wr.heap.size) (p := o.per) h1).1 (HOP.out W hW.wb).2.2.2.2.2.2)))
            go_wp2_with fail
            clear d0 d1 d2 d3 d4 d5 d6 u0 u6 v0 v1 y0 y1 y2 y3
            go_region_held3 (fun w' => w'.cell? ⟨Bx, 0, none⟩ = some (.slice A1 ps.length c1) ∧ w'.cell? ⟨Bx, 1, none⟩ = some (.slice A2 ls.length c2) ∧ w'.cell? ⟨wr.heap.size, 0, none⟩ = some (.string o.per.pid) ∧ w'.cell? ⟨g, off + k * 7 + 6, none⟩ = some (.int .i64 o.num))
              (first | exact SC.out _ _ _ _ _ _ HC4.out (by simp) (by simp) | exact SC.out _ _ _ _ _ _ HC3.out (by simp) (by simp) | exact SC.out _ _ _ _ _ _ (HC3.out.alloc _) (by simp) (by simp) | exact SC.out _ _ _ _ _ _ HHd.out (by simp) (by simp) | exact SC.out _ _ _ _ _ _ HHb.out (by simp) (by simp))
              (first
                | (go_at_call 22; (with_reducible refine (HHd.out.ruse o.per.pid o.num).mono ?_); rintro e w3 ⟨B1, n1, B2, n2, rfl, hC, b3⟩; rw [show useE (ps, ls).1 (ps, ls).2 o.per.pid o.num = eu from he.out]; have HC3 := Lib.hid hC; clear hC b3)
                | (go_at_call 22; (with_reducible refine (HHb.out.ruse o.per.pid o.num).mono ?_); rintro e w3 ⟨B1, n1, B2, n2, rfl, hC, b3⟩; rw [show useE (ps, ls).1 (ps, ls).2 o.per.pid o.num = eu from he.out]; have HC3 := Lib.hid hC; obtain ⟨p0, p1, p2, p3⟩ := two_cells (hC.2.2 (wr.heap.size + 1, (.cells #[.slice none 0 0, .slice none 0 0] 48 (0, 0))) (by simp)).1; have HC4 := Lib.hid (hC.set3 (L' := [(wr.heap.size + 1, (.cells #[.slice B1 ps.length n1, .slice B2 (useL ps ls o.per.pid o.num).length n2] 48 (0, 0))), (wr.heap.size, (.cells #[.string o.per.pid, .string o.per.psp, .int .i64 o.per.pfr, .int .i64 o.per.pun, .int .i64 o.per.pqu] 50 (0, 0))), (Bx, (.cells #[.slice A1 ps.length c1, .slice A2 ls.length c2] 48 (0, 0)))]) (g := wr.heap.size + 1) (p := .slice none 0 0) (q := .slice none 0 0) (ty := 48) (by simp) (.slice B1 ps.length n1) (.slice B2 (useL ps ls o.per.pid o.num).length n2) (by simp; omega)); clear hC b3))
            · have HC4 := Lib.hid (HC3.out.alloc (.cells #[.slice B1 ps.length n1, .slice B2 (useL ps ls o.per.pid o.num).length n2] 48))
              clear HC3 HHd HHb HH
              generalize w3.alloc (.cells #[.slice B1 ps.length n1, .slice B2 (useL ps ls o.per.pid o.num).length n2] 48) = w4 at HC4 ⊢
              generalize w3.heap.size = Y at HC4 ⊢
              have HC4' : Hid (CJ w1 w4 b (ps, ls) (.slice B1 ps.length n1) (.slice B2 (useL ps ls o.per.pid o.num).length n2) (ps, useL ps ls o.per.pid o.num) [(Y, (.cells #[.slice B1 ps.length n1, .slice B2 (useL ps ls o.per.pid o.num).length n2] 48 (0, 0))), (wr.heap.size, (.cells #[.string o.per.pid, .string o.per.psp, .int .i64 o.per.pfr, .int .i64 o.per.pun, .int .i64 o.per.pqu] 50 (0, 0))), (Bx, (.cells #[.slice A1 ps.length c1, .slice A2 ls.length c2] 48 (0, 0)))]) := HC4
              have HC4d := Lib.hid (HC4'.out.below (bd (Below.refl _ _)))
              have SD := Lib.hid (fun (W : World) (s : List Perm × List Int) (hW : CJ w1 W b s (.slice B1 ps.length n1) (.slice B2 (useL ps ls o.per.pid o.num).length n2) (ps, useL ps ls o.per.pid o.num) [(Y, (.cells #[.slice B1 ps.length n1, .slice B2 (useL ps ls o.per.pid o.num).length n2] 48 (0, 0))), (wr.heap.size, (.cells #[.string o.per.pid, .string o.per.psp, .int .i64 o.per.pfr, .int .i64 o.per.pun, .int .i64 o.per.pqu] 50 (0, 0))), (Bx, (.cells #[.slice A1 ps.length c1, .slice A2 ls.length c2] 48 (0, 0)))]) => And.intro (CJ.box hW (B := wr.heap.size) (p := o.per) (by simp)).1 (HOP.out W hW.wb).2.2.2.2.2.2)
              go_wp2_with fail
              go_region_held3 (fun w' => w'.cell? ⟨wr.heap.size, 0, none⟩ = some (.string o.per.pid) ∧ w'.cell? ⟨g, off + k * 7 + 6, none⟩ = some (.int .i64 o.num)) (first | exact SD.out _ _ HC5.out | exact SD.out _ _ HC4d.out)
                (first
                  | (go_at_call 23; refine (HC4d.out.use o.per.pid o.num).mono ?_; rintro e w5 ⟨rfl, hC⟩; rw [show useE (ps, ls).1 (ps, ls).2 o.per.pid o.num = eu from he.out]; have HC5 := Lib.hid hC; clear hC))
              obtain ⟨y0, y1, y2, y3⟩ := two_cells (HC5.out.2.2 (Bx, (.cells #[.slice A1 ps.length c1, .slice A2 ls.length c2] 48 (0, 0))) (by simp)).1
              obtain ⟨z0, z1, z2, z3⟩ := two_cells (HC5.out.2.2 (Y, (.cells #[.slice B1 ps.length n1, .slice B2 (useL ps ls o.per.pid o.num).length n2] 48 (0, 0))) (by simp)).1
              obtain ⟨x0, x1, x2, x3, x4⟩ := CJ.box HC5.out (B := wr.heap.size) (p := o.per) (by simp)
              go_wp2_with fail
              have HC6 := Lib.hid (CJ.set2 HC5.out (B := wr.heap.size) (Bx := Bx) (o := (.cells #[.string o.per.pid, .string o.per.psp, .int .i64 o.per.pfr, .int .i64 o.per.pun, .int .i64 o.per.pqu] 50 (0, 0))) (p := .slice A1 ps.length c1) (q := .slice A2 ls.length c2) (ty := 48) (by simp) (by simp) (by omega) (.slice B1 ps.length n1) (.slice B2 (useL ps ls o.per.pid o.num).length n2))
              generalize (w5.setCell ⟨Bx, 0, none⟩ (.slice B1 ps.length n1)).setCell ⟨Bx, 1, none⟩ (.slice B2 (useL ps ls o.per.pid o.num).length n2) = w6 at HC6 ⊢
              clear HC5 HC4 HC4' HC4d SD SC x0 x1 x2 x3 x4 y0 y1 y2 y3 z0 z1 z2 z3
              obtain ⟨f0, f1, f2, f3, f4⟩ := CJ.box HC6.out (B := wr.heap.size) (p := o.per) (by simp)
              obtain ⟨nn, hnn⟩ : ∃ nn, leftN ps (useL ps ls o.per.pid o.num) o.per.pid = nn := ⟨_, rfl⟩
              have HLN : Hid (leftN (ps, useL ps ls o.per.pid o.num).1 (ps, useL ps ls o.per.pid o.num).2 o.per.pid = nn) := Lib.hid hnn
              clear hnn
              go_wp2_with fail
              refine (HC6.out.1.left _).mono ?_
              rintro e w7 ⟨rfl, b7⟩
              rw [HLN.out]
              have HC7 := Lib.hid (HC6.out.below b7)
              obtain ⟨f0, f1, f2, f3, f4⟩ := CJ.box HC7.out (B := wr.heap.size) (p := o.per) (by simp)
              obtain ⟨g0, g1, _⟩ := two_cells (HC7.out.2.2 (Bx, (.cells #[.slice B1 ps.length n1, .slice B2 (useL ps ls o.per.pid o.num).length n2] 48 (0, 0))) (by simp)).1
              go_wp2_with fail
              refine (HC7.out.rleft _).mono ?_
              rintro e w8 ⟨rfl, b8⟩
              rw [HLN.out]
              have HC8 := Lib.hid (HC7.out.below b8)
              clear f0 f1 f2 f3 f4 g0 g1
              obtain ⟨g0, g1, _⟩ := two_cells (HC8.out.2.2 (Bx, (.cells #[.slice B1 ps.length n1, .slice B2 (useL ps ls o.per.pid o.num).length n2] 48 (0, 0))) (by simp)).1
              have HC8d := Lib.hid (HC8.out.below (bd (Below.refl _ _)))
              have HX8 := Lib.hid (fun (W : World) (hW : Below w8.heap.size w8 W) => (two_cells ((HC8.out.below hW).2.2 (Bx, (.cells #[.slice B1 ps.length n1, .slice B2 (useL ps ls o.per.pid o.num).length n2] 48 (0, 0))) (by simp)).1).1)
              go_wp2_with fail
              go_region_held3 (fun w' => w'.cell? ⟨Bx, 0, none⟩ = some (.slice B1 ps.length n1)) (first | exact HX8.out _ (bT (bd (Below.refl _ _)) (bT B9.out B10.out)) | exact HX8.out _ (bT (bd (Below.refl _ _)) B9.out) | exact HX8.out _ (bd (Below.refl _ _)))
                (first
                  | (go_at_call 29; refine (HC8d.out.1.list).mono ?_; rintro e w9 ⟨v9, rfl, ho9, b9⟩; have HO9 := Lib.hid ho9; have B9 := Lib.hid b9; clear ho9 b9)
                  | (go_at_call 28; refine (Same_any v9 _ ps _ (SliceIs.of_own HO9.out) ((HC8d.out.below B9.out).2.1.1)).mono ?_; rintro e w10 ⟨rfl, b10⟩; have B10 := Lib.hid b10; clear b10))
              go_wp2_with fail
              go_roundw
              case rel => exact ⟨k + 1, by omega, by go_num, Lib.hid ⟨_, _, _, _, by rw [e0.out]; exact ((HC8d.out.below B9.out).below B10.out).drop (by simp)⟩⟩
              case measure => simp [intOf]; omega
            · clear HC3 HHd HHb HH p0 p1 p2 p3
              generalize (w3.setCell ⟨wr.heap.size + 1, 0, none⟩ (.slice B1 ps.length n1)).setCell ⟨wr.heap.size + 1, 1, none⟩ (.slice B2 (useL ps ls o.per.pid o.num).length n2) = w4 at HC4 ⊢
              generalize wr.heap.size + 1 = Y at HC4 ⊢
              have HC4' : Hid (CJ w1 w4 b (ps, ls) (.slice B1 ps.length n1) (.slice B2 (useL ps ls o.per.pid o.num).length n2) (ps, useL ps ls o.per.pid o.num) [(Y, (.cells #[.slice B1 ps.length n1, .slice B2 (useL ps ls o.per.pid o.num).length n2] 48 (0, 0))), (wr.heap.size, (.cells #[.string o.per.pid, .string o.per.psp, .int .i64 o.per.pfr, .int .i64 o.per.pun, .int .i64 o.per.pqu] 50 (0, 0))), (Bx, (.cells #[.slice A1 ps.length c1, .slice A2 ls.length c2] 48 (0, 0)))]) := HC4
              have HC4d := Lib.hid (HC4'.out.below (bd (Below.refl _ _)))
              have SD := Lib.hid (fun (W : World) (s : List Perm × List Int) (hW : CJ w1 W b s (.slice B1 ps.length n1) (.slice B2 (useL ps ls o.per.pid o.num).length n2) (ps, useL ps ls o.per.pid o.num) [(Y, (.cells #[.slice B1 ps.length n1, .slice B2 (useL ps ls o.per.pid o.num).length n2] 48 (0, 0))), (wr.heap.size, (.cells #[.string o.per.pid, .string o.per.psp, .int .i64 o.per.pfr, .int .i64 o.per.pun, .int .i64 o.per.pqu] 50 (0, 0))), (Bx, (.cells #[.slice A1 ps.length c1, .slice A2 ls.length c2] 48 (0, 0)))]) => And.intro (CJ.box hW (B := wr.heap.size) (p := o.per) (by simp)).1 (HOP.out W hW.wb).2.2.2.2.2.2)
              go_wp2_with fail
              go_region_held3 (fun w' => w'.cell? ⟨wr.heap.size, 0, none⟩ = some (.string o.per.pid) ∧ w'.cell? ⟨g, off + k * 7 + 6, none⟩ = some (.int .i64 o.num)) (first | exact SD.out _ _ HC5.out | exact SD.out _ _ HC4d.out)
                (first
                  | (go_at_call 23; refine (HC4d.out.use o.per.pid o.num).mono ?_; rintro e w5 ⟨rfl, hC⟩; rw [show useE (ps, ls).1 (ps, ls).2 o.per.pid o.num = eu from he.out]; have HC5 := Lib.hid hC; clear hC))
              obtain ⟨y0, y1, y2, y3⟩ := two_cells (HC5.out.2.2 (Bx, (.cells #[.slice A1 ps.length c1, .slice A2 ls.length c2] 48 (0, 0))) (by simp)).1
              obtain ⟨z0, z1, z2, z3⟩ := two_cells (HC5.out.2.2 (Y, (.cells #[.slice B1 ps.length n1, .slice B2 (useL ps ls o.per.pid o.num).length n2] 48 (0, 0))) (by simp)).1
              obtain ⟨x0, x1, x2, x3, x4⟩ := CJ.box HC5.out (B := wr.heap.size) (p := o.per) (by simp)
              go_wp2_with fail
              have HC6 := Lib.hid (CJ.set2 HC5.out (B := wr.heap.size) (Bx := Bx) (o := (.cells #[.string o.per.pid, .string o.per.psp, .int .i64 o.per.pfr, .int .i64 o.per.pun, .int .i64 o.per.pqu] 50 (0, 0))) (p := .slice A1 ps.length c1) (q := .slice A2 ls.length c2) (ty := 48) (by simp) (by simp) (by omega) (.slice B1 ps.length n1) (.slice B2 (useL ps ls o.per.pid o.num).length n2))
              generalize (w5.setCell ⟨Bx, 0, none⟩ (.slice B1 ps.length n1)).setCell ⟨Bx, 1, none⟩ (.slice B2 (useL ps ls o.per.pid o.num).length n2) = w6 at HC6 ⊢
              clear HC5 HC4 HC4' HC4d SD SC x0 x1 x2 x3 x4 y0 y1 y2 y3 z0 z1 z2 z3
              obtain ⟨f0, f1, f2, f3, f4⟩ := CJ.box HC6.out (B := wr.heap.size) (p := o.per) (by simp)
              obtain ⟨nn, hnn⟩ : ∃ nn, leftN ps (useL ps ls o.per.pid o.num) o.per.pid = nn := ⟨_, rfl⟩
              have HLN : Hid (leftN (ps, useL ps ls o.per.pid o.num).1 (ps, useL ps ls o.per.pid o.num).2 o.per.pid = nn) := Lib.hid hnn
              clear hnn
              go_wp2_with fail
              refine (HC6.out.1.left _).mono ?_
              rintro e w7 ⟨rfl, b7⟩
              rw [HLN.out]
              have HC7 := Lib.hid (HC6.out.below b7)
              obtain ⟨f0, f1, f2, f3, f4⟩ := CJ.box HC7.out (B := wr.heap.size) (p := o.per) (by simp)
              obtain ⟨g0, g1, _⟩ := two_cells (HC7.out.2.2 (Bx, (.cells #[.slice B1 ps.length n1, .slice B2 (useL ps ls o.per.pid o.num).length n2] 48 (0, 0))) (by simp)).1
              go_wp2_with fail
              refine (HC7.out.rleft _).mono ?_
              rintro e w8 ⟨rfl, b8⟩
              rw [HLN.out]
              have HC8 := Lib.hid (HC7.out.below b8)
              clear f0 f1 f2 f3 f4 g0 g1
              obtain ⟨g0, g1, _⟩ := two_cells (HC8.out.2.2 (Bx, (.cells #[.slice B1 ps.length n1, .slice B2 (useL ps ls o.per.pid o.num).length n2] 48 (0, 0))) (by simp)).1
              have HC8d := Lib.hid (HC8.out.below (bd (Below.refl _ _)))
              have HX8 := Lib.hid (fun (W : World) (hW : Below w8.heap.size w8 W) => (two_cells ((HC8.out.below hW).2.2 (Bx, (.cells #[.slice B1 ps.length n1, .slice B2 (useL ps ls o.per.pid o.num).length n2] 48 (0, 0))) (by simp)).1).1)
              go_wp2_with fail
              go_region_held3 (fun w' => w'.cell? ⟨Bx, 0, none⟩ = some (.slice B1 ps.length n1)) (first | exact HX8.out _ (bT (bd (Below.refl _ _)) (bT B9.out B10.out)) | exact HX8.out _ (bT (bd (Below.refl _ _)) B9.out) | exact HX8.out _ (bd (Below.refl _ _)))
                (first
                  | (go_at_call 29; refine (HC8d.out.1.list).mono ?_; rintro e w9 ⟨v9, rfl, ho9, b9⟩; have HO9 := Lib.hid ho9; have B9 := Lib.hid b9; clear ho9 b9)
                  | (go_at_call 28; refine (Same_any v9 _ ps _ (SliceIs.of_own HO9.out) ((HC8d.out.below B9.out).2.1.1)).mono ?_; rintro e w10 ⟨rfl, b10⟩; have B10 := Lib.hid b10; clear b10))
              go_wp2_with fail
              go_roundw
              case rel => exact ⟨k + 1, by omega, by go_num, Lib.hid ⟨_, _, _, _, by rw [e0.out]; exact ((HC8d.out.below B9.out).below B10.out).drop (by simp)⟩⟩
              case measure => simp [intOf]; omega
          · have k1' : (o.knd == 1) = false := by simpa using k1
            have e0 : Hid (pst os (k + 1) = (ps, ls)) := by unfold Hid; rw [hS.out, pstep, if_neg k0, if_neg k1]
            clear k0 k1 HQ
            obtain ⟨x0, x1, x2, x3, x4⟩ := CJ.box HH.out (B := wr.heap.size) (p := o.per) (by simp)
            have S0 := And.intro (v0 (.cells #[.string o.per.pid, .string o.per.psp, .int .i64 o.per.pfr, .int .i64 o.per.pun, .int .i64 o.per.pqu] 50)) (And.intro (v1 (.cells #[.string o.per.pid, .string o.per.psp, .int .i64 o.per.pfr, .int .i64 o.per.pun, .int .i64 o.per.pqu] 50)) (And.intro x0 (And.intro x1 (u6 (.cells #[.string o.per.pid, .string o.per.psp, .int .i64 o.per.pfr, .int .i64 o.per.pun, .int .i64 o.per.pqu] 50)))))
            have HHd := Lib.hid (HH.out.below (bd (Below.refl _ _)))
            have SC := Lib.hid (fun (W : World) (hW : CJ w1 W b (ps, ls) (.slice A1 ps.length c1) (.slice A2 ls.length c2) (ps, ls) [(wr.heap.size, (.cells #[.string o.per.pid, .string o.per.psp, .int .i64 o.per.pfr, .int .i64 o.per.pun, .int .i64 o.per.pqu] 50 (0, 0))), (Bx, (.cells #[.slice A1 ps.length c1, .slice A2 ls.length c2] 48 (0, 0)))]) => And.intro (two_cells (hW.2.2 (Bx, (.cells #[.slice A1 ps.length c1, .slice A2 ls.length c2] 48 (0, 0))) (by simp)).1).1 (And.intro (two_cells (hW.2.2 (Bx, (.cells #[.slice A1 ps.length c1, .slice A2 ls.length c2] 48 (0, 0))) (by simp)).1).2.1 (And.intro (CJ.box hW (B := wr.heap.size) (p := o.per) (by simp)).1 (And.intro (CJ.box hW (B := wr.heap.size) (p := o.per) (by simp)).2.1 (HOP.out W hW.wb).2.2.2.2.2.2))))
            go_wp2_with fail
            clear d0 d1 d2 d3 d4 d5 d6 x1 x2 x3 x4
            go_region_held3 (fun w' => w'.cell? ⟨Bx, 0, none⟩ = some (.slice A1 ps.length c1) ∧ w'.cell? ⟨Bx, 1, none⟩ = some (.slice A2 ls.length c2) ∧ w'.cell? ⟨wr.heap.size, 0, none⟩ = some (.string o.per.pid) ∧ w'.cell? ⟨wr.heap.size, 1, none⟩ = some (.string o.per.psp) ∧ w'.cell? ⟨g, off + k * 7 + 6, none⟩ = some (.int .i64 o.num)) (first | exact SC.out _ HC6.out | exact SC.out _ HC5.out | exact S0)
              (first
                | (go_at_call 24; refine (HHd.out.1.fell _ _ _).mono ?_; rintro e w5 ⟨rfl, b5⟩; have HC5 := Lib.hid (HHd.out.below b5); clear b5)
                | (go_at_call 25; refine (HC5.out.rfell _ _ _).mono ?_; rintro e w6 ⟨rfl, b6⟩; have HC6 := Lib.hid (HC5.out.below b6); clear b6))
            clear S0 SC HHd HC5 HH u0 u6 v0 v1 x0
            obtain ⟨f0, f1, f2, f3, f4⟩ := CJ.box HC6.out (B := wr.heap.size) (p := o.per) (by simp)
            obtain ⟨nn, hnn⟩ : ∃ nn, leftN ps ls o.per.pid = nn := ⟨_, rfl⟩
            have HLN : Hid (leftN (ps, ls).1 (ps, ls).2 o.per.pid = nn) := Lib.hid hnn
            clear hnn
            go_wp2_with fail
            refine (HC6.out.1.left _).mono ?_
            rintro e w7 ⟨rfl, b7⟩
            rw [HLN.out]
            have HC7 := Lib.hid (HC6.out.below b7)
            obtain ⟨f0, f1, f2, f3, f4⟩ := CJ.box HC7.out (B := wr.heap.size) (p := o.per) (by simp)
            obtain ⟨g0, g1, _⟩ := two_cells (HC7.out.2.2 (Bx, (.cells #[.slice A1 ps.length c1, .slice A2 ls.length c2] 48 (0, 0))) (by simp)).1
            go_wp2_with fail
            refine (HC7.out.rleft _).mono ?_
            rintro e w8 ⟨rfl, b8⟩
            rw [HLN.out]
            have HC8 := Lib.hid (HC7.out.below b8)
            clear f0 f1 f2 f3 f4 g0 g1
            obtain ⟨g0, g1, _⟩ := two_cells (HC8.out.2.2 (Bx, (.cells #[.slice A1 ps.length c1, .slice A2 ls.length c2] 48 (0, 0))) (by simp)).1
            have HC8d := Lib.hid (HC8.out.below (bd (Below.refl _ _)))
            have HX8 := Lib.hid (fun (W : World) (hW : Below w8.heap.size w8 W) => (two_cells ((HC8.out.below hW).2.2 (Bx, (.cells #[.slice A1 ps.length c1, .slice A2 ls.length c2] 48 (0, 0))) (by simp)).1).1)
            go_wp2_with fail
            go_region_held3 (fun w' => w'.cell? ⟨Bx, 0, none⟩ = some (.slice A1 ps.length c1)) (first | exact HX8.out _ (bT (bd (Below.refl _ _)) (bT B9.out B10.out)) | exact HX8.out _ (bT (bd (Below.refl _ _)) B9.out) | exact HX8.out _ (bd (Below.refl _ _)))
              (first
                | (go_at_call 29; refine (HC8d.out.1.list).mono ?_; rintro e w9 ⟨v9, rfl, ho9, b9⟩; have HO9 := Lib.hid ho9; have B9 := Lib.hid b9; clear ho9 b9)
                | (go_at_call 28; refine (Same_any v9 _ ps _ (SliceIs.of_own HO9.out) ((HC8d.out.below B9.out).2.1.1)).mono ?_; rintro e w10 ⟨rfl, b10⟩; have B10 := Lib.hid b10; clear b10))
            go_wp2_with fail
            go_roundw
            case rel => exact ⟨k + 1, by omega, by go_num, Lib.hid ⟨_, _, _, _, by rw [e0.out]; exact ((HC8d.out.below B9.out).below B10.out).drop (by simp)⟩⟩
            case measure => simp [intOf]; omega
      · obtain rfl : k = os.length := by omega
        go_wp2_with fail
        refine (awake_any _).mono ?_
        rintro e w5 ⟨rfl, b5⟩
        go_wp2_with fail
        go_ret
        exact ⟨rfl, bT HB1.out (bT HQ.out.wb b5)⟩
end Go.Proofs.YtgonghmihghhnaaDoor.Pe
