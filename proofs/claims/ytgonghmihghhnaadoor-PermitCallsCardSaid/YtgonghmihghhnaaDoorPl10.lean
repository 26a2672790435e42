/- the law PermitQuotas, walked. -/
import Derived.Test.YtgonghmihghhnaaDoorPl9
import Derived.Deep.RegionHeld3
import Derived.Deep.QuietTactic
import Derived.BigQuiet
namespace Go.Proofs.YtgonghmihghhnaaDoor.Pe
open Go.RowKit Go.Proofs.YtgonghmihghhnaaDoor.Id

theorem slice_addr {W : World} {sz n c : Nat} {A : Option Addr} {xs : List Value} (h : SliceIs W sz (.slice A n c) n xs) (hn : 0 < n) : ∃ g off, A = some ⟨g, off, none⟩ ∧ n ≤ c ∧ g < W.heap.size ∧ ∀ j u, xs[j]? = some u → W.cell? ⟨g, off + j, none⟩ = some u := by
  rcases h.2.2 with ⟨h0, _⟩ | ⟨g, off, c', e, hc, hg, hx⟩
  · omega
  · simp only [Value.slice.injEq, true_and] at e
    obtain ⟨rfl, rfl⟩ := e
    exact ⟨g, off, rfl, hc, hg, hx⟩
theorem QI.start {w W : World} {b : Nat} (h : Ap w W b ([], []) (fun _ => False)) : QI w W b (.slice none 0 0) (.slice none 0 0) ([], []) :=
  ⟨h.sub (fun k hk => by rcases hk with h | h <;> simp [Value.ownBlock] at h), World.ownsRow_nil W _ _ _, World.ownsRow_nil W _ _ _⟩
theorem QH.cells {w W : World} {b : Nat} {v1 v2 : Value} {s : List Perm × List Int} {n m B : Nat} {xs ys : List Value} {p : Perm} (h : QH w W b v1 v2 s n m xs ys B (.cells #[.string p.pid, .string p.psp, .int .i64 p.pfr, .int .i64 p.pun, .int .i64 p.pqu] 50)) :
    W.cell? ⟨B, 0, none⟩ = some (.string p.pid) ∧ W.cell? ⟨B, 1, none⟩ = some (.string p.psp) ∧ W.cell? ⟨B, 2, none⟩ = some (.int .i64 p.pfr) ∧ W.cell? ⟨B, 3, none⟩ = some (.int .i64 p.pun) ∧ W.cell? ⟨B, 4, none⟩ = some (.int .i64 p.pqu) := by
  have hb := h.2.2.2.1
  refine ⟨?_, ?_, ?_, ?_, ?_⟩ <;> (rw [cell_of_row _ _ _ _ _ _ hb]; rfl)
theorem QH.wb {w W : World} {b : Nat} {v1 v2 : Value} {s : List Perm × List Int} {n m B : Nat} {xs ys : List Value} {o : Obj} (h : QH w W b v1 v2 s n m xs ys B o) : Below w.heap.size w W := h.1.wb
theorem QH.done {w W : World} {b : Nat} {v1 v2 : Value} {s s' : List Perm × List Int} {n m B : Nat} {xs ys : List Value} {o : Obj} (h : QH w W b v1 v2 s n m xs ys B o) (e : s = s') (hn : n = s'.1.length) (hm : m = s'.1.length) (hx : xs = pcells s'.1) (hy : ys = icells s'.2) : QI w W b v1 v2 s' := by
  subst e hx hy hn hm
  exact h.back rfl
theorem use_zero {ps : List Perm} {ls : List Int} {s : ByteArray} {v : Int} (hI : Inv ps ls) (h : useE ps ls s v = 0) : ∃ (m : Nat) (p : Perm) (l : Int), ps[m]? = some p ∧ findI ps s = m ∧ p.pid = s ∧ ls[m]? = some l ∧ 1 ≤ v ∧ v ≤ 1125899906842624 ∧ v ≤ l ∧ l ≤ 1125899906842624 ∧ useL ps ls s v = ls.set m (l - v) := by
  rcases findI_cases ps s with ⟨f, _⟩ | ⟨k, p, hp, f, hid, _⟩
  · rw [(twice_none f ls v).1] at h
    omega
  · obtain ⟨l, hl, h0, h1, h2⟩ := hI.left hp
    have e := useE_at (v := v) f hl
    have h' := h
    rw [e] at h'
    split at h'
    · omega
    split at h'
    · omega
    exact ⟨k, p, l, hp, f, hid, hl, by omega, by omega, by omega, by omega, useL_at f hl h⟩
theorem row_shape {W : World} {base sz n c : Nat} {e : TypeId} {A : Option Addr} {xs : List Value} (h : W.ownsRow base e sz (.slice A n c) n xs) (hn : 0 < n) : ∃ g, A = some ⟨g, 0, none⟩ := by
  obtain ⟨g, cap, e1, _⟩ := h.form hn
  simp only [Value.slice.injEq] at e1
  exact ⟨g, e1.1⟩
set_option maxHeartbeats 16000000 in
set_option maxRecDepth 100000 in
set_option linter.all false in
theorem PermitQuotas_any (v : Value) (os : List OpP) (w : World) (hs : SliceIs w 7 v os.length (ocells os)) :
    Calls Tryd.prog 6 #[v] w fun e w' => e = .returned (.bool true) ∧ Below w.heap.size w w' := by
  have HS := Lib.hid hs
  obtain ⟨A, c0, rfl⟩ := slice_shape hs
  clear hs
  go_enter Tryd.func6, Tryd.ntmps6
  go_wp2_with fail
  refine (short_any _ os w HS.out).mono ?_
  rintro e w1 ⟨bb, rfl, b1, hb⟩
  have HB := Lib.hid hb
  clear hb
  cases bb with
  | false =>
    go_wp2_with fail
    refine (awake_any _).mono ?_
    rintro e w2 ⟨rfl, b2⟩
    go_wp2_with fail
    go_ret
    exact ⟨rfl, bT b1 b2⟩
  | true =>
    have hl60 := (HB.out (by simp)).1
    have HOK := Lib.hid (HB.out (by simp)).2
    clear HB
    go_wp2_with fail
    refine (New_ap _).mono ?_
    rintro e w2 ⟨rfl, hA⟩
    have HA := Lib.hid (QI.start hA)
    have HB1 := Lib.hid b1
    clear hA b1
    generalize w1.heap.size = b at HA ⊢
    go_wp2_with fail
    go_loopw [4, 5, 6] (fun v1 v2 i wr => ∃ k : Nat, k ≤ os.length ∧ i = .int .i64 k ∧ Hid (QI w1 wr b v1 v2 (pst os k))) (fun _ _ i _ => os.length - (intOf i).toNat)
    case atStart => exact ⟨0, Nat.zero_le _, rfl, by rw [pst_zero]; exact HA⟩
    case round =>
      obtain ⟨k, hk, rfl, HQ⟩ := hrel
      by_cases hlt : k < os.length
      · obtain ⟨o, ho⟩ : ∃ o, os[k]? = some o := ⟨_, List.getElem?_eq_getElem hlt⟩
        obtain ⟨g, off, rfl, hc, hg, hx⟩ := slice_addr HS.out (by omega)
        have HX := Lib.hid hx
        clear hx
        have hS := Lib.hid (pst_succ ho)
        obtain ⟨ok1, ok2⟩ := HOK.out k o ho
        have s1 : o.per.pid.size ≤ 140737488355328 := by omega
        have s2 : o.per.psp.size ≤ 140737488355328 := by omega
        have HOP : Hid (∀ W, Below w1.heap.size w1 W → _) := Lib.hid (fun W (hW : Below w1.heap.size w1 W) => op_cells (W := W) (fun j u hu => ((bT HB1.out hW).cell hg).trans (HX.out j u hu)) ho)
        obtain ⟨d0, d1, d2, d3, d4, d5, d6⟩ := HOP.out wr HQ.out.1.wb
        have hgw : g < wr.heap.size := by have h1 := HB1.out.size; have h2 := HQ.out.1.wb.size; omega
        have u0 : ∀ ob, (wr.alloc ob).cell? ⟨g, off + k * 7, none⟩ = some (.int .i64 o.knd) := fun ob => cell_up d0 hgw ob
        have u6 : ∀ ob, (wr.alloc ob).cell? ⟨g, off + k * 7 + 6, none⟩ = some (.int .i64 o.num) := fun ob => cell_up d6 hgw ob
        have HD := Lib.hid (pst_dist os k)
        generalize pst os k = s at HQ hS HD
        obtain ⟨ps, ls⟩ := s
        have HH := Lib.hid (HQ.out.box (.cells #[.string o.per.pid, .string o.per.psp, .int .i64 o.per.pfr, .int .i64 o.per.pun, .int .i64 o.per.pqu] 50))
        obtain ⟨A1, c1, rfl⟩ := own_shape HQ.out.2.1
        obtain ⟨A2, c2, rfl⟩ := own_shape HQ.out.2.2
        have HI := Lib.hid HQ.out.1.inv
        have hn16 : ps.length ≤ 16 := HI.out.2.1
        clear ho
        by_cases k0 : o.knd = 0
        · have k0' : (o.knd == 0) = true := by simpa using k0
          have k0n : (o.knd != 1) = true := by simp [k0]
          clear HQ
          obtain ⟨ee, he⟩ : ∃ ee, Hid (addE ps o.per = ee) := ⟨_, rfl⟩
          have e0 : Hid (pst os (k + 1) = (addP ps o.per, addL ps ls o.per)) := by unfold Hid; rw [hS.out, pstep, if_pos k0]
          clear k0
          go_wp2_with fail
          refine (HH.out.add o.per s1 s2).mono ?_
          rintro e w3 ⟨rfl, hA⟩
          have HH3 := Lib.hid hA
          clear hA
          obtain ⟨x0, x1, x2, x3, x4⟩ := HH3.out.cells
          clear d0 d1 d2 d3 d4 d5 d6 u0 u6
          obtain ⟨d0, d1, d2, d3, d4, d5, d6⟩ := HOP.out w3 HH3.out.wb
          rw [show addE (ps, ls).1 o.per = ee from he.out]
          have hz3 : w1.heap.size ≤ w3.heap.size := HH3.out.wb.size
          by_cases q0 : ee = 0
          · subst q0
            obtain ⟨i0, hi, hy0, hy1, hy2⟩ := info_parts infoPermit
            obtain ⟨i1, hi1, hx0, hx1, hx2⟩ := info_parts infoInt
            go_wp2_with (at_builtin; refine wpList_append_lies _ rfl (.tmp 42) (.tmp 44) _ (by rfl) w1.heap.size 50 i0 _ 5 56 undPermits hi hy0 hy1 hy2 rfl (by omega) (.slice A1 ps.length c1) ps.length (pcells ps) (by rfl) (own_below HH3.out.2.1 (bA (Below.refl _ _) _)) ⟨w3.heap.size, 0, none⟩ 1 1 o.per.cells (by rfl) rfl (World.news_of_block (heap_alloc_new w3 _)) (perm_one o.per) (by omega) (by unfold maxLen; omega) (by omega) (by simp; omega) (w3.heap.size + 1) (by simp) ?_)
            intro g1 cap1 w4 hown hgrow hat hlt4
            have HH4 := Lib.hid (HH3.out.push1 (bA (Below.refl _ w3) _) hgrow hown (hat.imp id (fun e => by simp [e])))
            clear hown hgrow hat hlt4 x0 x1 x2 x3 x4
            obtain ⟨x0, x1, x2, x3, x4⟩ := HH4.out.cells
            have hz4 : w1.heap.size ≤ w4.heap.size := HH4.out.wb.size
            go_wp2_with (at_builtin; refine wpList_append_lies _ rfl (.tmp 46) (.tmp 49) _ (by rfl) w1.heap.size 3 i1 _ 1 8 undInts hi1 hx0 hx1 hx2 rfl (by omega) (.slice A2 ps.length c2) ps.length (icells ls) (by rfl) (own_below HH4.out.2.2.1 (bA (Below.refl _ _) _)) ⟨w4.heap.size, 0, none⟩ 1 1 [.int .i64 o.per.pqu] (by rfl) rfl (World.news_of_block (heap_alloc_new w4 _)) (by intro u hu; simp at hu; subst hu; rfl) (by omega) (by unfold maxLen; omega) (by omega) (by simp; omega) (w4.heap.size + 1) (by simp) ?_)
            intro g2 cap2 w5 hown hgrow hat hlt5
            have HH5 := Lib.hid (HH4.out.push2 (bA (Below.refl _ w4) _) hgrow hown (hat.imp id (fun e => by simp [e])))
            clear hown hgrow hat hlt5 x0 x1 x2 x3 x4 d0 d1 d2 d3 d4 d5 d6 hx0 hx1 hx2 hy0 hy1 hy2 hi hi1
            obtain ⟨d0, _⟩ := HOP.out w5 HH5.out.wb
            have HN : Hid (QI w1 w5 b (.slice (some ⟨g1, 0, none⟩) (ps.length + 1) cap1) (.slice (some ⟨g2, 0, none⟩) (ps.length + 1) cap2) (pst os (k + 1))) := by
              refine Lib.hid (QH.done HH5.out ?_ ?_ ?_ ?_ ?_) <;> rw [e0.out]
              · simp [addP, he.out]
              · simp [addP, he.out]
              · simp only [addP, if_pos he.out]; exact (pcells_snoc ps o.per).symm
              · simp only [addL, if_pos he.out]; exact (icells_snoc ls o.per.pqu).symm
            clear HH3 HH4 HH5 HH HI HOP HD
            go_wp2_with fail
            go_quiet (fail)
            go_wp2_with fail
            go_roundw
            case rel => exact ⟨k + 1, by omega, by go_num, Lib.hid (HN.out.below (bD (Below.refl _ _) _))⟩
            case measure => simp [intOf]; omega
          · have e0' : (ee == 0) = false := by simpa using q0
            have HN : Hid (QI w1 w3 b (.slice A1 ps.length c1) (.slice A2 ps.length c2) (pst os (k + 1))) := by
              have ha : addE ps o.per ≠ 0 := by rw [he.out]; exact q0
              refine Lib.hid (QH.done HH3.out ?_ ?_ ?_ ?_ ?_) <;> rw [e0.out]
              · simp [addP, ha]
              · simp [addP, ha]
              · simp only [addP, if_neg ha]
              · simp only [addL, if_neg ha]
            clear HH3 HH HI HOP HD q0 x0 x1 x2 x3 x4 d1 d2 d3 d4 d5 d6
            go_wp2_with fail
            go_quiet (fail)
            go_wp2_with fail
            go_roundw
            case rel => exact ⟨k + 1, by omega, by go_num, Lib.hid (HN.out.below (bD (Below.refl _ _) _))⟩
            case measure => simp [intOf]; omega
        · have k0' : (o.knd == 0) = false := by simpa using k0
          by_cases k1 : o.knd = 1
          · have k1' : (o.knd != 1) = false := by simp [k1]
            have e0 : Hid (pst os (k + 1) = (ps, useL ps ls o.per.pid o.num)) := by unfold Hid; rw [hS.out, pstep, if_neg k0, if_pos k1]
            clear k0 k1 HQ
            obtain ⟨x0, x1, x2, x3, x4⟩ := HH.out.cells
            obtain ⟨eu, he⟩ : ∃ eu, Hid (useE ps ls o.per.pid o.num = eu) := ⟨_, rfl⟩
            have HHd := Lib.hid (HH.out.below (bd (Below.refl _ _)))
            have S0 := And.intro (u0 (.cells #[.string o.per.pid, .string o.per.psp, .int .i64 o.per.pfr, .int .i64 o.per.pun, .int .i64 o.per.pqu] 50)) (And.intro (u6 (.cells #[.string o.per.pid, .string o.per.psp, .int .i64 o.per.pfr, .int .i64 o.per.pun, .int .i64 o.per.pqu] 50)) x0)
            have SC := Lib.hid (fun (W : World) (hW : QH w1 W b (.slice A1 ps.length c1) (.slice A2 ps.length c2) (ps, useL ps ls o.per.pid o.num) ps.length ps.length (pcells ps) (icells ls) wr.heap.size (.cells #[.string o.per.pid, .string o.per.psp, .int .i64 o.per.pfr, .int .i64 o.per.pun, .int .i64 o.per.pqu] 50)) => And.intro (HOP.out W hW.wb).1 (And.intro (HOP.out W hW.wb).2.2.2.2.2.2 hW.cells.1))
            go_wp2_with fail
            clear d0 d1 d2 d3 d4 d5 d6 x1 x2 x3 x4
            go_region_held3 (fun w' => w'.cell? ⟨g, off + k * 7, none⟩ = some (.int .i64 o.knd) ∧ w'.cell? ⟨g, off + k * 7 + 6, none⟩ = some (.int .i64 o.num) ∧ w'.cell? ⟨wr.heap.size, 0, none⟩ = some (.string o.per.pid)) (first | exact SC.out _ HH3.out | exact S0)
              (first
                | (go_at_call 23; refine (HHd.out.use _ _).mono ?_; rintro e w3 ⟨rfl, hA⟩; rw [show useE (ps, ls).1 (ps, ls).2 o.per.pid o.num = eu from he.out]; have HH3 := Lib.hid hA; clear hA))
            clear S0 SC HHd HH u0 u6 x0
            by_cases q0 : eu = 0
            · subst q0
              obtain ⟨m, p, l, hp, hf, hid, hl, hv1, hv2, hvl, hl2, hu⟩ := use_zero HI.out he.out
              have hmn : m < ps.length := (List.getElem?_eq_some_iff.1 hp).1
              have HU := Lib.hid hu
              have HP := Lib.hid hp
              have HL := Lib.hid hl
              have HID := Lib.hid hid
              clear hu hp hl hf hid
              have hu3 : QH w1 w3 b (.slice A1 ps.length c1) (.slice A2 ps.length c2) (ps, ls.set m (l - o.num)) ps.length ps.length (pcells ps) (icells (if m < 0 then ls.set m (l - o.num) else ls)) wr.heap.size (.cells #[.string o.per.pid, .string o.per.psp, .int .i64 o.per.pfr, .int .i64 o.per.pun, .int .i64 o.per.pqu] 50) := by
                have := HH3.out
                rw [show useL (ps, ls).1 (ps, ls).2 o.per.pid o.num = ls.set m (l - o.num) from HU.out] at this
                exact this
              obtain ⟨ga, rfl⟩ := row_shape HH3.out.2.1 (by omega)
              obtain ⟨gl, rfl⟩ := row_shape HH3.out.2.2.1 (by omega)
              have HU3 := Lib.hid hu3
              generalize wr.heap.size = B at HU3 ⊢
              clear hu3 HH3
              go_wp2_with fail
              go_loopw [8] (fun i W => ∃ j : Nat, j ≤ ps.length ∧ i = .int .i64 j ∧ Hid (QH w1 W b (.slice (some ⟨ga, 0, none⟩) ps.length c1) (.slice (some ⟨gl, 0, none⟩) ps.length c2) (ps, ls.set m (l - o.num)) ps.length ps.length (pcells ps) (icells (if m < j then ls.set m (l - o.num) else ls)) B (.cells #[.string o.per.pid, .string o.per.psp, .int .i64 o.per.pfr, .int .i64 o.per.pun, .int .i64 o.per.pqu] 50))) (fun i _ => ps.length - (intOf i).toNat)
              case atStart => exact ⟨0, Nat.zero_le _, rfl, HU3⟩
              case round =>
                obtain ⟨j, hj, rfl, HJ⟩ := hrel
                by_cases hjlt : j < ps.length
                · obtain ⟨q, hq⟩ : ∃ q, ps[j]? = some q := ⟨_, List.getElem?_eq_getElem hjlt⟩
                  have a0 : wr.cell? ⟨ga, j * 5, none⟩ = some (.string q.pid) := by
                    rw [HJ.out.2.1.cellAt (j * 5) (by omega)]
                    exact pcells_at hq (j := 0) (by omega)
                  obtain ⟨x0, _⟩ := HJ.out.cells
                  by_cases hqm : q.pid = o.per.pid
                  · have hjm : j = m := HD.out j m q p hq HP.out (hqm.trans HID.out.symm)
                    have t1 : (q.pid.toList == o.per.pid.toList) = true := by rw [str_eq]; simpa using hqm
                    subst hjm
                    have z0 : wr.cell? ⟨gl, j, none⟩ = some (.int .i64 l) := by
                      rw [HJ.out.2.2.1.cellAt j (by omega), if_neg (Nat.lt_irrefl j)]
                      exact icells_at HL.out
                    have z1 : wr.frozen? ⟨gl, j, none⟩ = false := HJ.out.2.2.1.frozenAt j
                    obtain ⟨d0, d1, d2, d3, d4, d5, d6⟩ := HOP.out wr HJ.out.wb
                    have hwr : IntKind.i64.wrap (l - o.num) = l - o.num := by rw [IntKind.wrap_i64]; omega
                    clear d0 d1 d2 d3 d4 d5 hqm hq
                    go_wp2_with fail
                    go_quiet (fail)
                    go_wp2_with fail
                    go_region
                    have HNj : Hid (QH w1 (((wr.drewN nq).drew).setCell ⟨gl, j, none⟩ (.int .i64 (l - o.num))) b (.slice (some ⟨ga, 0, none⟩) ps.length c1) (.slice (some ⟨gl, 0, none⟩) ps.length c2) (ps, ls.set j (l - o.num)) ps.length ps.length (pcells ps) (icells (if j < j + 1 then ls.set j (l - o.num) else ls)) B (.cells #[.string o.per.pid, .string o.per.psp, .int .i64 o.per.pfr, .int .i64 o.per.pun, .int .i64 o.per.pqu] 50)) := by
                      have h1 := (HJ.out.below (bd (bD (Below.refl _ wr) nq))).put j (.int .i64 (l - o.num))
                      rw [if_neg (Nat.lt_irrefl j), ← icells_set] at h1
                      rw [if_pos (Nat.lt_succ_self j)]
                      exact Lib.hid h1
                    go_wp2_with fail
                    go_roundw
                    case rel => exact ⟨j + 1, by omega, by go_num, HNj⟩
                    case measure => simp [intOf]; omega
                  · have t1 : (q.pid.toList == o.per.pid.toList) = false := by rw [str_eq]; simpa using hqm
                    have hjm : ¬ j = m := fun e => hqm (by subst e; have := HP.out; rw [hq] at this; simp at this; rw [this]; exact HID.out)
                    clear hqm hq
                    go_wp2_with fail
                    go_quiet (fail)
                    go_wp2_with fail
                    have HNj : Hid (QH w1 (wr.drewN nq) b (.slice (some ⟨ga, 0, none⟩) ps.length c1) (.slice (some ⟨gl, 0, none⟩) ps.length c2) (ps, ls.set m (l - o.num)) ps.length ps.length (pcells ps) (icells (if m < j + 1 then ls.set m (l - o.num) else ls)) B (.cells #[.string o.per.pid, .string o.per.psp, .int .i64 o.per.pfr, .int .i64 o.per.pun, .int .i64 o.per.pqu] 50)) := by
                      have h1 := HJ.out.below (bD (Below.refl _ wr) nq)
                      have e1 : (m < j + 1) ↔ (m < j) := by omega
                      simp only [e1]
                      exact Lib.hid h1
                    go_roundw
                    case rel => exact ⟨j + 1, by omega, by go_num, HNj⟩
                    case measure => simp [intOf]; omega
                · obtain rfl : j = ps.length := by omega
                  have HN : Hid (QI w1 wr b (.slice (some ⟨ga, 0, none⟩) ps.length c1) (.slice (some ⟨gl, 0, none⟩) ps.length c2) (pst os (k + 1))) := by
                    have h1 := HJ.out
                    rw [if_pos hmn] at h1
                    refine Lib.hid (QH.done h1 ?_ ?_ ?_ ?_ ?_) <;> rw [e0.out]
                    · rw [HU.out]
                    · rw [HU.out]
                  clear HJ HI HOP HD HU3
                  go_wp2_with fail
                  go_roundw
                  case rel => exact ⟨k + 1, by omega, by go_num, HN⟩
                  case measure => simp [intOf]; omega
            · have q0' : (eu != 0) = true := by simpa using q0
              have HN : Hid (QI w1 w3 b (.slice A1 ps.length c1) (.slice A2 ps.length c2) (pst os (k + 1))) := by
                have ha : useE ps ls o.per.pid o.num ≠ 0 := by rw [he.out]; exact q0
                have hu : useL ps ls o.per.pid o.num = ls := by simp [useL, ha]
                refine Lib.hid (QH.done HH3.out ?_ ?_ ?_ ?_ ?_) <;> rw [e0.out]
                rw [hu]
              clear HH3 HI HOP HD
              go_wp2_with fail
              go_roundw
              case rel => exact ⟨k + 1, by omega, by go_num, HN⟩
              case measure => simp [intOf]; omega
          · have k1' : (o.knd != 1) = true := by simpa using k1
            have HN : Hid (QI w1 (wr.alloc (.cells #[.string o.per.pid, .string o.per.psp, .int .i64 o.per.pfr, .int .i64 o.per.pun, .int .i64 o.per.pqu] 50)) b (.slice A1 ps.length c1) (.slice A2 ps.length c2) (pst os (k + 1))) := by
              refine Lib.hid (QH.done HH.out ?_ ?_ ?_ ?_ ?_) <;> rw [hS.out, pstep, if_neg k0, if_neg k1]
            clear k0 k1 HQ HH HI HOP HD
            go_wp2_with fail
            go_quiet (fail)
            go_wp2_with fail
            go_roundw
            case rel => exact ⟨k + 1, by omega, by go_num, Lib.hid (HN.out.below (bD (Below.refl _ _) _))⟩
            case measure => simp [intOf]; omega
      · obtain rfl : k = os.length := by omega
        have HD := Lib.hid (pst_dist os os.length)
        generalize pst os os.length = s at HQ HD
        obtain ⟨ps, ls⟩ := s
        obtain ⟨A1, c1, rfl⟩ := own_shape HQ.out.2.1
        obtain ⟨A2, c2, rfl⟩ := own_shape HQ.out.2.2
        have HI := Lib.hid HQ.out.1.inv
        have hn16 : ps.length ≤ 16 := HI.out.2.1
        go_wp2_with fail
        go_loopw [9] (fun i W => ∃ j : Nat, j ≤ ps.length ∧ i = .int .i64 j ∧ Hid (QI w1 W b (.slice A1 ps.length c1) (.slice A2 ps.length c2) (ps, ls))) (fun i _ => ps.length - (intOf i).toNat)
        case atStart => exact ⟨0, Nat.zero_le _, rfl, HQ⟩
        case round =>
          obtain ⟨j, hj, rfl, HJ⟩ := hrel
          by_cases hjlt : j < ps.length
          · obtain ⟨q, hq⟩ : ∃ q, ps[j]? = some q := ⟨_, List.getElem?_eq_getElem hjlt⟩
            obtain ⟨l, hl, l0, l1, l2⟩ := HI.out.left hq
            obtain ⟨ga, rfl⟩ := row_shape HJ.out.2.1 (by omega)
            obtain ⟨gl, rfl⟩ := row_shape HJ.out.2.2 (by omega)
            have a0 : wr.cell? ⟨ga, j * 5, none⟩ = some (.string q.pid) := by
              rw [HJ.out.2.1.cellAt (j * 5) (by omega)]
              exact pcells_at hq (j := 0) (by omega)
            have e1 : leftN ps ls q.pid = l := leftN_at (HD.out.find hq) hl
            have e2 : leftB ps q.pid = true := has_plain HD.out hq
            have HL := Lib.hid hl
            have HE1 := Lib.hid e1
            have HE2 := Lib.hid e2
            have hl0 : decide (l < 0) = false := by simp; omega
            clear hl hq e1 e2
            go_wp2_with fail
            refine (HJ.out.1.left q.pid).mono ?_
            rintro e w3 ⟨rfl, b3⟩
            have HJ3 := Lib.hid (HJ.out.below b3)
            rw [show leftN (ps, ls).1 (ps, ls).2 q.pid = l from HE1.out, show leftB (ps, ls).1 q.pid = true from HE2.out]
            have z0 : w3.cell? ⟨gl, j, none⟩ = some (.int .i64 l) := by
              rw [HJ3.out.2.2.cellAt j (by show j < ps.length * 1; omega)]
              exact icells_at HL.out
            go_wp2_with fail
            go_roundw
            case rel => exact ⟨j + 1, by omega, by go_num, HJ3⟩
            case measure => simp [intOf]; omega
          · obtain rfl : j = ps.length := by omega
            go_wp2_with fail
            refine (HJ.out.1.list).mono ?_
            rintro e w3 ⟨v3, rfl, ho3, b3⟩
            have HO3 := Lib.hid ho3
            clear ho3
            have HJ3 := Lib.hid (HJ.out.below b3)
            go_wp2_with fail
            refine (Same_any v3 _ ps _ (SliceIs.of_own HO3.out) (SliceIs.of_own HJ3.out.2.1)).mono ?_
            rintro e w4 ⟨rfl, b4⟩
            go_wp2_with fail
            refine (awake_any _).mono ?_
            rintro e w5 ⟨rfl, b5⟩
            go_wp2_with fail
            go_ret
            exact ⟨rfl, bT HB1.out (bT (bT HJ3.out.1.wb b4) b5)⟩
end Go.Proofs.YtgonghmihghhnaaDoor.Pe
