/- the law CustodyPermit, walked. -/
import Derived.Test.YtmgegffcgmcclaaDoorCp0
import Derived.Test.YtmgegffcgmcclaaDoorMem3
import Derived.Test.YtmgegffcgmcclaaDoorId7p
namespace Go.Proofs.YtmgegffcgmcclaaDoor.Cu
open Go.RowKit Go.Proofs.YtmgegffcgmcclaaDoor.Id Go.Maps

theorem slice_cells2 {W W' : World} {n c g off : Nat} {ls : List Lk} (h : SliceIs W 6 (.slice (some ⟨g, off, none⟩) n c) n (kcells ls)) {k : Nat} {x : Lk} (hx : ls[k]? = some x) (hn : ls.length = n) (hb : Below W.heap.size W W') : W'.cell? ⟨g, off + k * 6, none⟩ = some (.string x.it) ∧ W'.cell? ⟨g, off + k * 6 + 1, none⟩ = some (.string x.pa) ∧ W'.cell? ⟨g, off + k * 6 + 2, none⟩ = some (.int .i64 x.t) ∧ W'.cell? ⟨g, off + k * 6 + 3, none⟩ = some (.int .i64 x.vo) ∧ W'.cell? ⟨g, off + k * 6 + 4, none⟩ = some (.string x.sp) ∧ W'.cell? ⟨g, off + k * 6 + 5, none⟩ = some (.int .u64 x.ha) := by
  obtain ⟨g', off', e, _, _, hg, d0, d1, d2, d3, d4, d5⟩ := slice_cells h hx hn
  cases e
  exact ⟨(hb.cell (p := ⟨g, off + k * 6, none⟩) hg).trans d0, (hb.cell (p := ⟨g, off + k * 6 + 1, none⟩) hg).trans d1, (hb.cell (p := ⟨g, off + k * 6 + 2, none⟩) hg).trans d2, (hb.cell (p := ⟨g, off + k * 6 + 3, none⟩) hg).trans d3, (hb.cell (p := ⟨g, off + k * 6 + 4, none⟩) hg).trans d4, (hb.cell (p := ⟨g, off + k * 6 + 5, none⟩) hg).trans d5⟩
set_option maxHeartbeats 8000000 in
set_option maxRecDepth 100000 in
set_option linter.all false in
theorem CustodyPermit_any (v : Value) (os : List COp) (w : World) (htab : Tab w) (hs : SliceIs w 5 v os.length (opcells os)) :
    Calls Tryd.prog 10 #[v] w fun e w' => e = .returned (.bool true) ∧ Below w.heap.size w w' := by
  have HT := Lib.hid htab
  have HS := Lib.hid hs
  obtain ⟨A, c, rfl⟩ := slice_shape hs
  clear hs htab
  go_enter Tryd.func10, Tryd.ntmps10
  go_wp2_with fail
  refine (small_any _ os w HS.out).mono ?_
  rintro e w1 ⟨bb, rfl, b1, hb⟩
  have HB := Lib.hid hb
  clear hb
  cases bb with
  | false =>
    go_wp2_with fail
    refine (awake_any _ (HT.out.on b1)).mono ?_
    rintro e w2 ⟨rfl, b2⟩
    go_wp2_with fail
    go_ret
    exact ⟨rfl, bT b1 b2⟩
  | true =>
    have HOK := Lib.hid (HB.out (by simp)).2
    clear HB
    go_wp2_with fail
    refine (register_any _ os _ (HT.out.on b1) (HS.out.below b1) HOK.out).mono ?_
    rintro e w2 ⟨b, rfl, hL⟩
    have HL := Lib.hid hL
    have HG := Lib.hid (regL_good os)
    have B2 := Lib.hid (bT b1 hL.wb)
    clear hL b1
    generalize regL os = ls at HL HG
    have HI := Lib.hid HG.out.cinv
    have HP := Lib.hid HG.out.pinv
    go_wp2_with fail
    refine (HL.out.links).mono ?_
    rintro e w3 ⟨v3, rfl, hf, b3⟩
    have HF := Lib.hid hf.slice
    obtain ⟨A3, c3, rfl⟩ := slice_shape hf.slice
    have hlen := HI.out.len
    have B3 := Lib.hid (bT B2.out b3)
    have HL3 := Lib.hid (HL.out.below b3)
    clear hf b3
    have hll : ∀ W, (Builtin.len_ #[27] 3 #[.slice A3 ls.length c3]).run Tryd.prog W = .ok (.int .i64 ls.length) W := fun W => by simp [Builtin.len_, run_underlying und_links]; rfl
    go_wp2_with fail
    go_loopw [5] (fun i wr => ∃ k : Nat, k ≤ ls.length ∧ i = .int .i64 k ∧ Hid (Below w3.heap.size w3 wr)) (fun i _ => ls.length - (intOf i).toNat)
    case atStart => exact ⟨0, Nat.zero_le _, rfl, Lib.hid (Below.refl _ _)⟩
    case round =>
      obtain ⟨i, hi, rfl, HBr⟩ := hrel
      by_cases hlt : i < ls.length
      · obtain ⟨x, hx⟩ : ∃ x, ls[i]? = some x := ⟨_, List.getElem?_eq_getElem hlt⟩
        obtain ⟨g, off, rfl, hc3, _, hg, _⟩ := slice_cells HF.out hx rfl
        have SC := Lib.hid (fun (W : World) (hW : Below w3.heap.size w3 W) => slice_cells2 HF.out hx rfl hW)
        have HX := Lib.hid hx
        have HLr := Lib.hid (HL3.out.below HBr.out)
        have HTR := Lib.hid (trace_ok' HI.out HP.out hx)
        have hsz := (HI.out.each i x hx).2.2.2.2.1
        have HRQ := Lib.hid (HLr.out.trace x.it (by omega))
        have HRR := Lib.hid (fun (W : World) (hW : Below wr.heap.size wr W) => (HLr.out.below hW).root x.it (by omega))
        have hd := HI.out.dist i x hx
        rw [show trE ls x.it = 0 from if_neg (by omega)] at HRQ
        rw [show decide (0 ≤ atI ls x.it) = true from decide_eq_true (by omega)] at HRR
        have hrs : ∃ y, (traceL ls x.it).getLast? = some y ∧ rootS ls x.it = y.it := by
          obtain ⟨_, ⟨y, hy, _⟩, _⟩ := HTR.out
          exact ⟨y, hy, by rw [rootS, hy]⟩
        obtain ⟨y, hy1, hy2⟩ := hrs
        rw [hy2] at HRR
        have HYL := Lib.hid hy1
        have HYS : Hid (y.it.size = 8) := by
          obtain ⟨j, hj⟩ := traceL_mem (ls := ls) (s := x.it) y (List.mem_of_getLast? hy1)
          exact Lib.hid (HI.out.each j y hj).2.2.2.2.1
        have HXS := Lib.hid hsz
        clear hy1 hy2 hd hsz hx
        generalize traceL ls x.it = T at HRQ HTR HYL
        obtain ⟨x0, x1, x2, x3, x4, x5⟩ := SC.out wr HBr.out
        go_wp2_with fail
        refine HRQ.out.mono ?_
        rintro e w4 ⟨v4, rfl, ho4, b4⟩
        have H4 := Lib.hid (SliceIs.of_own ho4)
        have B4 := Lib.hid (bT HBr.out b4)
        have BR4 := Lib.hid b4
        obtain ⟨A4, c4, rfl⟩ := own_shape ho4
        obtain ⟨m, hm⟩ : ∃ m, T.length = m + 1 := by
          obtain ⟨⟨r, hr⟩, _⟩ := HTR.out
          exact ⟨r.length, by rw [hr]; rfl⟩
        have hT0 : T[0]? = some x := by
          obtain ⟨⟨r, hr⟩, _⟩ := HTR.out
          rw [hr]; rfl
        have hTm : T[m]? = some y := by
          have := HYL.out
          rw [List.getLast?_eq_getElem?, hm] at this
          exact this
        rw [hm] at H4 ⊢
        have hm2 := H4.out.2.1
        obtain ⟨g4, off4, rfl, hc4, _, hg4, _⟩ := slice_cells H4.out hT0 hm
        clear ho4 b4 x0 x1 x2 x3 x4 x5
        obtain ⟨x0, x1, x2, x3, x4, x5⟩ := SC.out w4 B4.out
        go_wp2_with fail
        refine (HRR.out w4 BR4.out).mono ?_
        rintro e w5 ⟨rfl, b5⟩
        have B5 := Lib.hid (bT B4.out b5)
        have TC := Lib.hid (fun (W : World) (hW : Below w5.heap.size w5 W) (k : Nat) (u : Lk) (hu : T[k]? = some u) => slice_cells2 H4.out hu hm (bT b5 hW))
        have XC := Lib.hid (fun (W : World) (hW : Below w5.heap.size w5 W) => SC.out W (bT B5.out hW))
        clear b5 x0 x1 x2 x3 x4 x5
        obtain ⟨x0, x1, x2, x3, x4, x5⟩ := XC.out w5 (Below.refl _ _)
        obtain ⟨z0, z1, z2, z3, z4, z5⟩ := TC.out w5 (Below.refl _ _) 0 x hT0
        obtain ⟨y0, y1, y2, y3, y4, y5⟩ := TC.out w5 (Below.refl _ _) m y hTm
        rw [show off4 + 0 * 6 = off4 by omega] at z0 z1 z2 z3 z4 z5
        have hl4 : ∀ W, (Builtin.len_ #[27] 3 #[.slice (some ⟨g4, off4, none⟩) (m + 1) c4]).run Tryd.prog W = .ok (.int .i64 (m + 1)) W := fun W => by simp [Builtin.len_, run_underlying und_links]; rfl
        have HM := Lib.hid hm
        have HT0 := Lib.hid hT0
        clear hT0 hm
        go_wp2_with fail
        go_quiet (fail)
        have hn6 := bD (Below.refl w5.heap.size w5) nq
        have B6 := Lib.hid hn6
        clear x0 x1 x2 x3 x4 x5 z0 z1 z2 z3 z4 z5 y0 y1 y2 y3 y4 y5 hn6
        generalize w5.drewN nq = w6 at B6 ⊢
        obtain ⟨y0, y1, y2, y3, y4, y5⟩ := TC.out w6 B6.out m y hTm
        go_upto_region 13 with fail
        have L7 := Lib.hid (heap_alloc_new w6 (.cells #[.string y.it, .string y.pa, .int .i64 y.t, .int .i64 y.vo, .string y.sp, .int .u64 y.ha] 44))
        have B7 := Lib.hid (bA B6.out (.cells #[.string y.it, .string y.pa, .int .i64 y.t, .int .i64 y.vo, .string y.sp, .int .u64 y.ha] 44))
        clear y0 y1 y2 y3 y4 y5
        generalize w6.alloc (.cells #[.string y.it, .string y.pa, .int .i64 y.t, .int .i64 y.vo, .string y.sp, .int .u64 y.ha] 44) = w7 at L7 B7 ⊢
        obtain ⟨l0, l1, _, _, l4, _, _⟩ := cells6 L7.out
        have hl7 := (Array.getElem?_eq_some_iff.1 L7.out).1
        have hY : y.pa = emptyB ∧ isB y.it.data.toList 80 = true ∧ y.sp = x.sp := by
          obtain ⟨_, ⟨y', hy', h2, h3, h4⟩, _⟩ := HTR.out
          rw [HYL.out] at hy'
          obtain rfl := Option.some.inj hy'
          exact ⟨h2, h3, h4⟩
        obtain ⟨hy1, hy2, hy3⟩ := hY
        have hsz : y.it.size ≤ 140737488355328 := by
          have := HYS.out
          omega
        have HIS := Lib.hid (fun W => Is_any y.it 80 W hsz)
        rw [hy2] at HIS
        have hem : y.pa.toList.isEmpty = true := by rw [pa_empty, hy1]; simp
        rw [hy3] at l4
        obtain ⟨ι, hne, f, i0, hi0, hF, hCC⟩ := below_class w7
        have HH := Lib.hid hF
        have HC := Lib.hid hCC
        have e0 := fun n => ((HH.out n).cell (p := ⟨w6.heap.size, 0, none⟩) hl7).trans l0
        have e1 := fun n => ((HH.out n).cell (p := ⟨w6.heap.size, 1, none⟩) hl7).trans l1
        have e4 := fun n => ((HH.out n).cell (p := ⟨w6.heap.size, 4, none⟩) hl7).trans l4
        have x4 := fun n => (XC.out _ (bT B7.out (HH.out n))).2.2.2.2.1
        clear hF hCC l0 l1 l4 hy1 hy2 hy3 hsz hl7
        refine wp_region_class f i0 hi0 (by kernel_rfl) (by kernel_rfl) ?_
        repeat (first
          | go_big_quiet_step ((first
              | (go_at_call 31; exact class_call HC.out (HIS.out _)))))
        refine wpQuiet_nil ?_
        rintro _ ⟨nq, rfl⟩
        have B8 := Lib.hid (bT B7.out (HH.out nq))
        clear e0 e1 e4 x4 HIS
        generalize f nq = w8 at B8 ⊢
        clear HH HC hi0
        go_wp2_with fail
        go_loopw [11] (fun i wr => ∃ k : Nat, 1 ≤ k ∧ k ≤ m + 1 ∧ i = .int .i64 k ∧ Hid (Below w5.heap.size w5 wr)) (fun i _ => m + 1 - (intOf i).toNat)
        case atStart => exact ⟨1, by omega, by omega, rfl, B8⟩
        case round =>
          obtain ⟨k, hk1, hk2, rfl, HBk⟩ := hrel
          by_cases hlt2 : k < m + 1
          · obtain ⟨j, rfl⟩ : ∃ j, k = j + 1 := ⟨k - 1, by omega⟩
            have hmm := HM.out
            obtain ⟨p, hp⟩ : ∃ p, T[j]? = some p := ⟨_, List.getElem?_eq_getElem (by omega)⟩
            obtain ⟨q, hq⟩ : ∃ q, T[j + 1]? = some q := ⟨_, List.getElem?_eq_getElem (by omega)⟩
            obtain ⟨_, p1, p2, _⟩ := TC.out wr HBk.out j p hp
            obtain ⟨q0, _, q2, _⟩ := TC.out wr HBk.out (j + 1) q hq
            have hch := HTR.out.2.2 j p q hp hq
            have f1 : (p.pa.toList == q.it.toList) = true := by rw [str_eq]; simpa using hch.1
            have f2 : decide (p.t < q.t) = false := by have := hch.2; simp; omega
            clear hch hp hq hmm
            go_wp2_with fail
            go_quiet (fail)
            go_wp2_with fail
            go_roundw
            case rel => exact ⟨j + 1 + 1, by omega, by omega, by go_num, bD HBk.out _⟩
            case measure => simp [intOf]; omega
          · obtain rfl : k = m + 1 := by omega
            have B9 := Lib.hid (bT B5.out HBk.out)
            have HL9 := Lib.hid (HL3.out.below B9.out)
            have hkl : kidsR ls x.it = (kidL ls x.it).map Lk.it := by
              rw [kidsR, if_neg, kids_eq]
              intro e
              have := HXS.out
              rw [e] at this
              exact absurd this (by decide)
            have HCH := Lib.hid (HL9.out.children x.it)
            rw [hkl, List.length_map] at HCH
            have HKT := Lib.hid (fun (k : Nat) (y : Lk) (h : (kidL ls x.it)[k]? = some y) => kid_trace HI.out HP.out HX.out h)
            have HKI := Lib.hid (fun (k : Nat) (y : Lk) (h : (kidL ls x.it)[k]? = some y) => (kidL_at h).2)
            have hkn := kidL_len ls x.it
            have HSU : Hid (sumK (kidL ls x.it) (kidL ls x.it).length ≤ x.vo) := by unfold Hid; rw [sumK_all, ← volS_kidL]; exact HP.out.vol i x HX.out
            have HSR := Lib.hid (sumK_range (l := kidL ls x.it) (fun k y h => by
              obtain ⟨j, hj⟩ := HKI.out k y h
              exact ⟨(HI.out.each j y hj).1, (HI.out.each j y hj).2.1⟩))
            clear hkl
            obtain ⟨x0, x1, x2, x3, x4, x5⟩ := SC.out wr B9.out
            generalize kidL ls x.it = KL at HCH HKT HKI hkn HSU HSR
            go_wp2_with fail
            refine HCH.out.mono ?_
            rintro e w9 ⟨v9, rfl, ho9, b9⟩
            have H9 := Lib.hid ho9
            have BA := Lib.hid (bT B9.out b9)
            obtain ⟨A9, c9, rfl⟩ := own_shape ho9
            have hl9 : ∀ W, (Builtin.len_ #[58] 3 #[.slice A9 KL.length c9]).run Tryd.prog W = .ok (.int .i64 KL.length) W := fun W => by simp [Builtin.len_, run_underlying und_strings]; rfl
            clear ho9 b9 x0 x1 x2 x3 x4 x5
            go_wp2_with fail
            go_loopw [13, 14] (fun s i wr => ∃ k : Nat, k ≤ KL.length ∧ i = .int .i64 k ∧ s = .int .i64 (sumK KL k) ∧ Hid (Below w9.heap.size w9 wr)) (fun _ i _ => KL.length - (intOf i).toNat)
            case atStart => exact ⟨0, Nat.zero_le _, rfl, rfl, Below.refl _ _⟩
            case round =>
              obtain ⟨k, hk, rfl, rfl, HBl⟩ := hrel
              by_cases hlt3 : k < KL.length
              · obtain ⟨y, hy⟩ : ∃ y, KL[k]? = some y := ⟨_, List.getElem?_eq_getElem hlt3⟩
                obtain ⟨ht1, r, ht2⟩ := HKT.out k y hy
                obtain ⟨jy, hjy⟩ := HKI.out k y hy
                have hys := (HI.out.each jy y hjy).2.2.2.2.1
                have hyv := HI.out.each jy y hjy
                have hv0 := hyv.1
                have hv1 := hyv.2.1
                have HTR2 := Lib.hid ((HL3.out.below (bT BA.out HBl.out)).trace y.it (by omega))
                rw [show trE ls y.it = 0 from if_neg (by omega), ht2] at HTR2
                obtain ⟨g9, e9, hc9, hg9⟩ : ∃ g9, A9 = some ⟨g9, 0, none⟩ ∧ KL.length ≤ c9 ∧ g9 < w9.heap.size := by
                  obtain ⟨g9, cap, e, hc, hg⟩ := H9.out.form (by omega)
                  obtain ⟨_, _, _, hc', _⟩ := slice_addr (SliceIs.of_own H9.out) (by omega)
                  injection e with e1 e2 e3
                  exact ⟨g9, e1, hc', hg⟩
                subst e9
                have d9 : wr.cell? ⟨g9, k, none⟩ = some (.string y.it) := (HBl.out.cell (p := ⟨g9, k, none⟩) hg9).trans ((H9.out.cellAt k (by omega)).trans (by rw [scells, List.getElem?_map, List.getElem?_map, hy]; rfl))
                have HS1 := Lib.hid (sumK_succ hy)
                have hs1 := HSR.out k (by omega)
                have hwr : IntKind.i64.wrap (sumK KL k + y.vo) = sumK KL k + y.vo := by rw [IntKind.wrap_i64]; omega
                clear ht1 ht2 hys hyv hv0 hv1 hs1 hy hjy
                go_wp2_with fail
                refine HTR2.out.mono ?_
                rintro e w10 ⟨v10, rfl, ho10, b10⟩
                have H10 := Lib.hid (SliceIs.of_own ho10)
                have B10 := Lib.hid (bT BA.out (bT HBl.out b10))
                have BL10 := Lib.hid (bT HBl.out b10)
                obtain ⟨A10, c10, rfl⟩ := own_shape ho10
                have hl2 : (y :: x :: r).length = r.length + 2 := rfl
                have hm2' := H10.out.2.1
                rw [hl2] at H10 hm2' ⊢
                obtain ⟨g10, off10, rfl, hc10, _, hg10, t00, t01, t02, t03, t04, t05⟩ := slice_cells H10.out (k := 0) (x := y) rfl hl2
                obtain ⟨t10, t11, t12, t13, t14, t15⟩ := slice_cells2 H10.out (k := 1) (x := x) rfl hl2 (Below.refl _ _)
                rw [show off10 + 0 * 6 = off10 by omega] at t00 t01 t02 t03 t04 t05
                rw [show off10 + 1 * 6 = off10 + 6 by omega] at t10 t11 t12 t13 t14 t15
                have hl10 : ∀ W, (Builtin.len_ #[27] 3 #[.slice (some ⟨g10, off10, none⟩) (r.length + 2) c10]).run Tryd.prog W = .ok (.int .i64 (r.length + 2)) W := fun W => by simp [Builtin.len_, run_underlying und_links]; rfl
                obtain ⟨x0, x1, x2, x3, x4, x5⟩ := SC.out w10 B10.out
                have f4 : decide ((r.length : Int) + 2 < 2) = false := by simp; omega
                have f5 : (0 : Int) ≤ 1 := by omega
                have f6 : (1 : Int) < (r.length : Int) + 2 := by omega
                clear ho10 b10
                go_wp2_with fail
                go_quiet (fail)
                go_wp2_with fail
                go_roundw
                case rel => exact ⟨k + 1, by omega, by go_num, by rw [HS1.out], bD BL10.out _⟩
                case measure => simp [intOf]; omega
              · obtain rfl : k = KL.length := by omega
                have hle := HSU.out
                have f3 : decide (x.vo < sumK KL KL.length) = false := by simp; omega
                have B10 := Lib.hid (bT BA.out HBl.out)
                obtain ⟨x0, x1, x2, x3, x4, x5⟩ := SC.out wr B10.out
                clear hle
                go_wp2_with fail
                go_roundw
                case rel => exact ⟨i + 1, by omega, by go_num, B10⟩
                case measure => simp [intOf]; omega
      · obtain rfl : i = ls.length := by omega
        have B4 := Lib.hid (bT B3.out HBr.out)
        go_wp2_with fail
        refine (awake_any _ (HT.out.on B4.out)).mono ?_
        rintro e w6 ⟨rfl, b6⟩
        go_wp2_with fail
        go_ret
        exact ⟨rfl, bT B4.out b6⟩
end Go.Proofs.YtmgegffcgmcclaaDoor.Cu
