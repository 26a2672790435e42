/- the law CustodyTraces, walked. -/
import Derived.Test.YtmgegffcgmcclaaDoorRh12
import Derived.Test.YtmgegffcgmcclaaDoorRh14
namespace Go.Proofs.YtmgegffcgmcclaaDoor.Cu
open Go.RowKit Go.Proofs.YtmgegffcgmcclaaDoor.Id Go.Maps

set_option maxHeartbeats 8000000 in
set_option maxRecDepth 100000 in
set_option linter.all false in
theorem CustodyTraces_any (v : Value) (os : List COp) (s : ByteArray) (w : World) (htab : Tab w) (hs : SliceIs w 5 v os.length (opcells os)) (hsz : s.size ≤ 140737488355328) :
    Calls Tryd.prog 8 #[v, .string s] w fun e w' => e = .returned (.bool true) ∧ Below w.heap.size w w' := by
  have HT := Lib.hid htab
  have HS := Lib.hid hs
  have hl := hs.2.1
  obtain ⟨A, c, rfl⟩ := slice_shape hs
  clear hs htab
  have hll : ∀ W, (Builtin.len_ #[22] 3 #[.slice A os.length c]).run Tryd.prog W = .ok (.int .i64 os.length) W := fun W => by simp [Builtin.len_, run_underlying undOps]; rfl
  go_enter Tryd.func8, Tryd.ntmps8
  go_wp2_with fail
  refine (small_any _ os w HS.out).mono ?_
  rintro e w1 ⟨bb, rfl, b1, hb⟩
  have HB := Lib.hid hb
  clear hb
  cases bb with
  | false =>
    go_wp2_with fail
    refine (awake_any _ (HT.out.on b1)).mono ?_
    rintro e w2 ⟨rfl, b2⟩
    go_wp2_with fail
    go_ret
    exact ⟨rfl, bT b1 b2⟩
  | true =>
    by_cases h100 : s.size ≤ 100
    case neg =>
      have h100' : decide ((100 : Int) < s.size) = true := by simp; omega
      go_wp2_with fail
      refine (awake_any _ (HT.out.on b1)).mono ?_
      rintro e w2 ⟨rfl, b2⟩
      go_wp2_with fail
      go_ret
      exact ⟨rfl, bT b1 b2⟩
    have h100' : decide ((100 : Int) < s.size) = false := by simp; omega
    have HOK := Lib.hid (HB.out (by simp)).2
    clear HB
    have B1 := Lib.hid b1
    go_wp2_with fail
    refine (register_any _ os _ (HT.out.on b1) (HS.out.below b1) HOK.out).mono ?_
    rintro e w2 ⟨b, rfl, hL⟩
    have HL := Lib.hid hL
    have BW2 := Lib.hid (bT b1 hL.wb)
    clear hL b1
    have HGI := Lib.hid (fun k => (regL_good (os.take k)).cinv)
    have HSN : Hid (SliceIs w2 6 (.slice none 0 0) (regL (os.take 0)).length (kcells (regL (os.take 0)))) := Lib.hid ⟨rfl, by simp [regL], .inl ⟨rfl, none, 0, rfl⟩⟩
    go_wp2_with fail
    go_loopw [6, 7] (fun u i wr => ∃ k : Nat, k ≤ os.length ∧ i = .int .i64 k ∧ Hid (SliceIs wr 6 u (regL (os.take k)).length (kcells (regL (os.take k)))) ∧ Hid (Below w2.heap.size w2 wr)) (fun _ i _ => os.length - (intOf i).toNat)
    case atStart => exact ⟨0, Nat.zero_le _, rfl, HSN, Below.refl _ _⟩
    case round =>
      obtain ⟨k, hk, rfl, HK, HBr⟩ := hrel
      obtain ⟨A4, c4, rfl⟩ := slice_shape HK.out
      have BW := Lib.hid (bT BW2.out HBr.out)
      by_cases hlt : k < os.length
      · obtain ⟨o, ho⟩ : ∃ o, os[k]? = some o := ⟨_, List.getElem?_eq_getElem hlt⟩
        obtain ⟨g, off, rfl, hc, hg, hcx⟩ := slice_addr HS.out (by omega)
        have HC := Lib.hid (fun (W : World) (hW : Below w.heap.size w W) =>
          have d := fun (j : Nat) (u : Value) (h : (opcells os)[j]? = some u) => (hW.cell (p := ⟨g, off + j, none⟩) hg).trans (hcx j u h)
          And.intro (show W.cell? ⟨g, off + k * 5, none⟩ = some (.string o.it) from d (k * 5) _ (opcells_at ho (j := 0) (by omega))) (And.intro (show W.cell? ⟨g, off + k * 5 + 1, none⟩ = some (.string o.pa) from d (k * 5 + 1) _ (opcells_at ho (j := 1) (by omega))) (And.intro (show W.cell? ⟨g, off + k * 5 + 2, none⟩ = some (.string o.sp) from d (k * 5 + 2) _ (opcells_at ho (j := 2) (by omega))) (And.intro (show W.cell? ⟨g, off + k * 5 + 3, none⟩ = some (.int .i64 o.t) from d (k * 5 + 3) _ (opcells_at ho (j := 3) (by omega))) (show W.cell? ⟨g, off + k * 5 + 4, none⟩ = some (.int .i64 o.vo) from d (k * 5 + 4) _ (opcells_at ho (j := 4) (by omega)))))))
        obtain ⟨s1, s2, s3⟩ := HOK.out k o ho
        have HN := Lib.hid (regL_succ ho)
        have HRD := Lib.hid (rAdd_any _ (regL (os.take k)) o.lk rfl wr.drew (HK.out.below (bd (Below.refl _ _))) (HGI.out k) (show o.it.size ≤ 1000 by omega) (show o.pa.size ≤ 1000 by omega) (show o.sp.size ≤ 1000 by omega))
        clear ho hcx s1 s2 s3
        generalize regL (os.take k) = ls at HK HN HRD ⊢
        go_wp2_with fail
        go_region_held3 (fun w' => w'.cell? ⟨g, off + k * 5, none⟩ = some (.string o.it) ∧ w'.cell? ⟨g, off + k * 5 + 1, none⟩ = some (.string o.pa) ∧ w'.cell? ⟨g, off + k * 5 + 2, none⟩ = some (.string o.sp) ∧ w'.cell? ⟨g, off + k * 5 + 3, none⟩ = some (.int .i64 o.t) ∧ w'.cell? ⟨g, off + k * 5 + 4, none⟩ = some (.int .i64 o.vo)) (first | exact HC.out _ (bT BW.out B4.out) | exact HC.out _ (bd BW.out))
          (first
            | (go_at_call 15; refine HRD.out.mono ?_; rintro e w4 ⟨v4, rfl, hs4, _, b4⟩; have HS4 := Lib.hid hs4; have B4 := Lib.hid (bT (bd (Below.refl wr.heap.size wr)) b4); clear hs4 b4))
        obtain ⟨A5, c5, rfl⟩ := slice_shape HS4.out
        have HS5 : Hid (SliceIs w4 6 (.slice A5 (addK ls o.lk).length c5) (regL (os.take (k + 1))).length (kcells (regL (os.take (k + 1))))) := by unfold Hid; rw [HN.out]; exact HS4.out
        have B5 := Lib.hid (bT HBr.out B4.out)
        clear HS4
        generalize (addK ls o.lk).length = n5 at HS5 ⊢
        generalize chkH ls o.lk = hh
        generalize canE ls o.lk = cc
        go_wp2_with fail
        go_roundw
        case rel => exact ⟨k + 1, by omega, by go_num, HS5, B5⟩
        case measure => simp [intOf]; omega
      · obtain rfl : k = os.length := by omega
        rw [List.take_length] at HK ⊢
        have HI := Lib.hid HL.out.inv
        generalize regL os = L at HK HL HI ⊢
        have hlen := HI.out.len
        have HLr := Lib.hid (HL.out.below HBr.out)
        go_wp2_with fail
        refine (HLr.out.trace s hsz).mono ?_
        rintro e w3 ⟨v3, rfl, ho3, b3⟩
        have HS3 := Lib.hid (SliceIs.of_own ho3)
        have B3 := Lib.hid b3
        obtain ⟨A3, c3, rfl⟩ := own_shape ho3
        obtain ⟨T, hT⟩ : ∃ T, Hid (traceL L s = T) := ⟨_, rfl⟩
        have HR4 := Lib.hid (rTrace_any _ L s w3 (HK.out.below b3) HI.out)
        rw [hT.out] at HS3 HR4 ⊢
        obtain ⟨te, hte⟩ : ∃ te, Hid (trE L s = te) := ⟨_, rfl⟩
        rw [hte.out] at HR4 ⊢
        clear ho3 b3
        go_wp2_with fail
        refine HR4.out.mono ?_
        rintro e w4 ⟨v4, rfl, ho4, b4⟩
        have HS4 := Lib.hid (SliceIs.of_own ho4)
        have HS34 := Lib.hid (HS3.out.below b4)
        have B4 := Lib.hid (bT B3.out b4)
        obtain ⟨A5, c5, rfl⟩ := own_shape ho4
        clear ho4 b4
        have HR5 := Lib.hid ((HLr.out.below B4.out).root s hsz)
        have HR6 := Lib.hid (fun (W : World) (hW : Below wr.heap.size wr W) => rRoot_any _ L s W (HK.out.below hW) HI.out)
        generalize rootS L s = rs at HR5 HR6
        generalize decide (0 ≤ atI L s) = rb at HR5 HR6
        go_wp2_with fail
        refine HR5.out.mono ?_
        rintro e w5 ⟨rfl, b5⟩
        have B5 := Lib.hid (bT B4.out b5)
        have BX5 := Lib.hid b5
        clear b5
        go_wp2_with fail
        refine (HR6.out _ B5.out).mono ?_
        rintro e w6 ⟨rfl, b6⟩
        have B6 := Lib.hid (bT B5.out b6)
        have BX6 := Lib.hid (bT BX5.out b6)
        clear b6
        go_wp2_with fail
        refine (SameLinks_any _ _ T _ (HS34.out.below BX6.out) (HS4.out.below BX6.out)).mono ?_
        rintro e w7 ⟨rfl, b7⟩
        have B7 := Lib.hid (bT B6.out b7)
        clear b7
        go_wp2_with fail
        refine ((HLr.out.below B7.out).children s).mono ?_
        rintro e w8 ⟨v8, rfl, ho8, b8⟩
        have B8 := Lib.hid (bT B7.out b8)
        have HS8 := Lib.hid (SliceIs.of_own ho8)
        have HRC := Lib.hid (rChildren_any _ L s w8 (HK.out.below B8.out) hlen)
        obtain ⟨A8, c8, rfl⟩ := own_shape ho8
        obtain ⟨K, hK⟩ : ∃ K, Hid (kidsR L s = K) := ⟨_, rfl⟩
        rw [hK.out] at HS8 HRC ⊢
        clear ho8 b8
        go_wp2_with fail
        refine HRC.out.mono ?_
        rintro e w9 ⟨v9, rfl, ho9, b9⟩
        have B9 := Lib.hid (bT B8.out b9)
        have HS9 := Lib.hid (SliceIs.of_own ho9)
        have HS89 := Lib.hid (HS8.out.below b9)
        obtain ⟨A9, c9, rfl⟩ := own_shape ho9
        clear ho9 b9
        go_wp2_with fail
        refine (Same_any _ _ K _ HS89.out HS9.out).mono ?_
        rintro e wa ⟨rfl, ba⟩
        have BA := Lib.hid (bT BW.out (bT B9.out ba))
        clear ba
        go_wp2_with fail
        refine (awake_any _ (HT.out.on BA.out)).mono ?_
        rintro e wb ⟨rfl, bb⟩
        go_wp2_with fail
        go_ret
        exact ⟨rfl, bT BA.out bb⟩
end Go.Proofs.YtmgegffcgmcclaaDoor.Cu
