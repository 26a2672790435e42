/- the law CustodyErrors, walked. -/
import Derived.Test.YtmgegffcgmcclaaDoorCl4
namespace Go.Proofs.YtmgegffcgmcclaaDoor.Cu
open Go.RowKit Go.Proofs.YtmgegffcgmcclaaDoor.Id Go.Maps

set_option maxHeartbeats 8000000 in
set_option maxRecDepth 100000 in
set_option linter.all false in
theorem CustodyErrors_any (v : Value) (os : List COp) (o : COp) (w : World) (htab : Tab w) (hs : SliceIs w 5 v os.length (opcells os)) :
    Calls Tryd.prog 7 #[v, o.val] w fun e w' => e = .returned (.bool true) ∧ Below w.heap.size w w' := by
  have HT := Lib.hid htab
  have HS := Lib.hid hs
  have HW := Lib.hid (bA (Below.refl w.heap.size w) (.cells #[.string o.it, .string o.pa, .string o.sp, .int .i64 o.t, .int .i64 o.vo] 29))
  have hr := heap_alloc_new w (.cells #[.string o.it, .string o.pa, .string o.sp, .int .i64 o.t, .int .i64 o.vo] 29)
  have XC := Lib.hid (fun (W : World) (hW : Below (w.alloc (.cells #[.string o.it, .string o.pa, .string o.sp, .int .i64 o.t, .int .i64 o.vo] 29)).heap.size (w.alloc (.cells #[.string o.it, .string o.pa, .string o.sp, .int .i64 o.t, .int .i64 o.vo] 29)) W) =>
    have q := fun j => cell_of_row W w.heap.size j _ _ _ ((hW.block w.heap.size (by simp)).trans hr)
    And.intro (show W.cell? ⟨w.heap.size, 0, none⟩ = some (.string o.it) from q 0) (And.intro (show W.cell? ⟨w.heap.size, 1, none⟩ = some (.string o.pa) from q 1) (And.intro (show W.cell? ⟨w.heap.size, 2, none⟩ = some (.string o.sp) from q 2) (And.intro (show W.cell? ⟨w.heap.size, 3, none⟩ = some (.int .i64 o.t) from q 3) (show W.cell? ⟨w.heap.size, 4, none⟩ = some (.int .i64 o.vo) from q 4)))))
  obtain ⟨A, c, rfl⟩ := slice_shape hs
  unfold COp.val
  clear hs htab hr
  go_enter Tryd.func7, Tryd.ntmps7
  go_wp2_with fail
  refine (small_any _ os _ (HS.out.below HW.out)).mono ?_
  rintro e w1 ⟨bb, rfl, b1, hb⟩
  have HB := Lib.hid hb
  have BX1 := Lib.hid b1
  have B1 := Lib.hid (HW.out.trans (b1.mono HW.out.size))
  obtain ⟨x0, x1, x2, x3, x4⟩ := XC.out w1 b1
  clear hb b1
  cases bb with
  | false =>
    go_wp2_with fail
    refine (awake_any _ (HT.out.on B1.out)).mono ?_
    rintro e w2 ⟨rfl, b2⟩
    go_wp2_with fail
    go_ret
    exact ⟨rfl, bT B1.out b2⟩
  | true =>
    have HOK := Lib.hid (HB.out (by simp)).2
    clear HB
    by_cases c1 : o.it.size ≤ 100
    case neg =>
      have c1' : decide ((100 : Int) < o.it.size) = true := by simp; omega
      go_wp2_with fail
      refine (awake_any _ (HT.out.on B1.out)).mono ?_
      rintro e w2 ⟨rfl, b2⟩
      go_wp2_with fail
      go_ret
      exact ⟨rfl, bT B1.out b2⟩
    have c1' : decide ((100 : Int) < o.it.size) = false := by simp; omega
    by_cases c2 : o.pa.size ≤ 100
    case neg =>
      have c2' : decide ((100 : Int) < o.pa.size) = true := by simp; omega
      go_wp2_with fail
      refine (awake_any _ (HT.out.on B1.out)).mono ?_
      rintro e w2 ⟨rfl, b2⟩
      go_wp2_with fail
      go_ret
      exact ⟨rfl, bT B1.out b2⟩
    have c2' : decide ((100 : Int) < o.pa.size) = false := by simp; omega
    by_cases c3 : o.sp.size ≤ 100
    case neg =>
      have c3' : decide ((100 : Int) < o.sp.size) = true := by simp; omega
      go_wp2_with fail
      refine (awake_any _ (HT.out.on B1.out)).mono ?_
      rintro e w2 ⟨rfl, b2⟩
      go_wp2_with fail
      go_ret
      exact ⟨rfl, bT B1.out b2⟩
    have c3' : decide ((100 : Int) < o.sp.size) = false := by simp; omega
    have HQ : Hid (o.it.size ≤ 1000 ∧ o.pa.size ≤ 1000 ∧ o.sp.size ≤ 1000) := Lib.hid ⟨by omega, by omega, by omega⟩
    clear c1 c2 c3
    go_wp2_with fail
    refine (register_any _ os _ (HT.out.on B1.out) (HS.out.below B1.out) HOK.out).mono ?_
    rintro e w2 ⟨b, rfl, hL⟩
    have HL := Lib.hid hL
    clear hL
    generalize regL os = ls at HL
    go_wp2_with fail
    refine (HL.out.links).mono ?_
    rintro e w3 ⟨v3, rfl, hf, b3⟩
    have HF := Lib.hid hf
    have HAP := Lib.hid (HL.out.ap b3)
    obtain ⟨A3, k3, rfl⟩ := slice_shape hf.slice
    have hlen := HL.out.inv.len
    clear hf b3 x0 x1 x2 x3 x4
    obtain ⟨x0, x1, x2, x3, x4⟩ := XC.out w3 (bT BX1.out HAP.out.live.wb)
    have HAD := Lib.hid (HAP.out.add o.lk rfl (HT.out.on (bT B1.out HAP.out.live.wb)) HQ.out.1 HQ.out.2.1 HQ.out.2.2)
    go_wp2_with fail
    refine HAD.out.mono ?_
    rintro e w4 ⟨rfl, hL, hK⟩
    have HL4 := Lib.hid hL
    have HF4 := Lib.hid (HF.out.kept rfl hK)
    clear hL hK
    go_wp2_with fail
    refine (HL4.out.links).mono ?_
    rintro e w5 ⟨v5, rfl, hf, b5⟩
    have HF5 := Lib.hid (HF4.out.below b5)
    have HY5 := Lib.hid hf
    have HL5 := Lib.hid (HL4.out.below b5)
    have HAP5 := Lib.hid (HL4.out.ap b5)
    obtain ⟨A5, k5, rfl⟩ := slice_shape hf.slice
    clear hf b5
    by_cases hc : canE ls o.lk = 0
    case neg =>
      have hk : addK ls o.lk = ls := if_neg hc
      have hch : chkH ls o.lk = 0 := if_neg hc
      have hc' : (canE ls o.lk != 0) = true := by simpa using hc
      rw [hch]
      have HY := Lib.hid (show SliceIs w5 6 (.slice A5 (addK ls o.lk).length k5) ls.length (kcells ls) by have := HY5.out.slice; rw [hk] at this ⊢; exact this)
      clear hc hk hch
      generalize canE ls o.lk = cc at hc' ⊢
      go_wp2_with fail
      refine (SameLinks_any _ _ ls _ HF5.out.slice HY.out).mono ?_
      rintro e w6 ⟨rfl, b6⟩
      have B6 := Lib.hid (bT (bT B1.out HL5.out.wb) b6)
      clear b6
      go_wp2_with fail
      refine (awake_any _ (HT.out.on B6.out)).mono ?_
      rintro e w7 ⟨rfl, b7⟩
      go_wp2_with fail
      go_ret
      exact ⟨rfl, bT B6.out b7⟩
    have HCZ := Lib.hid hc
    obtain ⟨hh, hhe⟩ : ∃ hh, Hid (afterH ls o.lk = hh) := ⟨_, rfl⟩
    have hk : addK ls o.lk = ls ++ [withH o.lk hh] := by rw [← hhe.out]; exact if_pos hc
    have hch : chkH ls o.lk = hh := by rw [← hhe.out]; exact if_pos hc
    rw [hch, hc]
    rw [hk] at HL5 HY5 HAP5
    rw [hk, List.length_append, List.length_singleton]
    have hyl : (ls ++ [withH o.lk hh]).length = ls.length + 1 := by simp
    have HY := Lib.hid (show SliceIs w5 6 (.slice A5 (ls.length + 1) k5) (ls.length + 1) (kcells (ls ++ [withH o.lk hh])) by have := HY5.out.slice; rw [hyl] at this; exact this)
    have HX5 := Lib.hid HF5.out.slice
    have HCA := Lib.hid (again_no HCZ.out hhe.out 0)
    have HYT : Hid (SliceIs w5 6 (.slice A5 ls.length k5) ls.length (kcells ls)) := by
      have h1 := SliceIs.take (k := ls.length) (n := ls.length + 1) hyl HY.out (by omega)
      rw [List.take_left'  rfl] at h1
      exact Lib.hid h1
    obtain ⟨g5, off5, rfl, hk5, _, hg5, y0, y1, y2, y3, y4, y5⟩ := slice_cells HY.out (k := ls.length) (x := withH o.lk hh) (by simp) hyl
    have SC := Lib.hid (fun (W : World) (hW : Below w5.heap.size w5 W) =>
      have q := fun (j : Nat) (u : Value) (h : w5.cell? ⟨g5, j, none⟩ = some u) => (hW.cell (p := ⟨g5, j, none⟩) hg5).trans h
      have z := XC.out W (bT (bT BX1.out HL5.out.wb) hW)
      And.intro (show W.cell? ⟨g5, off5 + ls.length * 6, none⟩ = some (.string o.it) from q _ _ y0) (And.intro (show W.cell? ⟨g5, off5 + ls.length * 6 + 1, none⟩ = some (.string o.pa) from q _ _ y1) (And.intro (show W.cell? ⟨g5, off5 + ls.length * 6 + 2, none⟩ = some (.int .i64 o.t) from q _ _ y2) (And.intro (show W.cell? ⟨g5, off5 + ls.length * 6 + 3, none⟩ = some (.int .i64 o.vo) from q _ _ y3) (And.intro (show W.cell? ⟨g5, off5 + ls.length * 6 + 4, none⟩ = some (.string o.sp) from q _ _ y4) (And.intro (show W.cell? ⟨g5, off5 + ls.length * 6 + 5, none⟩ = some (.int .u64 hh) from q _ _ y5) z))))))
    have hll3 : ∀ W, (Builtin.len_ #[27] 3 #[.slice A3 ls.length k3]).run Tryd.prog W = .ok (.int .i64 ls.length) W := fun W => by simp [Builtin.len_, run_underlying und_links]; rfl
    have hb1 : (0 : Int) ≤ (ls.length : Int) := by omega
    have hb2 : (ls.length : Int) ≤ (k5 : Int) := by omega
    have hb3 : (ls.length : Int) < (ls.length : Int) + 1 := by omega
    have hb4 : ls.length ≤ k5 := by omega
    have hwr : IntKind.i64.wrap ((ls.length : Int) + 1) = (ls.length : Int) + 1 := by rw [IntKind.wrap_i64]; omega
    clear hc hk hch y0 y1 y2 y3 y4 y5 x0 x1 x2 x3 x4 hyl
    go_wp2_with fail
    go_region_held3 (fun w' => w'.cell? ⟨g5, off5 + ls.length * 6, none⟩ = some (.string o.it) ∧ w'.cell? ⟨g5, off5 + ls.length * 6 + 1, none⟩ = some (.string o.pa) ∧ w'.cell? ⟨g5, off5 + ls.length * 6 + 2, none⟩ = some (.int .i64 o.t) ∧ w'.cell? ⟨g5, off5 + ls.length * 6 + 3, none⟩ = some (.int .i64 o.vo) ∧ w'.cell? ⟨g5, off5 + ls.length * 6 + 4, none⟩ = some (.string o.sp) ∧ w'.cell? ⟨g5, off5 + ls.length * 6 + 5, none⟩ = some (.int .u64 hh) ∧ w'.cell? ⟨w.heap.size, 0, none⟩ = some (.string o.it) ∧ w'.cell? ⟨w.heap.size, 1, none⟩ = some (.string o.pa) ∧ w'.cell? ⟨w.heap.size, 2, none⟩ = some (.string o.sp) ∧ w'.cell? ⟨w.heap.size, 3, none⟩ = some (.int .i64 o.t) ∧ w'.cell? ⟨w.heap.size, 4, none⟩ = some (.int .i64 o.vo))
      (first | exact SC.out _ B6.out | exact SC.out _ (bd (Below.refl _ _)))
      (first
        | (go_at_call 16; refine (SameLinks_any _ _ ls w5.drew (HYT.out.below (bd (Below.refl _ _))) (HX5.out.below (bd (Below.refl _ _)))).mono ?_; rintro e w6 ⟨rfl, b6⟩; have B6 := Lib.hid (bT (bd (Below.refl w5.heap.size w5)) b6); clear b6))
    clear hb1 hb2 hb3 hb4 hk5 hwr hlen hll3
    obtain ⟨_, _, _, _, _, _, x0, x1, x2, x3, x4⟩ := SC.out w6 B6.out
    have HAP6 := Lib.hid (HAP5.out.below B6.out)
    have HAD6 := Lib.hid (HAP6.out.add { o.lk with vo := 0 } rfl (HT.out.on (bT B1.out HAP6.out.live.wb)) HQ.out.1 HQ.out.2.1 HQ.out.2.2)
    rw [chkno HCA.out (by decide), addno HCA.out (by decide), HCA.out] at HAD6
    have HAD7 : Hid (Calls Tryd.prog 14 #[.pointer (some ⟨b, 0, none⟩), .string o.it, .string o.pa, .string o.sp, .int .i64 o.t, .int .i64 0] w6 _) := HAD6
    go_wp2_with fail
    refine HAD7.out.mono ?_
    rintro e w7 ⟨rfl, hL, hK⟩
    have HL7 := Lib.hid hL
    have HY7 := Lib.hid (HY5.out.kept2 B6.out hK)
    clear hL hK x0 x1 x2 x3 x4
    go_wp2_with fail
    refine (HL7.out.links).mono ?_
    rintro e w8 ⟨v8, rfl, hf, b8⟩
    have HY8 := Lib.hid (HY7.out.below b8)
    have HF8 := Lib.hid hf
    have HL8 := Lib.hid (HL7.out.below b8)
    obtain ⟨A8, k8, rfl⟩ := slice_shape hf.slice
    have hyl2 : (ls ++ [withH o.lk hh]).length = ls.length + 1 := by simp
    have HY8' : Hid (SliceIs w8 6 (.slice (some ⟨g5, off5, none⟩) (ls.length + 1) k5) (ls ++ [withH o.lk hh]).length (kcells (ls ++ [withH o.lk hh]))) := by
      have h1 := HY8.out.slice
      rw [hyl2] at h1 ⊢
      exact h1
    have HF8' : Hid (SliceIs w8 6 (.slice A8 (ls.length + 1) k8) (ls ++ [withH o.lk hh]).length (kcells (ls ++ [withH o.lk hh]))) := by
      have h1 := HF8.out.slice
      rw [hyl2] at h1 ⊢
      exact h1
    rw [hyl2]
    clear hyl2
    clear hf b8
    go_wp2_with fail
    refine (SameLinks_any _ _ (ls ++ [withH o.lk hh]) _ HF8'.out HY8'.out).mono ?_
    rintro e w9 ⟨rfl, b9⟩
    have B9 := Lib.hid (bT (bT B1.out HL8.out.wb) b9)
    clear b9
    go_wp2_with fail
    refine (awake_any _ (HT.out.on B9.out)).mono ?_
    rintro e w10 ⟨rfl, b10⟩
    go_wp2_with fail
    go_ret
    exact ⟨rfl, bT B9.out b10⟩
end Go.Proofs.YtmgegffcgmcclaaDoor.Cu
