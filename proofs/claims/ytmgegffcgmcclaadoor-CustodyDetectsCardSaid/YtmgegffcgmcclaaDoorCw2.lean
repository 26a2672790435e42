/- the law CustodyDetects, walked. -/
import Derived.Test.YtmgegffcgmcclaaDoorCw1
import Derived.Test.YtmgegffcgmcclaaDoorLq
import Derived.Test.YtmgegffcgmcclaaDoorCv2
import Derived.Laws.IdiomCopy
namespace Go.Proofs.YtmgegffcgmcclaaDoor.Cu
open Go.RowKit Go.Proofs.YtmgegffcgmcclaaDoor.Id Go.Maps

theorem setCells_keeps (g : Nat) : ∀ (vs : List Value) (o : Nat) (W : World), Keeps (fun k => k = g) W (W.setCells g o vs)
  | [], _, W => Keeps.refl _ W
  | v :: r, o, W => (Keeps.setCell (fun k => k = g) W (p := ⟨g, o, none⟩) rfl v).trans (setCells_keeps g r (o + 1) _) (fun _ h => .inl h)
theorem bset {n : Nat} {A W : World} {g j : Nat} {u : Value} (h : Below n A W) (hs : n ≤ A.heap.size) (hg : n ≤ g) : Below n A (W.setCell ⟨g, j, none⟩ u) := below_set h hg (Nat.le_trans hs h.size)
theorem set_slice {W : World} {g n c : Nat} {ls : List Lk} (hn : ls.length = n) (h : SliceIs W 6 (.slice (some ⟨g, 0, none⟩) n c) n (kcells ls)) {k : Nat} (hk : k < n) (y : Lk) :
    SliceIs (W.setCells g (k * 6) y.cells) 6 (.slice (some ⟨g, 0, none⟩) n c) n (kcells (ls.set k y)) := by
  obtain ⟨g', off, e, hc, hg, hcx⟩ := slice_addr h (by omega)
  cases e
  refine ⟨by rw [kcells_len, List.length_set, hn], h.2.1, .inr ⟨g, 0, c, rfl, hc, Nat.lt_of_lt_of_le hg (setCells_keeps g _ _ W).size, fun j u hu => ?_⟩⟩
  rcases kcells_set (by omega) y hu with ⟨r, hr, rfl, hu⟩ | ⟨hne, hu⟩
  · have hx : ls[k]? = some (ls[k]'(by omega)) := List.getElem?_eq_getElem (by omega)
    have := World.cell?_setCells_in g y.cells (k * 6) W (fun i hi => by
      have hi6 : i < 6 := hi
      have h1 := kcells_at hx hi6
      rw [List.getElem?_eq_getElem (show i < (ls[k]'(by omega)).cells.length from hi6)] at h1
      have h2 := hcx _ _ h1
      rw [Nat.zero_add] at h2
      rw [h2]; rfl) r hr
    rw [Nat.zero_add, this]
    rename_i hu2
    rw [List.getElem?_eq_getElem (show r < y.cells.length from hr)] at hu2
    exact hu2
  · rw [World.cell?_setCells_out g y.cells (k * 6) W ⟨g, 0 + j, none⟩ (fun _ _ => by
      show 0 + j < k * 6 ∨ k * 6 + 6 ≤ 0 + j
      by_cases h1 : j < k * 6
      · exact .inl (by omega)
      · right
        by_cases h2 : k * 6 + 6 ≤ j
        · omega
        · exact absurd (show j = k * 6 + (j - k * 6) by omega) (hne (j - k * 6) (by omega)))]
    exact hcx j u hu
set_option maxHeartbeats 8000000 in
set_option maxRecDepth 100000 in
set_option linter.all false in
theorem CustodyDetects_any (v : Value) (os : List COp) (z : Chg) (w : World) (htab : Tab w) (hs : SliceIs w 5 v os.length (opcells os)) (hz0 : 0 ≤ z.at_ ∧ z.at_ < 256) (_ : 0 ≤ z.fi ∧ z.fi < 256) (_ : RngK z.to) :
    Calls Tryd.prog 6 #[v, z.val] w fun e w' => e = .returned (.bool true) ∧ Below w.heap.size w w' := by
  have HT := Lib.hid htab
  have HS := Lib.hid hs
  have hu0 := hz0.1
  have hu1 := hz0.2
  have HW := Lib.hid (bA (Below.refl w.heap.size w) (.cells #[.int .u8 z.at_, .int .u8 z.fi, .string z.to.it, .string z.to.pa, .int .i64 z.to.t, .int .i64 z.to.vo, .string z.to.sp, .int .u64 z.to.ha] 46))
  have XC := Lib.hid (fun (W : World) (hW : Below (w.alloc (.cells #[.int .u8 z.at_, .int .u8 z.fi, .string z.to.it, .string z.to.pa, .int .i64 z.to.t, .int .i64 z.to.vo, .string z.to.sp, .int .u64 z.to.ha] 46)).heap.size (w.alloc (.cells #[.int .u8 z.at_, .int .u8 z.fi, .string z.to.it, .string z.to.pa, .int .i64 z.to.t, .int .i64 z.to.vo, .string z.to.sp, .int .u64 z.to.ha] 46)) W) => cells8 ((hW.block w.heap.size (by simp)).trans (heap_alloc_new w _)))
  obtain ⟨A, c, rfl⟩ := slice_shape hs
  unfold Chg.val
  clear hs htab hz0
  go_enter Tryd.func6, Tryd.ntmps6
  go_wp2_with fail
  refine (small_any _ os _ (HS.out.below HW.out)).mono ?_
  rintro e w1 ⟨bb, rfl, b1, hb⟩
  have HB := Lib.hid hb
  have BX1 := Lib.hid b1
  have B1 := Lib.hid (HW.out.trans (b1.mono HW.out.size))
  obtain ⟨x0, x1, x2, x3, x4, x5, x6, x7⟩ := XC.out w1 b1
  clear hb b1
  cases bb with
  | false =>
    go_wp2_with fail
    refine (awake_any _ (HT.out.on B1.out)).mono ?_
    rintro e w2 ⟨rfl, b2⟩
    go_wp2_with fail
    go_ret
    exact ⟨rfl, bT B1.out b2⟩
  | true =>
    have HOK := Lib.hid (HB.out (by simp)).2
    clear HB
    by_cases c1 : z.to.it.size ≤ 100
    case neg =>
      have c1' : decide ((100 : Int) < z.to.it.size) = true := by simp; omega
      go_wp2_with fail
      refine (awake_any _ (HT.out.on B1.out)).mono ?_
      rintro e w2 ⟨rfl, b2⟩
      go_wp2_with fail
      go_ret
      exact ⟨rfl, bT B1.out b2⟩
    have c1' : decide ((100 : Int) < z.to.it.size) = false := by simp; omega
    by_cases c2 : z.to.pa.size ≤ 100
    case neg =>
      have c2' : decide ((100 : Int) < z.to.pa.size) = true := by simp; omega
      go_wp2_with fail
      refine (awake_any _ (HT.out.on B1.out)).mono ?_
      rintro e w2 ⟨rfl, b2⟩
      go_wp2_with fail
      go_ret
      exact ⟨rfl, bT B1.out b2⟩
    have c2' : decide ((100 : Int) < z.to.pa.size) = false := by simp; omega
    by_cases c3 : z.to.sp.size ≤ 100
    case neg =>
      have c3' : decide ((100 : Int) < z.to.sp.size) = true := by simp; omega
      go_wp2_with fail
      refine (awake_any _ (HT.out.on B1.out)).mono ?_
      rintro e w2 ⟨rfl, b2⟩
      go_wp2_with fail
      go_ret
      exact ⟨rfl, bT B1.out b2⟩
    have c3' : decide ((100 : Int) < z.to.sp.size) = false := by simp; omega
    have HZS : Hid (z.to.it.size ≤ 100 ∧ z.to.pa.size ≤ 100 ∧ z.to.sp.size ≤ 100) := Lib.hid ⟨c1, c2, c3⟩
    clear c1 c2 c3
    go_wp2_with fail
    refine (register_any _ os _ (HT.out.on B1.out) (HS.out.below B1.out) HOK.out).mono ?_
    rintro e w2 ⟨b, rfl, hL⟩
    have HL := Lib.hid hL
    have HG := Lib.hid (regL_good os)
    clear hL x0 x1 x2 x3 x4 x5 x6 x7
    generalize regL os = ls at HL HG
    have HI := Lib.hid HG.out.cinv
    have hlen := HI.out.len
    go_wp2_with fail
    refine (HL.out.links).mono ?_
    rintro e w3 ⟨v3, rfl, hf, b3⟩
    have HF := Lib.hid hf.slice
    have BX3 := Lib.hid (bT BX1.out (bT HL.out.wb b3))
    have B3 := Lib.hid (bT B1.out (bT HL.out.wb b3))
    obtain ⟨A3, c3, rfl⟩ := slice_shape hf.slice
    clear hf b3 HL
    have hll : ∀ W, (Builtin.len_ #[27] 3 #[.slice A3 ls.length c3]).run Tryd.prog W = .ok (.int .i64 ls.length) W := fun W => by simp [Builtin.len_, run_underlying und_links]; rfl
    obtain ⟨x0, x1, x2, x3, x4, x5, x6, x7⟩ := XC.out w3 BX3.out
    by_cases hl0 : ls.length = 0
    case pos =>
      rw [hl0] at hll ⊢
      go_wp2_with fail
      refine (awake_any _ (HT.out.on B3.out)).mono ?_
      rintro e w4 ⟨rfl, b4⟩
      go_wp2_with fail
      go_ret
      exact ⟨rfl, bT B3.out b4⟩
    have hl0' : ((ls.length : Int) == 0) = false := by rw [beq_eq_false_iff_ne]; omega
    obtain ⟨k, hk⟩ : ∃ k : Nat, z.at_.tmod (ls.length : Int) = k := ⟨(z.at_.tmod (ls.length : Int)).toNat, by rw [Int.toNat_of_nonneg (Int.tmod_nonneg _ hu0)]⟩
    have hkl : k < ls.length := by
      have h1 := Int.tmod_lt_of_pos z.at_ (b := (ls.length : Int)) (by omega)
      rw [hk] at h1
      omega
    obtain ⟨x, hx⟩ : ∃ x, ls[k]? = some x := ⟨_, List.getElem?_eq_getElem hkl⟩
    obtain ⟨g, off, rfl, hc3, _, hg, _⟩ := slice_cells HF.out hx rfl
    have SC := Lib.hid (fun (W : World) (hW : Below w3.heap.size w3 W) => slice_cells2 HF.out hx rfl hW)
    have HX := Lib.hid hx
    have HD := Lib.hid (fun y => detect HG.out (k := k) (x := x) y hx)
    have HCH := Lib.hid (fun W => changed_any x z W)
    have HYS := Lib.hid (chgL_small (z := z.to) (f := z.fi) (HI.out.small k x HX.out) HZS.out)
    generalize chgL x z.fi z.to = y at HCH HYS
    have HDY := Lib.hid (HD.out y)
    unfold Lk.val Chg.val at HCH
    have SS := Lib.hid (fun (W : World) (hW : Below w3.heap.size w3 W) =>
      have a := SC.out W hW
      have b := XC.out W (bT BX3.out hW)
      (show (fun w' : World => w'.cell? ⟨g, off + k * 6, none⟩ = some (.string x.it) ∧ w'.cell? ⟨g, off + k * 6 + 1, none⟩ = some (.string x.pa) ∧ w'.cell? ⟨g, off + k * 6 + 2, none⟩ = some (.int .i64 x.t) ∧ w'.cell? ⟨g, off + k * 6 + 3, none⟩ = some (.int .i64 x.vo) ∧ w'.cell? ⟨g, off + k * 6 + 4, none⟩ = some (.string x.sp) ∧ w'.cell? ⟨g, off + k * 6 + 5, none⟩ = some (.int .u64 x.ha) ∧ w'.cell? ⟨w.heap.size, 0, none⟩ = some (.int .u8 z.at_) ∧ w'.cell? ⟨w.heap.size, 1, none⟩ = some (.int .u8 z.fi) ∧ w'.cell? ⟨w.heap.size, 2, none⟩ = some (.string z.to.it) ∧ w'.cell? ⟨w.heap.size, 3, none⟩ = some (.string z.to.pa) ∧ w'.cell? ⟨w.heap.size, 4, none⟩ = some (.int .i64 z.to.t) ∧ w'.cell? ⟨w.heap.size, 5, none⟩ = some (.int .i64 z.to.vo) ∧ w'.cell? ⟨w.heap.size, 6, none⟩ = some (.string z.to.sp) ∧ w'.cell? ⟨w.heap.size, 7, none⟩ = some (.int .u64 z.to.ha)) W from And.intro a.1 (And.intro a.2.1 (And.intro a.2.2.1 (And.intro a.2.2.2.1 (And.intro a.2.2.2.2.1 (And.intro a.2.2.2.2.2 b)))))))
    go_upto_region 7 with fail
    clear HD SC x0 x1 x2 x3 x4 x5 x6 x7
    go_region_held3 (fun w' => w'.cell? ⟨g, off + k * 6, none⟩ = some (.string x.it) ∧ w'.cell? ⟨g, off + k * 6 + 1, none⟩ = some (.string x.pa) ∧ w'.cell? ⟨g, off + k * 6 + 2, none⟩ = some (.int .i64 x.t) ∧ w'.cell? ⟨g, off + k * 6 + 3, none⟩ = some (.int .i64 x.vo) ∧ w'.cell? ⟨g, off + k * 6 + 4, none⟩ = some (.string x.sp) ∧ w'.cell? ⟨g, off + k * 6 + 5, none⟩ = some (.int .u64 x.ha) ∧ w'.cell? ⟨w.heap.size, 0, none⟩ = some (.int .u8 z.at_) ∧ w'.cell? ⟨w.heap.size, 1, none⟩ = some (.int .u8 z.fi) ∧ w'.cell? ⟨w.heap.size, 2, none⟩ = some (.string z.to.it) ∧ w'.cell? ⟨w.heap.size, 3, none⟩ = some (.string z.to.pa) ∧ w'.cell? ⟨w.heap.size, 4, none⟩ = some (.int .i64 z.to.t) ∧ w'.cell? ⟨w.heap.size, 5, none⟩ = some (.int .i64 z.to.vo) ∧ w'.cell? ⟨w.heap.size, 6, none⟩ = some (.string z.to.sp) ∧ w'.cell? ⟨w.heap.size, 7, none⟩ = some (.int .u64 z.to.ha))
      ((refine SS.out _ ?_; repeat' (first | (with_reducible exact B5.out) | (with_reducible exact Below.refl _ _) | (with_reducible refine bd ?_) | (with_reducible refine bA ?_ _) | (with_reducible refine bset ?_ (Nat.le_refl _) ?_) | exact B5.out.size | exact Nat.le_refl _)))
      (first
        | (go_at_call 22; refine (HCH.out w3.drew).mono ?_; rintro e w5 ⟨rfl, b5⟩; have B5 := Lib.hid (bT (bd (Below.refl w3.heap.size w3)) b5); clear b5)
        | (go_at_call 22; refine (HCH.out (w3.alloc (.cells #[.string ⟨#[]⟩, .string ⟨#[]⟩, .int .i64 0, .int .i64 0, .string ⟨#[]⟩, .int .u64 0] 44)).drew).mono ?_; rintro e w5 ⟨rfl, b5⟩; have B5 := Lib.hid (bT (bd (bA (Below.refl w3.heap.size w3) _)) b5); have HZ5 := Lib.hid ((b5.block w3.heap.size (by simp)).trans (heap_alloc_new w3 (.cells #[.string ⟨#[]⟩, .string ⟨#[]⟩, .int .i64 0, .int .i64 0, .string ⟨#[]⟩, .int .u64 0] 44))); obtain ⟨p0, p1, p2, p3, p4, p5, p6⟩ := cells6 HZ5.out; clear b5))
    · have R6 : Hid ((w5.alloc (.cells #[.string y.it, .string y.pa, .int .i64 y.t, .int .i64 y.vo, .string y.sp, .int .u64 y.ha] 44)).heap[w5.heap.size]? = some (.cells #[.string y.it, .string y.pa, .int .i64 y.t, .int .i64 y.vo, .string y.sp, .int .u64 y.ha] 44 (0, 0))) := Lib.hid (heap_alloc_new w5 _)
      have B6 : Hid (Below w3.heap.size w3 (w5.alloc (.cells #[.string y.it, .string y.pa, .int .i64 y.t, .int .i64 y.vo, .string y.sp, .int .u64 y.ha] 44))) := Lib.hid (bA B5.out _)
      have HP : Hid (w3.heap.size ≤ w5.heap.size) := Lib.hid B5.out.size
      generalize w5.alloc (.cells #[.string y.it, .string y.pa, .int .i64 y.t, .int .i64 y.vo, .string y.sp, .int .u64 y.ha] 44) = w6 at R6 B6 ⊢
      generalize w5.heap.size = p at R6 HP ⊢
      clear B5
      obtain ⟨y0, y1, y2, y3, y4, y5, y6⟩ := cells6 R6.out
      obtain ⟨x0, x1, x2, x3, x4, x5, _⟩ := SS.out w6 B6.out
      obtain ⟨bb, hq⟩ := link_eq y x
      go_wp2_with fail
      go_quiet (fail)
      have B7 := Lib.hid (bD B6.out nq)
      have R7 := Lib.hid (show (w6.drewN nq).heap[p]? = some (.cells #[.string y.it, .string y.pa, .int .i64 y.t, .int .i64 y.vo, .string y.sp, .int .u64 y.ha] 44 (0, 0)) from R6.out)
      clear y0 y1 y2 y3 y4 y5 y6 x0 x1 x2 x3 x4 x5 hq
      generalize w6.drewN nq = w7 at B7 R7 ⊢
      cases bb with
      | true =>
        go_wp2_with fail
        refine (awake_any _ (HT.out.on (bT B3.out B7.out))).mono ?_
        rintro e w8 ⟨rfl, b8⟩
        go_wp2_with fail
        go_ret
        exact ⟨rfl, bT (bT B3.out B7.out) b8⟩
      | false =>
        have OE := Lib.hid (own_empty (sz := 6) (heap_alloc_new w7 (.cells #[] 44)) (Nat.le_refl _))
        have BE := Lib.hid (bA B7.out (.cells #[] 44))
        obtain ⟨i0, hi, hz0', hz1, hz2⟩ := info_parts infoLink
        go_wp2_with (at_builtin; refine wpList_append_src _ rfl (.tmp 62) (.tmp 63) 27 (by rfl) w7.heap.size 44 i0 _ 6 72 und_links hi hz0' hz1 hz2 rfl (by omega) (.slice (some ⟨w7.heap.size, 0, none⟩) 0 0) 0 [] (by rfl) OE.out (.slice (some ⟨g, off, none⟩) ls.length c3) ls.length (kcells ls) (by rfl) (HF.out.below BE.out) (kcells_one ls) (by unfold maxLen; omega) (by omega) (bA (Below.refl w7.heap.size w7) (.cells #[] 44)).size ?_)
        intro v8 w8 own8 grow8 hat8
        have O8 : Hid (w8.ownsRow w7.heap.size 44 6 v8 ls.length (kcells ls)) := by unfold Hid; simpa using own8
        have hpl := (Array.getElem?_eq_some_iff.1 R7.out).1
        have R8 := Lib.hid ((grow8.block p (by simp; omega) (by simp [Value.ownBlock]; omega)).trans ((heap_alloc_old w7 (.cells #[] 44) hpl).trans R7.out))
        have B8 := Lib.hid (B7.out.trans ((below_of_grown (bA (Below.refl w7.heap.size w7) (.cells #[] 44)) grow8 (own_lt OE.out)).mono B7.out.size))
        obtain ⟨g8, c8, rfl, hgb, hg8⟩ := O8.out.form (by omega)
        obtain ⟨cur, hcur⟩ := own_type O8.out g8 rfl
        have fz : ∀ j, w8.frozen? ⟨g8, j, none⟩ = false := fun j => frozen_of_row _ _ _ _ _ hcur
        have m0 : w8.cell? ⟨g8, k * 6, none⟩ = some (.string x.it) := (O8.out.cellAt (k * 6) (by omega)).trans (kcells_at HX.out (j := 0) (by omega))
        have m1 : w8.cell? ⟨g8, k * 6 + 1, none⟩ = some (.string x.pa) := (O8.out.cellAt (k * 6 + 1) (by omega)).trans (kcells_at HX.out (j := 1) (by omega))
        have m2 : w8.cell? ⟨g8, k * 6 + 2, none⟩ = some (.int .i64 x.t) := (O8.out.cellAt (k * 6 + 2) (by omega)).trans (kcells_at HX.out (j := 2) (by omega))
        have m3 : w8.cell? ⟨g8, k * 6 + 3, none⟩ = some (.int .i64 x.vo) := (O8.out.cellAt (k * 6 + 3) (by omega)).trans (kcells_at HX.out (j := 3) (by omega))
        have m4 : w8.cell? ⟨g8, k * 6 + 4, none⟩ = some (.string x.sp) := (O8.out.cellAt (k * 6 + 4) (by omega)).trans (kcells_at HX.out (j := 4) (by omega))
        have m5 : w8.cell? ⟨g8, k * 6 + 5, none⟩ = some (.int .u64 x.ha) := (O8.out.cellAt (k * 6 + 5) (by omega)).trans (kcells_at HX.out (j := 5) (by omega))
        obtain ⟨y0, y1, y2, y3, y4, y5, _⟩ := cells6 R8.out
        have hc8 : ls.length ≤ c8 := by obtain ⟨_, _, _, h, _⟩ := slice_addr (SliceIs.of_own O8.out) (by omega); exact h
        have HGB := Lib.hid (show w3.heap.size ≤ g8 ∧ p < g8 from ⟨by have := B7.out.size; omega, by omega⟩)
        clear own8 grow8 hat8 hcur
        go_upto_region 12 with fail
        change Code.wp _ _ _ _ (w8.setCells g8 (k * 6) y.cells)
        have K9 := setCells_keeps g8 y.cells (k * 6) w8
        have M9 : Hid (SliceIs (w8.setCells g8 (k * 6) y.cells) 6 (.slice (some ⟨g8, 0, none⟩) ls.length c8) (ls.set k y).length (kcells (ls.set k y))) := by
          unfold Hid
          rw [List.length_set]
          exact set_slice rfl (SliceIs.of_own O8.out) hkl y
        have R9 : Hid ((w8.setCells g8 (k * 6) y.cells).heap[p]? = some (.cells #[.string y.it, .string y.pa, .int .i64 y.t, .int .i64 y.vo, .string y.sp, .int .u64 y.ha] 44 (0, 0))) := Lib.hid ((K9.block p (Array.getElem?_eq_some_iff.1 R8.out).1 (by have := HGB.out.2; omega)).trans R8.out)
        have B9 := Lib.hid (B8.out.trans (K9.below (fun k e => by rw [e]; exact HGB.out.1) B8.out.size))
        clear m0 m1 m2 m3 m4 m5 fz y0 y1 y2 y3 y4 y5 K9
        generalize w8.setCells g8 (k * 6) y.cells = w9 at M9 R9 B9 ⊢
        have HVF := Lib.hid (Verify_any _ (ls.set k y) w9 M9.out (HT.out.on (bT B3.out B9.out)) (set_small HI.out.small HYS.out))
        have HAFT := Lib.hid (fun (hh : canE (ls.take k) y = 0 ∧ afterH (ls.take k) y = y.ha) (W : World) (hW : Below w3.heap.size w3 W) => hh.2 ▸ rAfter_any _ (ls.take k) y W (SliceIs.take rfl (HF.out.below hW) (k := k) (by omega)) (fun i u h => ((HG.out.take k).cinv.each i u h).2.2.2.2.2.2.2.1) HYS.out.1 HYS.out.2.1 HYS.out.2.2 (canE_ranges hh.1).1 (canE_ranges hh.1).2)
        unfold Lk.val at HAFT
        generalize verF [] (ls.set k y) = vq at HVF HDY
        obtain ⟨n, m⟩ := vq
        have HDZ : Hid ((m ≠ 0 ∧ n = (k : Int)) ∨ (canE (ls.take k) y = 0 ∧ afterH (ls.take k) y = y.ha)) := HDY
        have HVG : Hid (Calls Tryd.prog 19 #[.slice (some ⟨g8, 0, none⟩) ls.length c8] w9 fun e w' => e = .returned (.tuple #[.int .i64 n, .int .i64 m]) ∧ Below w9.heap.size w9 w') := HVF
        clear HVF HDY
        go_wp2_with fail
        refine HVG.out.mono ?_
        rintro e wa ⟨rfl, ba⟩
        have BA := Lib.hid (bT B9.out ba)
        have RA := Lib.hid ((ba.block p (Array.getElem?_eq_some_iff.1 R9.out).1).trans R9.out)
        clear ba
        by_cases hA : m ≠ 0 ∧ n = (k : Int)
        · have hm : (m != 0) = true := by simpa using hA.1
          have hn : (n == (k : Int)) = true := by simpa using hA.2
          clear hA
          go_wp2_with fail
          refine (awake_any _ (HT.out.on (bT B3.out BA.out))).mono ?_
          rintro e wb ⟨rfl, bb⟩
          go_wp2_with fail
          go_ret
          exact ⟨rfl, bT (bT B3.out BA.out) bb⟩
        have HHH := Lib.hid (HDZ.out.resolve_left hA)
        replace HAFT := Lib.hid (HAFT.out HHH.out)
        obtain ⟨bm, hm⟩ : ∃ bm, (m != 0) = bm := ⟨_, rfl⟩
        obtain ⟨bn, hn⟩ : ∃ bn, (n == (k : Int)) = bn := ⟨_, rfl⟩
        have hbb : bm = false ∨ (bm = true ∧ bn = false) := by
          cases bm
          · exact .inl rfl
          · refine .inr ⟨rfl, ?_⟩
            cases bn
            · rfl
            · exact absurd ⟨by simpa using hm, by simpa using hn⟩ hA
        clear hA
        rcases hbb with rfl | ⟨rfl, rfl⟩
        · obtain ⟨ι, hne, f, j0, hj0, hF, hCC⟩ := below_class wa
          have FF := Lib.hid hF
          have FC := Lib.hid hCC
          have HRA := Lib.hid (cells6 RA.out)
          have hpa := Lib.hid (Array.getElem?_eq_some_iff.1 RA.out).1
          have y0 := fun n => ((FF.out n).cell (p := ⟨p, 0, none⟩) hpa.out).trans HRA.out.1
          have y1 := fun n => ((FF.out n).cell (p := ⟨p, 1, none⟩) hpa.out).trans HRA.out.2.1
          have y2 := fun n => ((FF.out n).cell (p := ⟨p, 2, none⟩) hpa.out).trans HRA.out.2.2.1
          have y3 := fun n => ((FF.out n).cell (p := ⟨p, 3, none⟩) hpa.out).trans HRA.out.2.2.2.1
          have y4 := fun n => ((FF.out n).cell (p := ⟨p, 4, none⟩) hpa.out).trans HRA.out.2.2.2.2.1
          have y5 := fun n => ((FF.out n).cell (p := ⟨p, 5, none⟩) hpa.out).trans HRA.out.2.2.2.2.2.1
          have hkc : k ≤ c3 := by omega
          have hk0 : (0 : Int) ≤ (k : Int) := by omega
          have hk1 : (k : Int) ≤ (c3 : Int) := by omega
          clear hF hCC
          go_wp2_with fail
          refine wp_region_class f j0 hj0 (by kernel_rfl) (by kernel_rfl) ?_
          repeat (first
            | go_big_quiet_step ((first
                | (go_at_call 23; exact class_call FC.out (HAFT.out _ (bT BA.out (FF.out _))))
                | (go_at_call 12; exact class_call FC.out (awake_any _ (HT.out.on (bT B3.out (bT BA.out (FF.out _)))))))))
          refine wpQuiet_nil ?_
          rintro _ ⟨nq2, rfl⟩
          go_wp2_with fail
          go_ret
          exact ⟨rfl, bT B3.out (bT BA.out (FF.out nq2))⟩
        · obtain ⟨ι, hne, f, j0, hj0, hF, hCC⟩ := below_class wa
          have FF := Lib.hid hF
          have FC := Lib.hid hCC
          have HRA := Lib.hid (cells6 RA.out)
          have hpa := Lib.hid (Array.getElem?_eq_some_iff.1 RA.out).1
          have y0 := fun n => ((FF.out n).cell (p := ⟨p, 0, none⟩) hpa.out).trans HRA.out.1
          have y1 := fun n => ((FF.out n).cell (p := ⟨p, 1, none⟩) hpa.out).trans HRA.out.2.1
          have y2 := fun n => ((FF.out n).cell (p := ⟨p, 2, none⟩) hpa.out).trans HRA.out.2.2.1
          have y3 := fun n => ((FF.out n).cell (p := ⟨p, 3, none⟩) hpa.out).trans HRA.out.2.2.2.1
          have y4 := fun n => ((FF.out n).cell (p := ⟨p, 4, none⟩) hpa.out).trans HRA.out.2.2.2.2.1
          have y5 := fun n => ((FF.out n).cell (p := ⟨p, 5, none⟩) hpa.out).trans HRA.out.2.2.2.2.2.1
          have hkc : k ≤ c3 := by omega
          have hk0 : (0 : Int) ≤ (k : Int) := by omega
          have hk1 : (k : Int) ≤ (c3 : Int) := by omega
          clear hF hCC
          go_wp2_with fail
          refine wp_region_class f j0 hj0 (by kernel_rfl) (by kernel_rfl) ?_
          repeat (first
            | go_big_quiet_step ((first
                | (go_at_call 23; exact class_call FC.out (HAFT.out _ (bT BA.out (FF.out _))))
                | (go_at_call 12; exact class_call FC.out (awake_any _ (HT.out.on (bT B3.out (bT BA.out (FF.out _)))))))))
          refine wpQuiet_nil ?_
          rintro _ ⟨nq2, rfl⟩
          go_wp2_with fail
          go_ret
          exact ⟨rfl, bT B3.out (bT BA.out (FF.out nq2))⟩
    · have R6 : Hid ((six w5 w3.heap.size y).heap[w3.heap.size]? = some (.cells #[.string y.it, .string y.pa, .int .i64 y.t, .int .i64 y.vo, .string y.sp, .int .u64 y.ha] 44 (0, 0))) := Lib.hid (six_row HZ5.out y)
      have B6 : Hid (Below w3.heap.size w3 (six w5 w3.heap.size y)) := Lib.hid (six_below B5.out (Nat.le_refl _) y B5.out.size)
      have HP : Hid (w3.heap.size ≤ w3.heap.size) := Lib.hid (Nat.le_refl _)
      change Exit.then _ _ Exit.normal _ (six w5 w3.heap.size y)
      generalize six w5 w3.heap.size y = w6 at R6 B6 ⊢
      clear HZ5 p0 p1 p2 p3 p4 p5 p6
      generalize w3.heap.size = p at R6 ⊢
      obtain ⟨y0, y1, y2, y3, y4, y5, y6⟩ := cells6 R6.out
      obtain ⟨x0, x1, x2, x3, x4, x5, _⟩ := SS.out w6 B6.out
      obtain ⟨bb, hq⟩ := link_eq y x
      go_wp2_with fail
      go_quiet (fail)
      have B7 := Lib.hid (bD B6.out nq)
      have R7 := Lib.hid (show (w6.drewN nq).heap[p]? = some (.cells #[.string y.it, .string y.pa, .int .i64 y.t, .int .i64 y.vo, .string y.sp, .int .u64 y.ha] 44 (0, 0)) from R6.out)
      clear y0 y1 y2 y3 y4 y5 y6 x0 x1 x2 x3 x4 x5 hq
      generalize w6.drewN nq = w7 at B7 R7 ⊢
      cases bb with
      | true =>
        go_wp2_with fail
        refine (awake_any _ (HT.out.on (bT B3.out B7.out))).mono ?_
        rintro e w8 ⟨rfl, b8⟩
        go_wp2_with fail
        go_ret
        exact ⟨rfl, bT (bT B3.out B7.out) b8⟩
      | false =>
        have OE := Lib.hid (own_empty (sz := 6) (heap_alloc_new w7 (.cells #[] 44)) (Nat.le_refl _))
        have BE := Lib.hid (bA B7.out (.cells #[] 44))
        obtain ⟨i0, hi, hz0', hz1, hz2⟩ := info_parts infoLink
        go_wp2_with (at_builtin; refine wpList_append_src _ rfl (.tmp 62) (.tmp 63) 27 (by rfl) w7.heap.size 44 i0 _ 6 72 und_links hi hz0' hz1 hz2 rfl (by omega) (.slice (some ⟨w7.heap.size, 0, none⟩) 0 0) 0 [] (by rfl) OE.out (.slice (some ⟨g, off, none⟩) ls.length c3) ls.length (kcells ls) (by rfl) (HF.out.below BE.out) (kcells_one ls) (by unfold maxLen; omega) (by omega) (bA (Below.refl w7.heap.size w7) (.cells #[] 44)).size ?_)
        intro v8 w8 own8 grow8 hat8
        have O8 : Hid (w8.ownsRow w7.heap.size 44 6 v8 ls.length (kcells ls)) := by unfold Hid; simpa using own8
        have hpl := (Array.getElem?_eq_some_iff.1 R7.out).1
        have R8 := Lib.hid ((grow8.block p (by simp; omega) (by simp [Value.ownBlock]; omega)).trans ((heap_alloc_old w7 (.cells #[] 44) hpl).trans R7.out))
        have B8 := Lib.hid (B7.out.trans ((below_of_grown (bA (Below.refl w7.heap.size w7) (.cells #[] 44)) grow8 (own_lt OE.out)).mono B7.out.size))
        obtain ⟨g8, c8, rfl, hgb, hg8⟩ := O8.out.form (by omega)
        obtain ⟨cur, hcur⟩ := own_type O8.out g8 rfl
        have fz : ∀ j, w8.frozen? ⟨g8, j, none⟩ = false := fun j => frozen_of_row _ _ _ _ _ hcur
        have m0 : w8.cell? ⟨g8, k * 6, none⟩ = some (.string x.it) := (O8.out.cellAt (k * 6) (by omega)).trans (kcells_at HX.out (j := 0) (by omega))
        have m1 : w8.cell? ⟨g8, k * 6 + 1, none⟩ = some (.string x.pa) := (O8.out.cellAt (k * 6 + 1) (by omega)).trans (kcells_at HX.out (j := 1) (by omega))
        have m2 : w8.cell? ⟨g8, k * 6 + 2, none⟩ = some (.int .i64 x.t) := (O8.out.cellAt (k * 6 + 2) (by omega)).trans (kcells_at HX.out (j := 2) (by omega))
        have m3 : w8.cell? ⟨g8, k * 6 + 3, none⟩ = some (.int .i64 x.vo) := (O8.out.cellAt (k * 6 + 3) (by omega)).trans (kcells_at HX.out (j := 3) (by omega))
        have m4 : w8.cell? ⟨g8, k * 6 + 4, none⟩ = some (.string x.sp) := (O8.out.cellAt (k * 6 + 4) (by omega)).trans (kcells_at HX.out (j := 4) (by omega))
        have m5 : w8.cell? ⟨g8, k * 6 + 5, none⟩ = some (.int .u64 x.ha) := (O8.out.cellAt (k * 6 + 5) (by omega)).trans (kcells_at HX.out (j := 5) (by omega))
        obtain ⟨y0, y1, y2, y3, y4, y5, _⟩ := cells6 R8.out
        have hc8 : ls.length ≤ c8 := by obtain ⟨_, _, _, h, _⟩ := slice_addr (SliceIs.of_own O8.out) (by omega); exact h
        have HGB := Lib.hid (show w3.heap.size ≤ g8 ∧ p < g8 from ⟨by have := B7.out.size; omega, by omega⟩)
        clear own8 grow8 hat8 hcur
        go_upto_region 12 with fail
        change Code.wp _ _ _ _ (w8.setCells g8 (k * 6) y.cells)
        have K9 := setCells_keeps g8 y.cells (k * 6) w8
        have M9 : Hid (SliceIs (w8.setCells g8 (k * 6) y.cells) 6 (.slice (some ⟨g8, 0, none⟩) ls.length c8) (ls.set k y).length (kcells (ls.set k y))) := by
          unfold Hid
          rw [List.length_set]
          exact set_slice rfl (SliceIs.of_own O8.out) hkl y
        have R9 : Hid ((w8.setCells g8 (k * 6) y.cells).heap[p]? = some (.cells #[.string y.it, .string y.pa, .int .i64 y.t, .int .i64 y.vo, .string y.sp, .int .u64 y.ha] 44 (0, 0))) := Lib.hid ((K9.block p (Array.getElem?_eq_some_iff.1 R8.out).1 (by have := HGB.out.2; omega)).trans R8.out)
        have B9 := Lib.hid (B8.out.trans (K9.below (fun k e => by rw [e]; exact HGB.out.1) B8.out.size))
        clear m0 m1 m2 m3 m4 m5 fz y0 y1 y2 y3 y4 y5 K9
        generalize w8.setCells g8 (k * 6) y.cells = w9 at M9 R9 B9 ⊢
        have HVF := Lib.hid (Verify_any _ (ls.set k y) w9 M9.out (HT.out.on (bT B3.out B9.out)) (set_small HI.out.small HYS.out))
        have HAFT := Lib.hid (fun (hh : canE (ls.take k) y = 0 ∧ afterH (ls.take k) y = y.ha) (W : World) (hW : Below w3.heap.size w3 W) => hh.2 ▸ rAfter_any _ (ls.take k) y W (SliceIs.take rfl (HF.out.below hW) (k := k) (by omega)) (fun i u h => ((HG.out.take k).cinv.each i u h).2.2.2.2.2.2.2.1) HYS.out.1 HYS.out.2.1 HYS.out.2.2 (canE_ranges hh.1).1 (canE_ranges hh.1).2)
        unfold Lk.val at HAFT
        generalize verF [] (ls.set k y) = vq at HVF HDY
        obtain ⟨n, m⟩ := vq
        have HDZ : Hid ((m ≠ 0 ∧ n = (k : Int)) ∨ (canE (ls.take k) y = 0 ∧ afterH (ls.take k) y = y.ha)) := HDY
        have HVG : Hid (Calls Tryd.prog 19 #[.slice (some ⟨g8, 0, none⟩) ls.length c8] w9 fun e w' => e = .returned (.tuple #[.int .i64 n, .int .i64 m]) ∧ Below w9.heap.size w9 w') := HVF
        clear HVF HDY
        go_wp2_with fail
        refine HVG.out.mono ?_
        rintro e wa ⟨rfl, ba⟩
        have BA := Lib.hid (bT B9.out ba)
        have RA := Lib.hid ((ba.block p (Array.getElem?_eq_some_iff.1 R9.out).1).trans R9.out)
        clear ba
        by_cases hA : m ≠ 0 ∧ n = (k : Int)
        · have hm : (m != 0) = true := by simpa using hA.1
          have hn : (n == (k : Int)) = true := by simpa using hA.2
          clear hA
          go_wp2_with fail
          refine (awake_any _ (HT.out.on (bT B3.out BA.out))).mono ?_
          rintro e wb ⟨rfl, bb⟩
          go_wp2_with fail
          go_ret
          exact ⟨rfl, bT (bT B3.out BA.out) bb⟩
        have HHH := Lib.hid (HDZ.out.resolve_left hA)
        replace HAFT := Lib.hid (HAFT.out HHH.out)
        obtain ⟨bm, hm⟩ : ∃ bm, (m != 0) = bm := ⟨_, rfl⟩
        obtain ⟨bn, hn⟩ : ∃ bn, (n == (k : Int)) = bn := ⟨_, rfl⟩
        have hbb : bm = false ∨ (bm = true ∧ bn = false) := by
          cases bm
          · exact .inl rfl
          · refine .inr ⟨rfl, ?_⟩
            cases bn
            · rfl
            · exact absurd ⟨by simpa using hm, by simpa using hn⟩ hA
        clear hA
        rcases hbb with rfl | ⟨rfl, rfl⟩
        · obtain ⟨ι, hne, f, j0, hj0, hF, hCC⟩ := below_class wa
          have FF := Lib.hid hF
          have FC := Lib.hid hCC
          have HRA := Lib.hid (cells6 RA.out)
          have hpa := Lib.hid (Array.getElem?_eq_some_iff.1 RA.out).1
          have y0 := fun n => ((FF.out n).cell (p := ⟨p, 0, none⟩) hpa.out).trans HRA.out.1
          have y1 := fun n => ((FF.out n).cell (p := ⟨p, 1, none⟩) hpa.out).trans HRA.out.2.1
          have y2 := fun n => ((FF.out n).cell (p := ⟨p, 2, none⟩) hpa.out).trans HRA.out.2.2.1
          have y3 := fun n => ((FF.out n).cell (p := ⟨p, 3, none⟩) hpa.out).trans HRA.out.2.2.2.1
          have y4 := fun n => ((FF.out n).cell (p := ⟨p, 4, none⟩) hpa.out).trans HRA.out.2.2.2.2.1
          have y5 := fun n => ((FF.out n).cell (p := ⟨p, 5, none⟩) hpa.out).trans HRA.out.2.2.2.2.2.1
          have hkc : k ≤ c3 := by omega
          have hk0 : (0 : Int) ≤ (k : Int) := by omega
          have hk1 : (k : Int) ≤ (c3 : Int) := by omega
          clear hF hCC
          go_wp2_with fail
          refine wp_region_class f j0 hj0 (by kernel_rfl) (by kernel_rfl) ?_
          repeat (first
            | go_big_quiet_step ((first
                | (go_at_call 23; exact class_call FC.out (HAFT.out _ (bT BA.out (FF.out _))))
                | (go_at_call 12; exact class_call FC.out (awake_any _ (HT.out.on (bT B3.out (bT BA.out (FF.out _)))))))))
          refine wpQuiet_nil ?_
          rintro _ ⟨nq2, rfl⟩
          go_wp2_with fail
          go_ret
          exact ⟨rfl, bT B3.out (bT BA.out (FF.out nq2))⟩
        · obtain ⟨ι, hne, f, j0, hj0, hF, hCC⟩ := below_class wa
          have FF := Lib.hid hF
          have FC := Lib.hid hCC
          have HRA := Lib.hid (cells6 RA.out)
          have hpa := Lib.hid (Array.getElem?_eq_some_iff.1 RA.out).1
          have y0 := fun n => ((FF.out n).cell (p := ⟨p, 0, none⟩) hpa.out).trans HRA.out.1
          have y1 := fun n => ((FF.out n).cell (p := ⟨p, 1, none⟩) hpa.out).trans HRA.out.2.1
          have y2 := fun n => ((FF.out n).cell (p := ⟨p, 2, none⟩) hpa.out).trans HRA.out.2.2.1
          have y3 := fun n => ((FF.out n).cell (p := ⟨p, 3, none⟩) hpa.out).trans HRA.out.2.2.2.1
          have y4 := fun n => ((FF.out n).cell (p := ⟨p, 4, none⟩) hpa.out).trans HRA.out.2.2.2.2.1
          have y5 := fun n => ((FF.out n).cell (p := ⟨p, 5, none⟩) hpa.out).trans HRA.out.2.2.2.2.2.1
          have hkc : k ≤ c3 := by omega
          have hk0 : (0 : Int) ≤ (k : Int) := by omega
          have hk1 : (k : Int) ≤ (c3 : Int) := by omega
          clear hF hCC
          go_wp2_with fail
          refine wp_region_class f j0 hj0 (by kernel_rfl) (by kernel_rfl) ?_
          repeat (first
            | go_big_quiet_step ((first
                | (go_at_call 23; exact class_call FC.out (HAFT.out _ (bT BA.out (FF.out _))))
                | (go_at_call 12; exact class_call FC.out (awake_any _ (HT.out.on (bT B3.out (bT BA.out (FF.out _)))))))))
          refine wpQuiet_nil ?_
          rintro _ ⟨nq2, rfl⟩
          go_wp2_with fail
          go_ret
          exact ⟨rfl, bT B3.out (bT BA.out (FF.out nq2))⟩
end Go.Proofs.YtmgegffcgmcclaaDoor.Cu
