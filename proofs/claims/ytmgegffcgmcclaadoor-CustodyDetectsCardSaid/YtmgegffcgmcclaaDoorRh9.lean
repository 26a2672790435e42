/- custody's reference: Can, walked. -/
import Derived.Test.YtmgegffcgmcclaaDoorRhA
namespace Go.Proofs.YtmgegffcgmcclaaDoor.Cu
open Go.RowKit Go.Proofs.YtmgegffcgmcclaaDoor.Id Go.Maps

theorem canU_root {ls : List Lk} {x : Lk} (h : x.pa = emptyB) (v : Int) : canU ls x ⟨emptyB, emptyB, 0, v, x.sp, 0⟩ = canU ls x ⟨emptyB, emptyB, 0, 0, x.sp, 0⟩ := by
  unfold canU
  simp [h]
set_option maxHeartbeats 16000000 in
set_option maxRecDepth 100000 in
set_option linter.all false in
theorem rCan_any (v : Value) (ls : List Lk) (x : Lk) (w : World) (hs : SliceIs w 6 v ls.length (kcells ls)) (hI : CInv ls) (q1 : x.it.size ≤ 1000) (q2 : x.pa.size ≤ 1000) (q3 : x.sp.size ≤ 1000) :
    Calls Tryd.prog 35 #[v, x.val] w fun e w' => e = .returned (.int .i64 (canE ls x)) ∧ Below w.heap.size w w' := by
  have HS := Lib.hid hs
  have HI := Lib.hid hI
  obtain ⟨A, c, rfl⟩ := slice_shape hs
  have HW := Lib.hid (bA (Below.refl w.heap.size w) (.cells #[.string x.it, .string x.pa, .int .i64 x.t, .int .i64 x.vo, .string x.sp, .int .u64 x.ha] 44))
  have XC := Lib.hid (fun (W : World) (hW : Below (w.alloc (.cells #[.string x.it, .string x.pa, .int .i64 x.t, .int .i64 x.vo, .string x.sp, .int .u64 x.ha] 44)).heap.size (w.alloc (.cells #[.string x.it, .string x.pa, .int .i64 x.t, .int .i64 x.vo, .string x.sp, .int .u64 x.ha] 44)) W) => cells6 ((hW.block w.heap.size (by simp)).trans (heap_alloc_new w _)))
  have hlen : ∀ W, (Builtin.len_ #[27] 3 #[.slice A ls.length c]).run Tryd.prog W = .ok (.int .i64 ls.length) W := fun W => by simp [Builtin.len_, run_underlying und_links]; rfl
  have hk16 := hI.len
  unfold Lk.val
  clear hs hI
  go_enter Tryd.func35, Tryd.ntmps35
  go_wp2_with fail
  refine (rSplit_any x.it _ (by omega)).mono ?_
  rintro e w1 ⟨rfl, b1⟩
  obtain ⟨z0, z1, z2, z3, z4, z5, _⟩ := XC.out _ b1
  have B1 := Lib.hid b1
  have BW1 := Lib.hid (HW.out.trans (b1.mono HW.out.size))
  have HS1 := Lib.hid (HS.out.below BW1.out)
  clear b1
  by_cases s0 : splitE x.it.data.toList = 0
  case neg =>
    have hc := Lib.hid (canE_name (ls := ls) (x := x) (by simp [nameOk, s0]))
    have s0' : (splitE x.it.data.toList != 0) = true := by simpa using s0
    go_wp2_with fail
    go_ret
    exact ⟨by rw [hc.out]; rfl, BW1.out⟩
  obtain ⟨kb, hkb⟩ : ∃ kb, (splitK x.it.data.toList == 80) = kb := ⟨_, rfl⟩
  obtain ⟨eb, heb⟩ : ∃ eb, x.pa.toList.isEmpty = eb := ⟨_, rfl⟩
  have hnm : nameOk x = (kb == eb) := by
    rw [pa_empty] at heb
    simp only [nameOk, s0, decide_true, Bool.true_and]
    rw [← hkb, ← heb]
    congr 1
  have HPA : Hid (x.pa = emptyB ↔ eb = true) := Lib.hid (by rw [pa_empty] at heb; rw [← heb]; simp)
  rw [s0]
  by_cases hm : kb = eb
  case neg =>
    have hc := Lib.hid (canE_name (ls := ls) (x := x) (by rw [hnm]; simpa using hm))
    have hm' : (kb == eb) = false := by simpa using hm
    clear hnm
    go_wp2_with fail
    go_ret
    exact ⟨by rw [hc.out]; rfl, BW1.out⟩
  subst hm
  have HN : Hid (nameOk x = true) := Lib.hid (by rw [hnm]; simp)
  clear hnm
  by_cases a0 : 0 ≤ atI ls x.it
  case pos =>
    have a0' : decide (0 ≤ atI ls x.it) = true := by simpa using a0
    have hc := Lib.hid (canE_exists (ls := ls) HN.out a0)
    clear a0
    go_wp2_with fail
    refine (rat_any _ ls x.it _ HS1.out).mono ?_
    rintro e w2 ⟨rfl, rfl⟩
    go_wp2_with fail
    go_ret
    exact ⟨by rw [hc.out]; rfl, BW1.out⟩
  have a0' : decide (0 ≤ atI ls x.it) = false := by simpa using a0
  have hw1 : w.heap.size < w1.heap.size := by have := B1.out.size; simp at this; omega
  have zu1 : ∀ ob, (w1.alloc ob).cell? ⟨w.heap.size, 1, none⟩ = some (.string x.pa) := fun ob => cell_up z1 hw1 ob
  go_wp2_with fail
  refine (rat_any _ ls x.it _ HS1.out).mono ?_
  rintro e w2 ⟨rfl, rfl⟩
  cases kb with
  | true =>
    have hpa := Lib.hid (HPA.out.2 rfl)
    go_upto_region 12 with fail
    obtain ⟨u, hu⟩ : ∃ u : Lk, Hid (u = ⟨emptyB, emptyB, 0, 1125899906842624, x.sp, 0⟩) := ⟨_, rfl⟩
    have HE : Hid (canE ls x = canU ls x u) := by
      unfold Hid
      rw [hu.out, canU_root hpa.out]
      exact canE_up (ls := ls) HN.out (by omega) (by rw [upO, if_pos hpa.out])
    have UC : Hid ((w1.alloc (.cells #[.string ⟨#[]⟩, .string ⟨#[]⟩, .int .i64 0, .int .i64 1125899906842624, .string x.sp, .int .u64 0] 44)).heap[w1.heap.size]? = some (.cells #[.string u.it, .string u.pa, .int .i64 u.t, .int .i64 u.vo, .string u.sp, .int .u64 u.ha] 44 (0, 0))) := by unfold Hid; rw [hu.out]; exact heap_alloc_new w1 _
    have B3 := Lib.hid (bA B1.out (.cells #[.string ⟨#[]⟩, .string ⟨#[]⟩, .int .i64 0, .int .i64 1125899906842624, .string x.sp, .int .u64 0] 44))
    clear hu
    generalize w1.alloc (.cells #[.string ⟨#[]⟩, .string ⟨#[]⟩, .int .i64 0, .int .i64 1125899906842624, .string x.sp, .int .u64 0] 44) = w3 at UC B3 ⊢
    clear z0 z1 z2 z3 z4 z5 zu1
    obtain ⟨y0, y1, y2, y3, y4, y5, _⟩ := XC.out w3 B3.out
    obtain ⟨d0, d1, d2, d3, d4, d5, _⟩ := cells6 UC.out
    have BB : Hid (Below w.heap.size w w3) := Lib.hid (HW.out.trans (B3.out.mono HW.out.size))
    have HS3 := Lib.hid (HS.out.below BB.out)
    have HVOL := Lib.hid (HI.out.vol x.pa)
    have HV : Hid ((∀ (i : Nat) (x : Lk), ls[i]? = some x → 0 ≤ x.vo ∧ x.vo ≤ 1125899906842624) ∧ ls.length ≤ 1024) := Lib.hid ⟨fun i y hy => ⟨(HI.out.each i y hy).1, (HI.out.each i y hy).2.1⟩, HI.out.len⟩
    by_cases t1 : x.t < u.t
    · have t1' : decide (x.t < u.t) = true := by simpa using t1
      have hc := Lib.hid (HE.out.trans (show canU ls x u = 15 by rw [canU, if_pos (.inl t1)]))
      clear t1
      go_wp2_with fail
      go_ret
      exact ⟨by rw [hc.out]; rfl, BB.out⟩
    have t1' : decide (x.t < u.t) = false := by simpa using t1
    by_cases t2 : x.t < 0
    · have t2' : decide (x.t < 0) = true := by simpa using t2
      have hc := Lib.hid (HE.out.trans (show canU ls x u = 15 by rw [canU, if_pos (.inr (.inl t2))]))
      clear t1 t2
      go_wp2_with fail
      go_ret
      exact ⟨by rw [hc.out]; rfl, BB.out⟩
    have t2' : decide (x.t < 0) = false := by simpa using t2
    by_cases t3 : 10000000 < x.t
    · have t3' : decide (10000000 < x.t) = true := by simpa using t3
      have hc := Lib.hid (HE.out.trans (show canU ls x u = 15 by rw [canU, if_pos (.inr (.inr t3))]))
      clear t1 t2 t3
      go_wp2_with fail
      go_ret
      exact ⟨by rw [hc.out]; rfl, BB.out⟩
    have t3' : decide (10000000 < x.t) = false := by simpa using t3
    by_cases n1 : nameB x.sp.data.toList = true
    case neg =>
      have n1' : nameB x.sp.data.toList = false := by simpa using n1
      have hc := Lib.hid (HE.out.trans (show canU ls x u = 24 by rw [canU, if_neg (by omega), if_pos (.inl n1')]))
      clear t1 t2 t3 n1
      go_wp2_with fail
      refine (rIsName_any x.sp _ (by omega)).mono ?_
      rintro e w4 ⟨rfl, rfl⟩
      go_wp2_with fail
      go_ret
      exact ⟨by rw [hc.out]; rfl, BB.out⟩
    by_cases n2 : x.sp = u.sp
    case neg =>
      have n2' : (x.sp.toList == u.sp.toList) = false := by rw [str_eq]; simpa using n2
      have hc := Lib.hid (HE.out.trans (show canU ls x u = 24 by rw [canU, if_neg (by omega), if_pos (.inr n2)]))
      clear t1 t2 t3 n2
      go_wp2_with fail
      refine (rIsName_any x.sp _ (by omega)).mono ?_
      rintro e w4 ⟨rfl, rfl⟩
      go_wp2_with fail
      go_ret
      exact ⟨by rw [hc.out]; rfl, BB.out⟩
    have n2' : (x.sp.toList == u.sp.toList) = true := by rw [str_eq]; simpa using n2
    have HNO : Hid (¬ (nameB x.sp.data.toList = false ∨ x.sp ≠ u.sp)) := Lib.hid (by rintro (h | h); rw [n1] at h; cases h; exact h n2)
    by_cases v1 : x.vo < 0
    · have v1' : decide (x.vo < 0) = true := by simpa using v1
      have hc := Lib.hid (HE.out.trans (show canU ls x u = 9 by rw [canU, if_neg (by omega), if_neg HNO.out, if_pos (.inl v1)]))
      clear t1 t2 t3 n2 v1
      go_wp2_with fail
      refine (rIsName_any x.sp _ (by omega)).mono ?_
      rintro e w4 ⟨rfl, rfl⟩
      go_wp2_with fail
      go_ret
      exact ⟨by rw [hc.out]; rfl, BB.out⟩
    have v1' : decide (x.vo < 0) = false := by simpa using v1
    by_cases v2 : 1125899906842624 < x.vo
    · have v2' : decide (1125899906842624 < x.vo) = true := by simpa using v2
      have hc := Lib.hid (HE.out.trans (show canU ls x u = 9 by rw [canU, if_neg (by omega), if_neg HNO.out, if_pos (.inr v2)]))
      clear t1 t2 t3 n2 v1 v2
      go_wp2_with fail
      refine (rIsName_any x.sp _ (by omega)).mono ?_
      rintro e w4 ⟨rfl, rfl⟩
      go_wp2_with fail
      go_ret
      exact ⟨by rw [hc.out]; rfl, BB.out⟩
    have v2' : decide (1125899906842624 < x.vo) = false := by simpa using v2
    have hvr := HVOL.out
    have hwr : IntKind.i64.wrap (volS ls x.pa + x.vo) = volS ls x.pa + x.vo := by rw [IntKind.wrap_i64]; omega

    by_cases f1 : 1024 ≤ ls.length
    · have f1' : decide ((1024 : Int) ≤ ls.length) = true := by simp; omega
      have hc := Lib.hid (HE.out.trans (show canU ls x u = 12 by rw [canU, if_neg (by omega), if_neg HNO.out, if_neg (by omega), if_neg (fun h => h.1 hpa.out), if_pos f1]))
      clear t1 t2 t3 n2 v1 v2 hvr f1
      go_wp2_with fail
      refine (rIsName_any x.sp _ (by omega)).mono ?_
      rintro e w4 ⟨rfl, rfl⟩
      go_wp2_with fail
      go_quiet (fail)
      go_wp2_with fail
      go_ret
      exact ⟨by rw [hc.out]; rfl, bD BB.out _⟩
    have f1' : decide ((1024 : Int) ≤ ls.length) = false := by simp; omega
    have hc := Lib.hid (HE.out.trans (show canU ls x u = 0 by rw [canU, if_neg (by omega), if_neg HNO.out, if_neg (by omega), if_neg (fun h => h.1 hpa.out), if_neg f1]))
    clear t1 t2 t3 n2 v1 v2 hvr f1
    go_wp2_with fail
    refine (rIsName_any x.sp _ (by omega)).mono ?_
    rintro e w4 ⟨rfl, rfl⟩
    go_wp2_with fail
    go_quiet (fail)
    go_wp2_with fail
    go_ret
    exact ⟨by rw [hc.out]; rfl, bD BB.out _⟩
  | false =>
    have hpa : Hid (x.pa ≠ emptyB) := Lib.hid (fun h => by have := HPA.out.1 h; simp at this)
    have HSA := Lib.hid (HS1.out.below (bA (Below.refl _ _) (.cells #[.string ⟨#[]⟩, .string ⟨#[]⟩, .int .i64 0, .int .i64 1125899906842624, .string x.sp, .int .u64 0] 44)))
    rcases upO_cases ls x with ⟨h1, _⟩ | ⟨_, h2, h3⟩ | ⟨k, u, _, h2, h3, h4⟩
    · exact absurd h1 hpa.out
    · have hc := Lib.hid (canE_none (ls := ls) HN.out (by omega) h3)
      have h2' : decide (atI ls x.pa < 0) = true := by simpa using h2
      clear h2 h3
      go_wp2_with fail
      refine (rat_any _ ls x.pa _ HSA.out).mono ?_
      rintro e w2 ⟨rfl, rfl⟩
      go_wp2_with fail
      go_ret
      exact ⟨by rw [hc.out]; rfl, bA BW1.out _⟩
    · have HUP := Lib.hid h4
      have HE := Lib.hid (canE_up (ls := ls) HN.out (by omega) HUP.out)
      obtain ⟨g, off, rfl, hkc, hkl, hgw, e0, e1, e2, e3, e4, e5⟩ := slice_cells HS1.out h3 rfl
      have g0 : ∀ ob, (w1.alloc ob).cell? ⟨g, off + k * 6, none⟩ = some (.string u.it) := fun ob => cell_up e0 hgw ob
      have g1 : ∀ ob, (w1.alloc ob).cell? ⟨g, off + k * 6 + 1, none⟩ = some (.string u.pa) := fun ob => cell_up e1 hgw ob
      have g2 : ∀ ob, (w1.alloc ob).cell? ⟨g, off + k * 6 + 2, none⟩ = some (.int .i64 u.t) := fun ob => cell_up e2 hgw ob
      have g3 : ∀ ob, (w1.alloc ob).cell? ⟨g, off + k * 6 + 3, none⟩ = some (.int .i64 u.vo) := fun ob => cell_up e3 hgw ob
      have g4 : ∀ ob, (w1.alloc ob).cell? ⟨g, off + k * 6 + 4, none⟩ = some (.string u.sp) := fun ob => cell_up e4 hgw ob
      have g5 : ∀ ob, (w1.alloc ob).cell? ⟨g, off + k * 6 + 5, none⟩ = some (.int .u64 u.ha) := fun ob => cell_up e5 hgw ob
      have H2 := Lib.hid h2
      clear h2 h3 h4 e0 e1 e2 e3 e4 e5 z0 z1 z2 z3 z5
      go_wp2_with fail
      refine (rat_any _ ls x.pa _ HSA.out).mono ?_
      rintro e w2 ⟨rfl, rfl⟩
      rw [H2.out]
      go_upto_region 12 with fail
      have UC : Hid ((w1.alloc (.cells #[.string u.it, .string u.pa, .int .i64 u.t, .int .i64 u.vo, .string u.sp, .int .u64 u.ha] 44)).heap[w1.heap.size]? = some (.cells #[.string u.it, .string u.pa, .int .i64 u.t, .int .i64 u.vo, .string u.sp, .int .u64 u.ha] 44 (0, 0))) := Lib.hid (heap_alloc_new w1 _)
      have B3 := Lib.hid (bA B1.out (.cells #[.string u.it, .string u.pa, .int .i64 u.t, .int .i64 u.vo, .string u.sp, .int .u64 u.ha] 44))
      clear g0 g1 g2 g3 g4 g5 zu1 z4 hkc hkl hgw
      generalize w1.alloc (.cells #[.string u.it, .string u.pa, .int .i64 u.t, .int .i64 u.vo, .string u.sp, .int .u64 u.ha] 44) = w3 at UC B3 ⊢
      obtain ⟨y0, y1, y2, y3, y4, y5, _⟩ := XC.out w3 B3.out
      obtain ⟨d0, d1, d2, d3, d4, d5, _⟩ := cells6 UC.out
      have BB : Hid (Below w.heap.size w w3) := Lib.hid (HW.out.trans (B3.out.mono HW.out.size))
      have HS3 := Lib.hid (HS.out.below BB.out)
      have HVOL := Lib.hid (HI.out.vol x.pa)
      have HV : Hid ((∀ (i : Nat) (x : Lk), ls[i]? = some x → 0 ≤ x.vo ∧ x.vo ≤ 1125899906842624) ∧ ls.length ≤ 1024) := Lib.hid ⟨fun i y hy => ⟨(HI.out.each i y hy).1, (HI.out.each i y hy).2.1⟩, HI.out.len⟩
      by_cases t1 : x.t < u.t
      · have t1' : decide (x.t < u.t) = true := by simpa using t1
        have hc := Lib.hid (HE.out.trans (show canU ls x u = 15 by rw [canU, if_pos (.inl t1)]))
        clear t1
        go_wp2_with fail
        go_ret
        exact ⟨by rw [hc.out]; rfl, BB.out⟩
      have t1' : decide (x.t < u.t) = false := by simpa using t1
      by_cases t2 : x.t < 0
      · have t2' : decide (x.t < 0) = true := by simpa using t2
        have hc := Lib.hid (HE.out.trans (show canU ls x u = 15 by rw [canU, if_pos (.inr (.inl t2))]))
        clear t1 t2
        go_wp2_with fail
        go_ret
        exact ⟨by rw [hc.out]; rfl, BB.out⟩
      have t2' : decide (x.t < 0) = false := by simpa using t2
      by_cases t3 : 10000000 < x.t
      · have t3' : decide (10000000 < x.t) = true := by simpa using t3
        have hc := Lib.hid (HE.out.trans (show canU ls x u = 15 by rw [canU, if_pos (.inr (.inr t3))]))
        clear t1 t2 t3
        go_wp2_with fail
        go_ret
        exact ⟨by rw [hc.out]; rfl, BB.out⟩
      have t3' : decide (10000000 < x.t) = false := by simpa using t3
      by_cases n1 : nameB x.sp.data.toList = true
      case neg =>
        have n1' : nameB x.sp.data.toList = false := by simpa using n1
        have hc := Lib.hid (HE.out.trans (show canU ls x u = 24 by rw [canU, if_neg (by omega), if_pos (.inl n1')]))
        clear t1 t2 t3 n1
        go_wp2_with fail
        refine (rIsName_any x.sp _ (by omega)).mono ?_
        rintro e w4 ⟨rfl, rfl⟩
        go_wp2_with fail
        go_ret
        exact ⟨by rw [hc.out]; rfl, BB.out⟩
      by_cases n2 : x.sp = u.sp
      case neg =>
        have n2' : (x.sp.toList == u.sp.toList) = false := by rw [str_eq]; simpa using n2
        have hc := Lib.hid (HE.out.trans (show canU ls x u = 24 by rw [canU, if_neg (by omega), if_pos (.inr n2)]))
        clear t1 t2 t3 n2
        go_wp2_with fail
        refine (rIsName_any x.sp _ (by omega)).mono ?_
        rintro e w4 ⟨rfl, rfl⟩
        go_wp2_with fail
        go_ret
        exact ⟨by rw [hc.out]; rfl, BB.out⟩
      have n2' : (x.sp.toList == u.sp.toList) = true := by rw [str_eq]; simpa using n2
      have HNO : Hid (¬ (nameB x.sp.data.toList = false ∨ x.sp ≠ u.sp)) := Lib.hid (by rintro (h | h); rw [n1] at h; cases h; exact h n2)
      by_cases v1 : x.vo < 0
      · have v1' : decide (x.vo < 0) = true := by simpa using v1
        have hc := Lib.hid (HE.out.trans (show canU ls x u = 9 by rw [canU, if_neg (by omega), if_neg HNO.out, if_pos (.inl v1)]))
        clear t1 t2 t3 n2 v1
        go_wp2_with fail
        refine (rIsName_any x.sp _ (by omega)).mono ?_
        rintro e w4 ⟨rfl, rfl⟩
        go_wp2_with fail
        go_ret
        exact ⟨by rw [hc.out]; rfl, BB.out⟩
      have v1' : decide (x.vo < 0) = false := by simpa using v1
      by_cases v2 : 1125899906842624 < x.vo
      · have v2' : decide (1125899906842624 < x.vo) = true := by simpa using v2
        have hc := Lib.hid (HE.out.trans (show canU ls x u = 9 by rw [canU, if_neg (by omega), if_neg HNO.out, if_pos (.inr v2)]))
        clear t1 t2 t3 n2 v1 v2
        go_wp2_with fail
        refine (rIsName_any x.sp _ (by omega)).mono ?_
        rintro e w4 ⟨rfl, rfl⟩
        go_wp2_with fail
        go_ret
        exact ⟨by rw [hc.out]; rfl, BB.out⟩
      have v2' : decide (1125899906842624 < x.vo) = false := by simpa using v2
      have hvr := HVOL.out
      have hwr : IntKind.i64.wrap (volS ls x.pa + x.vo) = volS ls x.pa + x.vo := by rw [IntKind.wrap_i64]; omega
      by_cases p1 : u.vo < volS ls x.pa + x.vo
      · have p1' : decide (u.vo < volS ls x.pa + x.vo) = true := by simpa using p1
        have hc := Lib.hid (HE.out.trans (show canU ls x u = 23 by rw [canU, if_neg (by omega), if_neg HNO.out, if_neg (by omega), if_pos ⟨hpa.out, p1⟩]))
        clear t1 t2 t3 n2 v1 v2 hvr p1
        go_wp2_with fail
        refine (rIsName_any x.sp _ (by omega)).mono ?_
        rintro e w4 ⟨rfl, rfl⟩
        go_wp2_with fail
        obtain ⟨ι, hne, f, i0, hi, hF, hCC⟩ := below_class w3
        have HH := Lib.hid hF
        have HC := Lib.hid hCC
        have e1 := fun n => (XC.out _ (bT B3.out (HH.out n))).2.1
        have e3 := fun n => (XC.out _ (bT B3.out (HH.out n))).2.2.2.1
        have u3 : ∀ n, (f n).cell? ⟨w1.heap.size, 3, none⟩ = some (.int .i64 u.vo) := fun n => ((HH.out n).cell (p := ⟨w1.heap.size, 3, none⟩) (Array.getElem?_eq_some_iff.1 UC.out).1).trans d3
        clear hF hCC y0 y1 y2 y3 y4 y5 d0 d1 d2 d3 d4 d5
        refine wp_region_class f i0 hi (by kernel_rfl) (by kernel_rfl) ?_
        repeat (first
          | go_big_quiet_step ((first
              | (go_at_call 44; exact class_call HC.out (rvol_any _ ls x.pa _ (HS3.out.below (HH.out _)) HV.out.1 HV.out.2)))))
        refine wpQuiet_nil ?_
        rintro _ ⟨nq, rfl⟩
        go_wp2_with fail
        go_ret
        exact ⟨by rw [hc.out]; rfl, bT BB.out (HH.out nq)⟩
      have p1' : decide (u.vo < volS ls x.pa + x.vo) = false := by simpa using p1
      by_cases f1 : 1024 ≤ ls.length
      · have f1' : decide ((1024 : Int) ≤ ls.length) = true := by simp; omega
        have hc := Lib.hid (HE.out.trans (show canU ls x u = 12 by rw [canU, if_neg (by omega), if_neg HNO.out, if_neg (by omega), if_neg (fun h => p1 h.2), if_pos f1]))
        clear t1 t2 t3 n2 v1 v2 hvr f1 p1
        go_wp2_with fail
        refine (rIsName_any x.sp _ (by omega)).mono ?_
        rintro e w4 ⟨rfl, rfl⟩
        go_wp2_with fail
        obtain ⟨ι, hne, f, i0, hi, hF, hCC⟩ := below_class w3
        have HH := Lib.hid hF
        have HC := Lib.hid hCC
        have e1 := fun n => (XC.out _ (bT B3.out (HH.out n))).2.1
        have e3 := fun n => (XC.out _ (bT B3.out (HH.out n))).2.2.2.1
        have u3 : ∀ n, (f n).cell? ⟨w1.heap.size, 3, none⟩ = some (.int .i64 u.vo) := fun n => ((HH.out n).cell (p := ⟨w1.heap.size, 3, none⟩) (Array.getElem?_eq_some_iff.1 UC.out).1).trans d3
        clear hF hCC y0 y1 y2 y3 y4 y5 d0 d1 d2 d3 d4 d5
        refine wp_region_class f i0 hi (by kernel_rfl) (by kernel_rfl) ?_
        repeat (first
          | go_big_quiet_step ((first
              | (go_at_call 44; exact class_call HC.out (rvol_any _ ls x.pa _ (HS3.out.below (HH.out _)) HV.out.1 HV.out.2)))))
        refine wpQuiet_nil ?_
        rintro _ ⟨nq, rfl⟩
        go_wp2_with fail
        go_ret
        exact ⟨by rw [hc.out]; rfl, bT BB.out (HH.out nq)⟩
      have f1' : decide ((1024 : Int) ≤ ls.length) = false := by simp; omega
      have hc := Lib.hid (HE.out.trans (show canU ls x u = 0 by rw [canU, if_neg (by omega), if_neg HNO.out, if_neg (by omega), if_neg (fun h => p1 h.2), if_neg f1]))
      clear t1 t2 t3 n2 v1 v2 hvr f1 p1
      go_wp2_with fail
      refine (rIsName_any x.sp _ (by omega)).mono ?_
      rintro e w4 ⟨rfl, rfl⟩
      go_wp2_with fail
      obtain ⟨ι, hne, f, i0, hi, hF, hCC⟩ := below_class w3
      have HH := Lib.hid hF
      have HC := Lib.hid hCC
      have e1 := fun n => (XC.out _ (bT B3.out (HH.out n))).2.1
      have e3 := fun n => (XC.out _ (bT B3.out (HH.out n))).2.2.2.1
      have u3 : ∀ n, (f n).cell? ⟨w1.heap.size, 3, none⟩ = some (.int .i64 u.vo) := fun n => ((HH.out n).cell (p := ⟨w1.heap.size, 3, none⟩) (Array.getElem?_eq_some_iff.1 UC.out).1).trans d3
      clear hF hCC y0 y1 y2 y3 y4 y5 d0 d1 d2 d3 d4 d5
      refine wp_region_class f i0 hi (by kernel_rfl) (by kernel_rfl) ?_
      repeat (first
        | go_big_quiet_step ((first
            | (go_at_call 44; exact class_call HC.out (rvol_any _ ls x.pa _ (HS3.out.below (HH.out _)) HV.out.1 HV.out.2)))))
      refine wpQuiet_nil ?_
      rintro _ ⟨nq, rfl⟩
      go_wp2_with fail
      go_ret
      exact ⟨by rw [hc.out]; rfl, bT BB.out (HH.out nq)⟩
end Go.Proofs.YtmgegffcgmcclaaDoor.Cu
