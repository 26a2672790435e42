/- custody: check, walked. -/
import Derived.Test.YtgonghmihghhnaaDoorCu2
import Derived.Deep.QuietTactic
import Derived.BigQuiet
import Derived.Deep.Cut
namespace Go.Proofs.YtgonghmihghhnaaDoor.Cu
open Go.RowKit Go.Proofs.YtgonghmihghhnaaDoor.Id Go.Maps

theorem str_eq {a b : ByteArray} : (a.toList == b.toList) = decide (a = b) := by
  rw [ByteArray.toList_eq, ByteArray.toList_eq, Bool.eq_iff_iff, beq_iff_eq, decide_eq_true_iff]
  constructor
  · intro h
    exact ByteArray.ext (Array.toList_inj.1 h)
  · intro h; rw [h]
theorem pa_empty (s : ByteArray) : s.toList.isEmpty = decide (s = emptyB) := by
  have h := @str_eq s emptyB
  rw [← h]
  have : emptyB.toList = [] := by rw [ByteArray.toList_eq]; rfl
  rw [this]
  cases s.toList <;> rfl
theorem CInv.hash {ls : List Lk} (h : CInv ls) {k : Nat} {u : Lk} (hu : ls[k]? = some u) : 0 ≤ u.ha ∧ u.ha < 18446744073709551616 := (h.each k u hu).2.2.2.2.2.2.2
def six (W : World) (g : Nat) (u : Lk) : World := (((((W.setCell ⟨g, 0, none⟩ (.string u.it)).setCell ⟨g, 1, none⟩ (.string u.pa)).setCell ⟨g, 2, none⟩ (.int .i64 u.t)).setCell ⟨g, 3, none⟩ (.int .i64 u.vo)).setCell ⟨g, 4, none⟩ (.string u.sp)).setCell ⟨g, 5, none⟩ (.int .u64 u.ha)
theorem six_row {W : World} {g : Nat} {a0 a1 a2 a3 a4 a5 : Value} {ty : TypeId} (h : W.heap[g]? = some (.cells #[a0, a1, a2, a3, a4, a5] ty (0, 0))) (u : Lk) : (six W g u).heap[g]? = some (.cells #[.string u.it, .string u.pa, .int .i64 u.t, .int .i64 u.vo, .string u.sp, .int .u64 u.ha] ty (0, 0)) := by
  have h0 := heap_setCell_same W g 0 _ ty (.string u.it) h
  have h1 := heap_setCell_same _ g 1 _ ty (.string u.pa) h0
  have h2 := heap_setCell_same _ g 2 _ ty (.int .i64 u.t) h1
  have h3 := heap_setCell_same _ g 3 _ ty (.int .i64 u.vo) h2
  have h4 := heap_setCell_same _ g 4 _ ty (.string u.sp) h3
  have h5 := heap_setCell_same _ g 5 _ ty (.int .u64 u.ha) h4
  exact h5
theorem six_keeps (W : World) (g : Nat) (u : Lk) : Keeps (fun k => k = g) W (six W g u) := by
  have e : ∀ (A : World) (j : Nat) (x : Value), Keeps (fun k => k = g) A (A.setCell ⟨g, j, none⟩ x) := fun A j x => Keeps.setCell (fun k => k = g) A (p := ⟨g, j, none⟩) rfl x
  exact (((((e _ 0 _).trans (e _ 1 _) (fun _ h => .inl h)).trans (e _ 2 _) (fun _ h => .inl h)).trans (e _ 3 _) (fun _ h => .inl h)).trans (e _ 4 _) (fun _ h => .inl h)).trans (e _ 5 _) (fun _ h => .inl h)
theorem six_below {n : Nat} {A W : World} {g : Nat} (h : Below n A W) (hg : n ≤ g) (u : Lk) (hs : n ≤ W.heap.size) : Below n A (six W g u) := h.trans ((six_keeps W g u).below (fun k e => by rw [e]; exact hg) hs)
set_option maxHeartbeats 16000000 in
set_option maxRecDepth 100000 in
set_option linter.all false in
theorem check_any (b : Nat) (F : Nat → Prop) (ls : List Lk) (x : Lk) (w : World) (hR : CReg w F b ls) (htab : Tab w) (q1 : x.it.size ≤ 1000) (q2 : x.pa.size ≤ 1000) (q3 : x.sp.size ≤ 1000) :
    Calls Tryd.prog 34 #[.pointer (some ⟨b, 0, none⟩), x.val] w fun e w' => e = .returned (.tuple #[.int .u64 (chkH ls x), .int .i64 (canE ls x)]) ∧ Below w.heap.size w w' := by
  have HR := Lib.hid hR
  have HT := Lib.hid htab
  have HW := Lib.hid (bA (Below.refl w.heap.size w) (.cells #[.string x.it, .string x.pa, .int .i64 x.t, .int .i64 x.vo, .string x.sp, .int .u64 x.ha] 36))
  have XC := Lib.hid (fun (W : World) (hW : Below (w.alloc (.cells #[.string x.it, .string x.pa, .int .i64 x.t, .int .i64 x.vo, .string x.sp, .int .u64 x.ha] 36)).heap.size (w.alloc (.cells #[.string x.it, .string x.pa, .int .i64 x.t, .int .i64 x.vo, .string x.sp, .int .u64 x.ha] 36)) W) => cells6 ((hW.block w.heap.size (by simp)).trans (heap_alloc_new w _)))
  unfold Lk.val
  clear htab hR
  go_enter Tryd.func34, Tryd.ntmps34
  go_wp2_with fail
  refine (Split_any x.it _ (by omega)).mono ?_
  rintro e w1 ⟨rfl, b1⟩
  obtain ⟨z0, z1, z2, z3, z4, z5, _⟩ := XC.out _ b1
  have B1 := Lib.hid b1
  have BW1 := Lib.hid (HW.out.trans (b1.mono HW.out.size))
  have HR1 := Lib.hid (HR.out.below BW1.out)
  clear b1
  by_cases s0 : splitE x.it.data.toList = 0
  case neg =>
    have hc := Lib.hid (canE_name (ls := ls) (x := x) (by simp [nameOk, s0]))
    have s0' : (splitE x.it.data.toList != 0) = true := by simpa using s0
    go_wp2_with fail
    go_ret2
    exact ⟨ret_chk hc.out (by decide), BW1.out⟩
  obtain ⟨kb, hkb⟩ : ∃ kb, (splitK x.it.data.toList == 80) = kb := ⟨_, rfl⟩
  obtain ⟨eb, heb⟩ : ∃ eb, x.pa.toList.isEmpty = eb := ⟨_, rfl⟩
  have hnm : nameOk x = (kb == eb) := by
    rw [pa_empty] at heb
    simp only [nameOk, s0, decide_true, Bool.true_and]
    rw [← hkb, ← heb]
    congr 1
  have HPA : Hid (x.pa = emptyB ↔ eb = true) := Lib.hid (by rw [pa_empty] at heb; rw [← heb]; simp)
  rw [s0]
  by_cases hm : kb = eb
  case neg =>
    have hc := Lib.hid (canE_name (ls := ls) (x := x) (by rw [hnm]; simpa using hm))
    have hm' : (kb == eb) = false := by simpa using hm
    clear hnm
    go_wp2_with fail
    go_ret2
    exact ⟨ret_chk hc.out (by decide), BW1.out⟩
  subst hm
  have HN : Hid (nameOk x = true) := Lib.hid (by rw [hnm]; simp)
  clear hnm
  obtain ⟨A1, k1, m1, m2, c0, c1, c2, hbw, LA0, hm1, _, hm2, LK⟩ := HR1.out.facts
  by_cases a0 : 0 ≤ atI ls x.it
  case pos =>
    have LA : ∀ n, (Instr.lookup 77 (.map (some m1)) (.string x.it) true).run Tryd.prog (w1.drewN n) = .ok (.tuple #[.int .i64 (atZ ls x.it), .bool true]) (w1.drewN n) := fun n => by
      rw [LA0 x.it (by unfold maxLen; omega) (w1.drewN n) rfl, decide_eq_true a0]
    have hc := Lib.hid (canE_exists (ls := ls) HN.out a0)
    clear LA0 LK
    go_wp2_with fail
    go_quiet (fail)
    go_wp2_with fail
    go_ret2
    exact ⟨ret_chk hc.out (by decide), bD BW1.out _⟩
  have LA : ∀ n, (Instr.lookup 77 (.map (some m1)) (.string x.it) true).run Tryd.prog (w1.drewN n) = .ok (.tuple #[.int .i64 (atZ ls x.it), .bool false]) (w1.drewN n) := fun n => by
    rw [LA0 x.it (by unfold maxLen; omega) (w1.drewN n) rfl, decide_eq_false a0]
  clear LA0 LK
  go_wp2_with fail
  go_quiet (fail)
  have B2 := Lib.hid (bD B1.out nq)
  have HR2 := Lib.hid (HR1.out.below (bD (Below.refl _ _) nq))
  clear c0 c1 c2 LA z0 z1 z2 z3 z4 z5 hbw hm1 hm2
  generalize w1.drewN nq = w2 at B2 HR2 ⊢
  obtain ⟨z0, z1, z2, z3, z4, z5, _⟩ := XC.out w2 B2.out
  have hw2 : w.heap.size < w2.heap.size := by have := B2.out.size; simp at this; omega
  have zu1 : ∀ ob, (w2.alloc ob).cell? ⟨w.heap.size, 1, none⟩ = some (.string x.pa) := fun ob => cell_up z1 hw2 ob
  cases kb with
  | true =>
    have hpa := Lib.hid (HPA.out.2 rfl)
    go_upto_region 13 with fail
    obtain ⟨u, hu⟩ : ∃ u : Lk, Hid (u = ⟨emptyB, emptyB, 0, 0, x.sp, 0⟩) := ⟨_, rfl⟩
    have HUP : Hid (upO ls x = some u) := by unfold Hid; rw [hu.out, upO, if_pos hpa.out]
    have UC : Hid ((w2.alloc (.cells #[.string ⟨#[]⟩, .string ⟨#[]⟩, .int .i64 0, .int .i64 0, .string x.sp, .int .u64 0] 36)).heap[w2.heap.size]? = some (.cells #[.string u.it, .string u.pa, .int .i64 u.t, .int .i64 u.vo, .string u.sp, .int .u64 u.ha] 36 (0, 0))) := by unfold Hid; rw [hu.out]; exact heap_alloc_new w2 _
    have HUH : Hid (0 ≤ u.ha ∧ u.ha < 18446744073709551616) := by unfold Hid; rw [hu.out]; exact ⟨Int.le_refl 0, by show (0 : Int) < 18446744073709551616; decide⟩
    have HE := Lib.hid (canE_up (ls := ls) HN.out (by omega) HUP.out)
    have B3 := Lib.hid (bA B2.out (.cells #[.string ⟨#[]⟩, .string ⟨#[]⟩, .int .i64 0, .int .i64 0, .string x.sp, .int .u64 0] 36))
    have HR3 := Lib.hid (HR2.out.below (bA (Below.refl _ _) (.cells #[.string ⟨#[]⟩, .string ⟨#[]⟩, .int .i64 0, .int .i64 0, .string x.sp, .int .u64 0] 36)))
    clear hu
    generalize w2.alloc (.cells #[.string ⟨#[]⟩, .string ⟨#[]⟩, .int .i64 0, .int .i64 0, .string x.sp, .int .u64 0] 36) = w3 at UC B3 HR3 ⊢
    clear z0 z1 z2 z3 z4 z5 zu1
    obtain ⟨y0, y1, y2, y3, y4, y5, _⟩ := XC.out w3 B3.out
    obtain ⟨d0, d1, d2, d3, d4, d5, _⟩ := cells6 UC.out
    obtain ⟨A3, k3, m3, m4, r0, r1, r2, rb, _, _, LU, rm, _⟩ := HR3.out.facts
    have LV : ∀ n, (Instr.lookup 77 (.map (some m4)) (.string x.pa) false).run Tryd.prog (w3.drewN n) = .ok (.int .i64 (volS ls x.pa)) (w3.drewN n) := fun n => LU x.pa (by unfold maxLen; omega) _ rfl
    have hlen : ∀ W, (Builtin.len_ #[33] 3 #[.slice A3 ls.length k3]).run Tryd.prog W = .ok (.int .i64 ls.length) W := fun W => by simp [Builtin.len_, run_underlying und_links]; rfl
    have BB : Hid (Below w.heap.size w w3) := Lib.hid (HW.out.trans (B3.out.mono HW.out.size))
    have HVOL := Lib.hid (HR3.out.inv.vol x.pa)
    clear LU
    by_cases t1 : x.t < u.t
    · have t1' : decide (x.t < u.t) = true := by simpa using t1
      have hc := Lib.hid (HE.out.trans (show canU ls x u = 15 by rw [canU, if_pos (.inl t1)]))
      clear t1
      go_wp2_with fail
      go_ret2
      exact ⟨ret_chk hc.out (by decide), BB.out⟩
    have t1' : decide (x.t < u.t) = false := by simpa using t1
    by_cases t2 : x.t < 0
    · have t2' : decide (x.t < 0) = true := by simpa using t2
      have hc := Lib.hid (HE.out.trans (show canU ls x u = 15 by rw [canU, if_pos (.inr (.inl t2))]))
      clear t1 t2
      go_wp2_with fail
      go_ret2
      exact ⟨ret_chk hc.out (by decide), BB.out⟩
    have t2' : decide (x.t < 0) = false := by simpa using t2
    by_cases t3 : 10000000 < x.t
    · have t3' : decide (10000000 < x.t) = true := by simpa using t3
      have hc := Lib.hid (HE.out.trans (show canU ls x u = 15 by rw [canU, if_pos (.inr (.inr t3))]))
      clear t1 t2 t3
      go_wp2_with fail
      go_ret2
      exact ⟨ret_chk hc.out (by decide), BB.out⟩
    have t3' : decide (10000000 < x.t) = false := by simpa using t3
    by_cases n1 : nameB x.sp.data.toList = true
    case neg =>
      have n1' : nameB x.sp.data.toList = false := by simpa using n1
      have hc := Lib.hid (HE.out.trans (show canU ls x u = 24 by rw [canU, if_neg (by omega), if_pos (.inl n1')]))
      clear t1 t2 t3 n1
      go_wp2_with fail
      refine (IsName_any x.sp _ (by omega)).mono ?_
      rintro e w4 ⟨rfl, rfl⟩
      go_wp2_with fail
      go_ret2
      exact ⟨ret_chk hc.out (by decide), BB.out⟩
    by_cases n2 : x.sp = u.sp
    case neg =>
      have n2' : (x.sp.toList == u.sp.toList) = false := by rw [str_eq]; simpa using n2
      have hc := Lib.hid (HE.out.trans (show canU ls x u = 24 by rw [canU, if_neg (by omega), if_pos (.inr n2)]))
      clear t1 t2 t3 n2
      go_wp2_with fail
      refine (IsName_any x.sp _ (by omega)).mono ?_
      rintro e w4 ⟨rfl, rfl⟩
      go_wp2_with fail
      go_ret2
      exact ⟨ret_chk hc.out (by decide), BB.out⟩
    have n2' : (x.sp.toList == u.sp.toList) = true := by rw [str_eq]; simpa using n2
    have HNO : Hid (¬ (nameB x.sp.data.toList = false ∨ x.sp ≠ u.sp)) := Lib.hid (by rintro (h | h); rw [n1] at h; cases h; exact h n2)
    by_cases v1 : x.vo < 0
    · have v1' : decide (x.vo < 0) = true := by simpa using v1
      have hc := Lib.hid (HE.out.trans (show canU ls x u = 9 by rw [canU, if_neg (by omega), if_neg HNO.out, if_pos (.inl v1)]))
      clear t1 t2 t3 n2 v1
      go_wp2_with fail
      refine (IsName_any x.sp _ (by omega)).mono ?_
      rintro e w4 ⟨rfl, rfl⟩
      go_wp2_with fail
      go_ret2
      exact ⟨ret_chk hc.out (by decide), BB.out⟩
    have v1' : decide (x.vo < 0) = false := by simpa using v1
    by_cases v2 : 1125899906842624 < x.vo
    · have v2' : decide (1125899906842624 < x.vo) = true := by simpa using v2
      have hc := Lib.hid (HE.out.trans (show canU ls x u = 9 by rw [canU, if_neg (by omega), if_neg HNO.out, if_pos (.inr v2)]))
      clear t1 t2 t3 n2 v1 v2
      go_wp2_with fail
      refine (IsName_any x.sp _ (by omega)).mono ?_
      rintro e w4 ⟨rfl, rfl⟩
      go_wp2_with fail
      go_ret2
      exact ⟨ret_chk hc.out (by decide), BB.out⟩
    have v2' : decide (1125899906842624 < x.vo) = false := by simpa using v2
    have hvr := HVOL.out
    have hwr : IntKind.i64.wrap (volS ls x.pa + x.vo) = volS ls x.pa + x.vo := by rw [IntKind.wrap_i64]; omega

    by_cases f1 : 1024 ≤ ls.length
    · have f1' : decide ((1024 : Int) ≤ ls.length) = true := by simp; omega
      have hc := Lib.hid (HE.out.trans (show canU ls x u = 12 by rw [canU, if_neg (by omega), if_neg HNO.out, if_neg (by omega), if_neg (fun h => h.1 hpa.out), if_pos f1]))
      clear t1 t2 t3 n2 v1 v2 hvr f1
      go_wp2_with fail
      refine (IsName_any x.sp _ (by omega)).mono ?_
      rintro e w4 ⟨rfl, rfl⟩
      go_wp2_with fail
      go_quiet (fail)
      go_wp2_with fail
      go_ret2
      exact ⟨ret_chk hc.out (by decide), bD BB.out _⟩
    have f1' : decide ((1024 : Int) ≤ ls.length) = false := by simp; omega
    have hc := Lib.hid (HE.out.trans (show canU ls x u = 0 by rw [canU, if_neg (by omega), if_neg HNO.out, if_neg (by omega), if_neg (fun h => h.1 hpa.out), if_neg f1]))
    have HTT : Hid ((-9223372036854775808 ≤ x.t ∧ x.t ≤ 9223372036854775807) ∧ (-9223372036854775808 ≤ x.vo ∧ x.vo ≤ 9223372036854775807)) := Lib.hid ⟨by omega, by omega⟩
    clear t1 t2 t3 n2 v1 v2 hvr f1
    go_wp2_with fail
    refine (IsName_any x.sp _ (by omega)).mono ?_
    rintro e w4 ⟨rfl, rfl⟩
    go_wp2_with fail
    go_quiet (fail)
    go_wp2_with fail
    refine (hash_any u.ha x _ (HT.out.on (bD BB.out _)) HUH.out.1 HUH.out.2 q1 q2 q3 HTT.out.1 HTT.out.2).mono ?_
    rintro e w5 ⟨rfl, b5⟩
    go_wp2_with fail
    go_ret2
    exact ⟨ret_chk0 hc.out HUP.out, (bD BB.out _).trans (b5.mono (bD BB.out _).size)⟩
  | false =>
    have hpa : Hid (x.pa ≠ emptyB) := Lib.hid (fun h => by have := HPA.out.1 h; simp at this)
    obtain ⟨A1, k1, m1, m2, c0, c1, c2, hbw, LA0, hm1, _, hm2, LK⟩ := HR2.out.facts
    have c0u : ∀ ob, (w2.alloc ob).cell? ⟨b, 0, none⟩ = some (.slice A1 ls.length k1) := fun ob => cell_up c0 hbw ob
    have c1u : ∀ ob, (w2.alloc ob).cell? ⟨b, 1, none⟩ = some (.map (some m1)) := fun ob => cell_up c1 hbw ob
    rcases upO_cases ls x with ⟨h1, _⟩ | ⟨_, h2, h3⟩ | ⟨k, u, _, h2, h3, h4⟩
    · exact absurd h1 hpa.out
    · have hc := Lib.hid (canE_none (ls := ls) HN.out (by omega) h3)
      have LB : ∀ ob n, (Instr.lookup 77 (.map (some m1)) (.string x.pa) true).run Tryd.prog ((w2.alloc ob).drewN n) = .ok (.tuple #[.int .i64 (atZ ls x.pa), .bool false]) ((w2.alloc ob).drewN n) := fun ob n => by
        rw [LA0 x.pa (by unfold maxLen; omega) ((w2.alloc ob).drewN n) (heap_alloc_old w2 ob hm1), decide_eq_false (by omega)]
      have BE := Lib.hid (HW.out.trans (B2.out.mono HW.out.size))
      clear LA0 LK h2 h3
      go_wp2_with fail
      go_quiet (fail)
      go_wp2_with fail
      go_ret2
      exact ⟨ret_chk hc.out (by decide), bD (bA BE.out _) _⟩
    · have LB : ∀ ob n, (Instr.lookup 77 (.map (some m1)) (.string x.pa) true).run Tryd.prog ((w2.alloc ob).drewN n) = .ok (.tuple #[.int .i64 k, .bool true]) ((w2.alloc ob).drewN n) := fun ob n => by
        rw [LA0 x.pa (by unfold maxLen; omega) ((w2.alloc ob).drewN n) (heap_alloc_old w2 ob hm1), decide_eq_true (by omega)]
        rw [atZ, if_pos (by omega), h2]
      have HUP := Lib.hid h4
      have HUH := Lib.hid (HR2.out.inv.hash h3)
      have HE := Lib.hid (canE_up (ls := ls) HN.out (by omega) HUP.out)
      have hk16 := HR2.out.inv.len
      obtain ⟨g, rfl, hgw, hkl, hkc, e0, e1, e2, e3, e4, e5⟩ := LK k u h3
      have g0 : ∀ ob, (w2.alloc ob).cell? ⟨g, k * 6, none⟩ = some (.string u.it) := fun ob => cell_up e0 hgw ob
      have g1 : ∀ ob, (w2.alloc ob).cell? ⟨g, k * 6 + 1, none⟩ = some (.string u.pa) := fun ob => cell_up e1 hgw ob
      have g2 : ∀ ob, (w2.alloc ob).cell? ⟨g, k * 6 + 2, none⟩ = some (.int .i64 u.t) := fun ob => cell_up e2 hgw ob
      have g3 : ∀ ob, (w2.alloc ob).cell? ⟨g, k * 6 + 3, none⟩ = some (.int .i64 u.vo) := fun ob => cell_up e3 hgw ob
      have g4 : ∀ ob, (w2.alloc ob).cell? ⟨g, k * 6 + 4, none⟩ = some (.string u.sp) := fun ob => cell_up e4 hgw ob
      have g5 : ∀ ob, (w2.alloc ob).cell? ⟨g, k * 6 + 5, none⟩ = some (.int .u64 u.ha) := fun ob => cell_up e5 hgw ob
      clear LA0 LK h2 h3 h4 e0 e1 e2 e3 e4 e5 z0 z1 z2 z3 z5
      go_wp2_with fail
      go_quiet (fail)
      go_upto_region 13 with fail
      have b2' := bD (bA (Below.refl w2.heap.size w2) (.cells #[.string ⟨#[]⟩, .string ⟨#[]⟩, .int .i64 0, .int .i64 0, .string x.sp, .int .u64 0] 36)) nq
      have UC : Hid ((six ((w2.alloc (.cells #[.string ⟨#[]⟩, .string ⟨#[]⟩, .int .i64 0, .int .i64 0, .string x.sp, .int .u64 0] 36)).drewN nq) w2.heap.size u).heap[w2.heap.size]? = some (.cells #[.string u.it, .string u.pa, .int .i64 u.t, .int .i64 u.vo, .string u.sp, .int .u64 u.ha] 36 (0, 0))) := six_row (heap_alloc_new w2 _) u
      have B3 := Lib.hid (six_below (bD (bA B2.out (.cells #[.string ⟨#[]⟩, .string ⟨#[]⟩, .int .i64 0, .int .i64 0, .string x.sp, .int .u64 0] 36)) nq) (g := w2.heap.size) B2.out.size u (Nat.le_trans B2.out.size b2'.size))
      have HR3 := Lib.hid (HR2.out.below (six_below b2' (Nat.le_refl _) u b2'.size))
      clear g0 g1 g2 g3 g4 g5 c0u c1u LB zu1 z4 hkc hkl hgw b2'
      change Code.wp _ _ _ _ (six ((w2.alloc (.cells #[.string ⟨#[]⟩, .string ⟨#[]⟩, .int .i64 0, .int .i64 0, .string x.sp, .int .u64 0] 36)).drewN nq) w2.heap.size u)
      generalize six ((w2.alloc (.cells #[.string ⟨#[]⟩, .string ⟨#[]⟩, .int .i64 0, .int .i64 0, .string x.sp, .int .u64 0] 36)).drewN nq) w2.heap.size u = w3 at UC B3 HR3 ⊢
      obtain ⟨y0, y1, y2, y3, y4, y5, _⟩ := XC.out w3 B3.out
      obtain ⟨d0, d1, d2, d3, d4, d5, _⟩ := cells6 UC.out
      obtain ⟨A3, k3, m3, m4, r0, r1, r2, rb, _, _, LU, rm, _⟩ := HR3.out.facts
      have LV : ∀ n, (Instr.lookup 77 (.map (some m4)) (.string x.pa) false).run Tryd.prog (w3.drewN n) = .ok (.int .i64 (volS ls x.pa)) (w3.drewN n) := fun n => LU x.pa (by unfold maxLen; omega) _ rfl
      have hlen : ∀ W, (Builtin.len_ #[33] 3 #[.slice A3 ls.length k3]).run Tryd.prog W = .ok (.int .i64 ls.length) W := fun W => by simp [Builtin.len_, run_underlying und_links]; rfl
      have BB : Hid (Below w.heap.size w w3) := Lib.hid (HW.out.trans (B3.out.mono HW.out.size))
      have HVOL := Lib.hid (HR3.out.inv.vol x.pa)
      clear LU
      by_cases t1 : x.t < u.t
      · have t1' : decide (x.t < u.t) = true := by simpa using t1
        have hc := Lib.hid (HE.out.trans (show canU ls x u = 15 by rw [canU, if_pos (.inl t1)]))
        clear t1
        go_wp2_with fail
        go_ret2
        exact ⟨ret_chk hc.out (by decide), BB.out⟩
      have t1' : decide (x.t < u.t) = false := by simpa using t1
      by_cases t2 : x.t < 0
      · have t2' : decide (x.t < 0) = true := by simpa using t2
        have hc := Lib.hid (HE.out.trans (show canU ls x u = 15 by rw [canU, if_pos (.inr (.inl t2))]))
        clear t1 t2
        go_wp2_with fail
        go_ret2
        exact ⟨ret_chk hc.out (by decide), BB.out⟩
      have t2' : decide (x.t < 0) = false := by simpa using t2
      by_cases t3 : 10000000 < x.t
      · have t3' : decide (10000000 < x.t) = true := by simpa using t3
        have hc := Lib.hid (HE.out.trans (show canU ls x u = 15 by rw [canU, if_pos (.inr (.inr t3))]))
        clear t1 t2 t3
        go_wp2_with fail
        go_ret2
        exact ⟨ret_chk hc.out (by decide), BB.out⟩
      have t3' : decide (10000000 < x.t) = false := by simpa using t3
      by_cases n1 : nameB x.sp.data.toList = true
      case neg =>
        have n1' : nameB x.sp.data.toList = false := by simpa using n1
        have hc := Lib.hid (HE.out.trans (show canU ls x u = 24 by rw [canU, if_neg (by omega), if_pos (.inl n1')]))
        clear t1 t2 t3 n1
        go_wp2_with fail
        refine (IsName_any x.sp _ (by omega)).mono ?_
        rintro e w4 ⟨rfl, rfl⟩
        go_wp2_with fail
        go_ret2
        exact ⟨ret_chk hc.out (by decide), BB.out⟩
      by_cases n2 : x.sp = u.sp
      case neg =>
        have n2' : (x.sp.toList == u.sp.toList) = false := by rw [str_eq]; simpa using n2
        have hc := Lib.hid (HE.out.trans (show canU ls x u = 24 by rw [canU, if_neg (by omega), if_pos (.inr n2)]))
        clear t1 t2 t3 n2
        go_wp2_with fail
        refine (IsName_any x.sp _ (by omega)).mono ?_
        rintro e w4 ⟨rfl, rfl⟩
        go_wp2_with fail
        go_ret2
        exact ⟨ret_chk hc.out (by decide), BB.out⟩
      have n2' : (x.sp.toList == u.sp.toList) = true := by rw [str_eq]; simpa using n2
      have HNO : Hid (¬ (nameB x.sp.data.toList = false ∨ x.sp ≠ u.sp)) := Lib.hid (by rintro (h | h); rw [n1] at h; cases h; exact h n2)
      by_cases v1 : x.vo < 0
      · have v1' : decide (x.vo < 0) = true := by simpa using v1
        have hc := Lib.hid (HE.out.trans (show canU ls x u = 9 by rw [canU, if_neg (by omega), if_neg HNO.out, if_pos (.inl v1)]))
        clear t1 t2 t3 n2 v1
        go_wp2_with fail
        refine (IsName_any x.sp _ (by omega)).mono ?_
        rintro e w4 ⟨rfl, rfl⟩
        go_wp2_with fail
        go_ret2
        exact ⟨ret_chk hc.out (by decide), BB.out⟩
      have v1' : decide (x.vo < 0) = false := by simpa using v1
      by_cases v2 : 1125899906842624 < x.vo
      · have v2' : decide (1125899906842624 < x.vo) = true := by simpa using v2
        have hc := Lib.hid (HE.out.trans (show canU ls x u = 9 by rw [canU, if_neg (by omega), if_neg HNO.out, if_pos (.inr v2)]))
        clear t1 t2 t3 n2 v1 v2
        go_wp2_with fail
        refine (IsName_any x.sp _ (by omega)).mono ?_
        rintro e w4 ⟨rfl, rfl⟩
        go_wp2_with fail
        go_ret2
        exact ⟨ret_chk hc.out (by decide), BB.out⟩
      have v2' : decide (1125899906842624 < x.vo) = false := by simpa using v2
      have hvr := HVOL.out
      have hwr : IntKind.i64.wrap (volS ls x.pa + x.vo) = volS ls x.pa + x.vo := by rw [IntKind.wrap_i64]; omega
      by_cases p1 : u.vo < volS ls x.pa + x.vo
      · have p1' : decide (u.vo < volS ls x.pa + x.vo) = true := by simpa using p1
        have hc := Lib.hid (HE.out.trans (show canU ls x u = 23 by rw [canU, if_neg (by omega), if_neg HNO.out, if_neg (by omega), if_pos ⟨hpa.out, p1⟩]))
        clear t1 t2 t3 n2 v1 v2 hvr p1
        go_wp2_with fail
        refine (IsName_any x.sp _ (by omega)).mono ?_
        rintro e w4 ⟨rfl, rfl⟩
        go_wp2_with fail
        go_quiet (fail)
        go_wp2_with fail
        go_ret2
        exact ⟨ret_chk hc.out (by decide), bD BB.out _⟩
      have p1' : decide (u.vo < volS ls x.pa + x.vo) = false := by simpa using p1
      by_cases f1 : 1024 ≤ ls.length
      · have f1' : decide ((1024 : Int) ≤ ls.length) = true := by simp; omega
        have hc := Lib.hid (HE.out.trans (show canU ls x u = 12 by rw [canU, if_neg (by omega), if_neg HNO.out, if_neg (by omega), if_neg (fun h => p1 h.2), if_pos f1]))
        clear t1 t2 t3 n2 v1 v2 hvr f1 p1
        go_wp2_with fail
        refine (IsName_any x.sp _ (by omega)).mono ?_
        rintro e w4 ⟨rfl, rfl⟩
        go_wp2_with fail
        go_quiet (fail)
        go_wp2_with fail
        go_ret2
        exact ⟨ret_chk hc.out (by decide), bD BB.out _⟩
      have f1' : decide ((1024 : Int) ≤ ls.length) = false := by simp; omega
      have hc := Lib.hid (HE.out.trans (show canU ls x u = 0 by rw [canU, if_neg (by omega), if_neg HNO.out, if_neg (by omega), if_neg (fun h => p1 h.2), if_neg f1]))
      have HTT : Hid ((-9223372036854775808 ≤ x.t ∧ x.t ≤ 9223372036854775807) ∧ (-9223372036854775808 ≤ x.vo ∧ x.vo ≤ 9223372036854775807)) := Lib.hid ⟨by omega, by omega⟩
      clear t1 t2 t3 n2 v1 v2 hvr f1 p1
      go_wp2_with fail
      refine (IsName_any x.sp _ (by omega)).mono ?_
      rintro e w4 ⟨rfl, rfl⟩
      go_wp2_with fail
      go_quiet (fail)
      go_wp2_with fail
      refine (hash_any u.ha x _ (HT.out.on (bD BB.out _)) HUH.out.1 HUH.out.2 q1 q2 q3 HTT.out.1 HTT.out.2).mono ?_
      rintro e w5 ⟨rfl, b5⟩
      go_wp2_with fail
      go_ret2
      exact ⟨ret_chk0 hc.out HUP.out, (bD BB.out _).trans (b5.mono (bD BB.out _).size)⟩
end Go.Proofs.YtgonghmihghhnaaDoor.Cu
