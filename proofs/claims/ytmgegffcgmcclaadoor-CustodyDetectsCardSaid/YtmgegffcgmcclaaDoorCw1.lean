/- the law CustodyDetects: changed, walked. -/
import Derived.Test.YtmgegffcgmcclaaDoorCw0
import Derived.Test.YtmgegffcgmcclaaDoorRh12
namespace Go.Proofs.YtmgegffcgmcclaaDoor.Cu
open Go.RowKit Go.Proofs.YtmgegffcgmcclaaDoor.Id Go.Maps

theorem results_lk {fn : Func} {a g : Nat} {tmps : Array Value} {W : World} {u : Lk} (h : fn.results = #[.cell a 44]) (ha : tmps.getD a undef = .pointer (some ⟨g, 0, none⟩)) (hw : W.heap[g]? = some (.cells #[.string u.it, .string u.pa, .int .i64 u.t, .int .i64 u.vo, .string u.sp, .int .u64 u.ha] 44 (0, 0))) :
    (results fn tmps).run Tryd.prog W = .ok u.val W := by
  obtain ⟨q0, q1, q2, q3, q4, q5, _⟩ := cells6 hw
  have hl : (loadVar 44 ⟨g, 0, none⟩).run Tryd.prog W = .ok u.val W := by
    simp [loadVar, go_sem, q0, q1, q2, q3, q4, q5, Lk.val]
  simp only [Array.getD_eq_getD_getElem?] at ha
  simp [results, h, hl, ha, asAddr]
theorem boxes3 {w w1 : World} {a b c : Obj} (h : Below (((w.alloc a).alloc b).alloc c).heap.size (((w.alloc a).alloc b).alloc c) w1) :
    w1.heap[w.heap.size]? = some a ∧ w1.heap[w.heap.size + 1]? = some b ∧ w1.heap[w.heap.size + 1 + 1]? = some c ∧ w.heap.size + 1 + 1 < w1.heap.size ∧ Below w.heap.size w w1 := by
  have h1 : (w.alloc a).heap.size = w.heap.size + 1 := by simp only [World.alloc, Array.size_push]
  have h2 : ((w.alloc a).alloc b).heap.size = w.heap.size + 1 + 1 := by simp only [World.alloc, Array.size_push]
  have h3 : (((w.alloc a).alloc b).alloc c).heap.size = w.heap.size + 1 + 1 + 1 := by simp only [World.alloc, Array.size_push]
  have hs := h.size
  have eb := heap_alloc_new (w.alloc a) b
  rw [h1] at eb
  have ec := heap_alloc_new ((w.alloc a).alloc b) c
  rw [h2] at ec
  refine ⟨?_, ?_, ?_, by omega, bT (bA (bA (bA (Below.refl _ _) _) _) _) h⟩
  · exact (h.block _ (by omega)).trans ((heap_alloc_old _ c (by omega)).trans ((heap_alloc_old _ b (by omega)).trans (heap_alloc_new w a)))
  · exact (h.block _ (by omega)).trans ((heap_alloc_old _ c (by omega)).trans eb)
  · exact (h.block _ (by omega)).trans ec
theorem cells8 {w1 : World} {g : Nat} {v1 v2 v3 v4 v5 v6 v7 v8 : Value} {t : TypeId} (h : w1.heap[g]? = some (.cells #[v1, v2, v3, v4, v5, v6, v7, v8] t (0, 0))) : w1.cell? ⟨g, 0, none⟩ = some v1 ∧ w1.cell? ⟨g, 1, none⟩ = some v2 ∧ w1.cell? ⟨g, 2, none⟩ = some v3 ∧ w1.cell? ⟨g, 3, none⟩ = some v4 ∧ w1.cell? ⟨g, 4, none⟩ = some v5 ∧ w1.cell? ⟨g, 5, none⟩ = some v6 ∧ w1.cell? ⟨g, 6, none⟩ = some v7 ∧ w1.cell? ⟨g, 7, none⟩ = some v8 :=
  ⟨by rw [cell_of_row _ _ _ _ _ _ h]; rfl, by rw [cell_of_row _ _ _ _ _ _ h]; rfl, by rw [cell_of_row _ _ _ _ _ _ h]; rfl, by rw [cell_of_row _ _ _ _ _ _ h]; rfl, by rw [cell_of_row _ _ _ _ _ _ h]; rfl, by rw [cell_of_row _ _ _ _ _ _ h]; rfl, by rw [cell_of_row _ _ _ _ _ _ h]; rfl, by rw [cell_of_row _ _ _ _ _ _ h]; rfl⟩
set_option maxHeartbeats 4000000 in
set_option maxRecDepth 100000 in
set_option linter.all false in
theorem changed_any (x : Lk) (z : Chg) (w : World) :
    Calls Tryd.prog 22 #[x.val, z.val] w fun e w' => e = .returned (chgL x z.fi z.to).val ∧ Below w.heap.size w w' := by
  have hres := Lib.hid (show Tryd.f22.results = #[.cell 4 44] from rfl)
  unfold Lk.val Chg.val
  go_enter Tryd.func22, Tryd.ntmps22
  go_upto_region 1 with fail
  obtain ⟨R0, R1, R2, hlt, hb⟩ := boxes3 (Below.refl (((w.alloc (.cells #[.string x.it, .string x.pa, .int .i64 x.t, .int .i64 x.vo, .string x.sp, .int .u64 x.ha] 44)).alloc (.cells #[.int .u8 z.at_, .int .u8 z.fi, .string z.to.it, .string z.to.pa, .int .i64 z.to.t, .int .i64 z.to.vo, .string z.to.sp, .int .u64 z.to.ha] 46)).alloc (.cells #[.string ⟨#[]⟩, .string ⟨#[]⟩, .int .i64 0, .int .i64 0, .string ⟨#[]⟩, .int .u64 0] 44)).heap.size (((w.alloc (.cells #[.string x.it, .string x.pa, .int .i64 x.t, .int .i64 x.vo, .string x.sp, .int .u64 x.ha] 44)).alloc (.cells #[.int .u8 z.at_, .int .u8 z.fi, .string z.to.it, .string z.to.pa, .int .i64 z.to.t, .int .i64 z.to.vo, .string z.to.sp, .int .u64 z.to.ha] 46)).alloc (.cells #[.string ⟨#[]⟩, .string ⟨#[]⟩, .int .i64 0, .int .i64 0, .string ⟨#[]⟩, .int .u64 0] 44)))
  generalize (((w.alloc (.cells #[.string x.it, .string x.pa, .int .i64 x.t, .int .i64 x.vo, .string x.sp, .int .u64 x.ha] 44)).alloc (.cells #[.int .u8 z.at_, .int .u8 z.fi, .string z.to.it, .string z.to.pa, .int .i64 z.to.t, .int .i64 z.to.vo, .string z.to.sp, .int .u64 z.to.ha] 46)).alloc (.cells #[.string ⟨#[]⟩, .string ⟨#[]⟩, .int .i64 0, .int .i64 0, .string ⟨#[]⟩, .int .u64 0] 44)) = W0 at R0 R1 R2 hlt hb ⊢
  have HR0 := Lib.hid R0
  have HR2 := Lib.hid R2
  have HB := Lib.hid hb
  have HLT := Lib.hid hlt
  obtain ⟨x0, x1, x2, x3, x4, x5, x6⟩ := cells6 R0
  obtain ⟨z0, z1, z2, z3, z4, z5, z6⟩ := cells6 R2
  obtain ⟨c0, c1, c2, c3, c4, c5, c6, c7⟩ := cells8 R1
  clear R0 R1 R2 hlt hb
  by_cases f0 : z.fi = 0
  · have f0' : (z.fi == 0) = true := by simpa using f0
    have hy : Hid (chgL x z.fi z.to = { x with it := z.to.it }) := Lib.hid (by simp [chgL, f0])
    clear f0
    go_wp2_with fail
    have HF := six_row ((heap_setCell_other W0 ⟨w.heap.size, 0, none⟩ (w.heap.size + 1 + 1) (.string z.to.it) (fun e => by have e' : w.heap.size + 1 + 1 = w.heap.size := e; omega)).trans HR2.out) ({ x with it := z.to.it } : Lk)
    refine bodyPost_ret (results_lk (u := { x with it := z.to.it }) hres.out rfl HF) rfl ⟨by rw [hy.out]; rfl, ?_⟩
    exact six_below (below_set HB.out (Nat.le_refl _) HB.out.size) (by omega) ({ x with it := z.to.it } : Lk) (by have := HB.out.size; simpa [World.setCell] using this)
  have f0' : (z.fi == 0) = false := by simpa using f0
  by_cases f1 : z.fi = 1
  · have f1' : (z.fi == 1) = true := by simpa using f1
    have hy : Hid (chgL x z.fi z.to = { x with pa := z.to.pa }) := Lib.hid (by simp [chgL, f1])
    clear f1 f0
    go_wp2_with fail
    have HF := six_row ((heap_setCell_other W0 ⟨w.heap.size, 1, none⟩ (w.heap.size + 1 + 1) (.string z.to.pa) (fun e => by have e' : w.heap.size + 1 + 1 = w.heap.size := e; omega)).trans HR2.out) ({ x with pa := z.to.pa } : Lk)
    refine bodyPost_ret (results_lk (u := { x with pa := z.to.pa }) hres.out rfl HF) rfl ⟨by rw [hy.out]; rfl, ?_⟩
    exact six_below (below_set HB.out (Nat.le_refl _) HB.out.size) (by omega) ({ x with pa := z.to.pa } : Lk) (by have := HB.out.size; simpa [World.setCell] using this)
  have f1' : (z.fi == 1) = false := by simpa using f1
  by_cases f2 : z.fi = 2
  · have f2' : (z.fi == 2) = true := by simpa using f2
    have hy : Hid (chgL x z.fi z.to = { x with sp := z.to.sp }) := Lib.hid (by simp [chgL, f2])
    clear f2 f0 f1
    go_wp2_with fail
    have HF := six_row ((heap_setCell_other W0 ⟨w.heap.size, 4, none⟩ (w.heap.size + 1 + 1) (.string z.to.sp) (fun e => by have e' : w.heap.size + 1 + 1 = w.heap.size := e; omega)).trans HR2.out) ({ x with sp := z.to.sp } : Lk)
    refine bodyPost_ret (results_lk (u := { x with sp := z.to.sp }) hres.out rfl HF) rfl ⟨by rw [hy.out]; rfl, ?_⟩
    exact six_below (below_set HB.out (Nat.le_refl _) HB.out.size) (by omega) ({ x with sp := z.to.sp } : Lk) (by have := HB.out.size; simpa [World.setCell] using this)
  have f2' : (z.fi == 2) = false := by simpa using f2
  by_cases f3 : z.fi = 3
  · have f3' : (z.fi == 3) = true := by simpa using f3
    have hy : Hid (chgL x z.fi z.to = { x with t := z.to.t }) := Lib.hid (by simp [chgL, f3])
    clear f3 f0 f1 f2
    go_wp2_with fail
    have HF := six_row ((heap_setCell_other W0 ⟨w.heap.size, 2, none⟩ (w.heap.size + 1 + 1) (.int .i64 z.to.t) (fun e => by have e' : w.heap.size + 1 + 1 = w.heap.size := e; omega)).trans HR2.out) ({ x with t := z.to.t } : Lk)
    refine bodyPost_ret (results_lk (u := { x with t := z.to.t }) hres.out rfl HF) rfl ⟨by rw [hy.out]; rfl, ?_⟩
    exact six_below (below_set HB.out (Nat.le_refl _) HB.out.size) (by omega) ({ x with t := z.to.t } : Lk) (by have := HB.out.size; simpa [World.setCell] using this)
  have f3' : (z.fi == 3) = false := by simpa using f3
  by_cases f4 : z.fi = 4
  · have f4' : (z.fi == 4) = true := by simpa using f4
    have hy : Hid (chgL x z.fi z.to = { x with vo := z.to.vo }) := Lib.hid (by simp [chgL, f4])
    clear f4 f0 f1 f2 f3
    go_wp2_with fail
    have HF := six_row ((heap_setCell_other W0 ⟨w.heap.size, 3, none⟩ (w.heap.size + 1 + 1) (.int .i64 z.to.vo) (fun e => by have e' : w.heap.size + 1 + 1 = w.heap.size := e; omega)).trans HR2.out) ({ x with vo := z.to.vo } : Lk)
    refine bodyPost_ret (results_lk (u := { x with vo := z.to.vo }) hres.out rfl HF) rfl ⟨by rw [hy.out]; rfl, ?_⟩
    exact six_below (below_set HB.out (Nat.le_refl _) HB.out.size) (by omega) ({ x with vo := z.to.vo } : Lk) (by have := HB.out.size; simpa [World.setCell] using this)
  have f4' : (z.fi == 4) = false := by simpa using f4
  have hy : Hid (chgL x z.fi z.to = { x with ha := z.to.ha }) := Lib.hid (by simp [chgL, f0, f1, f2, f3, f4])
  clear f0 f1 f2 f3 f4
  go_wp2_with fail
  have HF := six_row ((heap_setCell_other W0 ⟨w.heap.size, 5, none⟩ (w.heap.size + 1 + 1) (.int .u64 z.to.ha) (fun e => by have e' : w.heap.size + 1 + 1 = w.heap.size := e; omega)).trans HR2.out) ({ x with ha := z.to.ha } : Lk)
  refine bodyPost_ret (results_lk (u := { x with ha := z.to.ha }) hres.out rfl HF) rfl ⟨by rw [hy.out]; rfl, ?_⟩
  exact six_below (below_set HB.out (Nat.le_refl _) HB.out.size) (by omega) ({ x with ha := z.to.ha } : Lk) (by have := HB.out.size; simpa [World.setCell] using this)
end Go.Proofs.YtmgegffcgmcclaaDoor.Cu
