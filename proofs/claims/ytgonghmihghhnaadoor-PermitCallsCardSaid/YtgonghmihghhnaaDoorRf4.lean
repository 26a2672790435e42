/- the reference of permits: Add, walked. -/
import Derived.Test.YtgonghmihghhnaaDoorRf3
import Derived.Test.YtgonghmihghhnaaDoorPe5
namespace Go.Proofs.YtgonghmihghhnaaDoor.Pe
open Go.RowKit Go.Proofs.YtgonghmihghhnaaDoor.Id

theorem ret_ai {u v : Value} {x y : Int} (h : x = y) : Ending.returned (.tuple #[.agg #[u, v], .int .i64 x]) = .returned (.tuple #[.agg #[u, v], .int .i64 y]) := by rw [h]
theorem own_shape {W : World} {base : Nat} {e : TypeId} {sz n : Nat} {v : Value} {xs : List Value} (h : W.ownsRow base e sz v n xs) : ∃ A c, v = .slice A n c := by
  rcases h.2 with ⟨rfl, rfl⟩ | ⟨g, c, _, rfl, _⟩
  · exact ⟨_, _, rfl⟩
  · exact ⟨_, c, rfl⟩
theorem heap_new' {W : World} {n : Nat} (h : W.heap.size = n) (o : Obj) : (W.alloc o).heap[n]? = some o := h ▸ heap_alloc_new W o
theorem size_set (W : World) (p : Addr) (u : Value) : (W.setCell p u).heap.size = W.heap.size := by simp [World.setCell]
/-- the blocks that the reference's Add has made -/
structure Sta (w W : World) (H9 : Nat) (S1 S2 : Value) (p : Perm) (a b : Value) : Prop where
  below : Below w.heap.size w W
  r0 : W.heap[w.heap.size]? = some (.cells #[S1, S2] 48 (0, 0))
  r1 : W.heap[w.heap.size + 1]? = some (.cells #[.string p.pid, .string p.psp, .int .i64 p.pfr, .int .i64 p.pun, .int .i64 p.pqu] 50 (0, 0))
  r2 : W.heap[w.heap.size + 2]? = some (.cells #[.slice none 0 0, .slice none 0 0] 48 (0, 0))
  r9 : W.heap[H9]? = some (.cells #[a, b] 48 (0, 0))
  lt : w.heap.size + 3 ≤ H9
section
variable {w W W1 W' : World} {H9 : Nat} {S1 S2 a b : Value} {p : Perm}
theorem Sta.keep (h : Sta w W H9 S1 S2 p a b) (hb : Below w.heap.size w W') (hk : ∀ k, k ≤ H9 → k < W.heap.size → W'.heap[k]? = W.heap[k]?) : Sta w W' H9 S1 S2 p a b := by
  have l9 := (Array.getElem?_eq_some_iff.1 h.r9).1
  have lt := h.lt
  exact ⟨hb, (hk _ (by omega) (by omega)).trans h.r0, (hk _ (by omega) (by omega)).trans h.r1, (hk _ (by omega) (by omega)).trans h.r2, (hk _ (by omega) (by omega)).trans h.r9, lt⟩
theorem Sta.grown (h : Sta w W H9 S1 S2 p a b) (hb : Below W.heap.size W W1) {row : Option Nat} (g : W1.grownBy W' row) (hr : ∀ k, row = some k → H9 < k) : Sta w W' H9 S1 S2 p a b := by
  have s0 := h.below.size
  have s1 := hb.size
  have lt := h.lt
  refine h.keep ((bT h.below hb).trans ⟨g.os, g.tape, g.output, by have := g.size; omega, fun k hk => g.block k (by omega) (fun e => by have := hr k e.symm; omega)⟩) (fun k hk hlt => ?_)
  exact (g.block k (by omega) (fun e => by have := hr k e.symm; omega)).trans (hb.block k hlt)
theorem Sta.put0 (h : Sta w W H9 S1 S2 p a b) (u : Value) : Sta w (W.setCell ⟨H9, 0, none⟩ u) H9 S1 S2 p u b := by
  have lt := h.lt
  have o : ∀ k, k < H9 → (W.setCell ⟨H9, 0, none⟩ u).heap[k]? = W.heap[k]? := fun k hk => heap_setCell_other W ⟨H9, 0, none⟩ k u (by show k ≠ H9; omega)
  exact ⟨bS h.below (by show w.heap.size ≤ H9; omega) u, (o _ (by omega)).trans h.r0, (o _ (by omega)).trans h.r1, (o _ (by omega)).trans h.r2, by rw [heap_setCell_same W H9 0 _ _ _ h.r9]; rfl, lt⟩
theorem Sta.put1 (h : Sta w W H9 S1 S2 p a b) (u : Value) : Sta w (W.setCell ⟨H9, 1, none⟩ u) H9 S1 S2 p a u := by
  have lt := h.lt
  have o : ∀ k, k < H9 → (W.setCell ⟨H9, 1, none⟩ u).heap[k]? = W.heap[k]? := fun k hk => heap_setCell_other W ⟨H9, 1, none⟩ k u (by show k ≠ H9; omega)
  exact ⟨bS h.below (by show w.heap.size ≤ H9; omega) u, (o _ (by omega)).trans h.r0, (o _ (by omega)).trans h.r1, (o _ (by omega)).trans h.r2, by rw [heap_setCell_same W H9 1 _ _ _ h.r9]; rfl, lt⟩
theorem Sta.base (h : Sta w W H9 S1 S2 p a b) : W.cell? ⟨w.heap.size, 0, none⟩ = some S1 ∧ W.cell? ⟨w.heap.size, 1, none⟩ = some S2 :=
  ⟨(two_cells h.r0).1, (two_cells h.r0).2.1⟩
theorem Sta.perm (h : Sta w W H9 S1 S2 p a b) : W.cell? ⟨w.heap.size + 1, 0, none⟩ = some (.string p.pid) ∧ W.cell? ⟨w.heap.size + 1, 1, none⟩ = some (.string p.psp) ∧ W.cell? ⟨w.heap.size + 1, 2, none⟩ = some (.int .i64 p.pfr) ∧ W.cell? ⟨w.heap.size + 1, 3, none⟩ = some (.int .i64 p.pun) ∧ W.cell? ⟨w.heap.size + 1, 4, none⟩ = some (.int .i64 p.pqu) := by
  refine ⟨?_, ?_, ?_, ?_, ?_⟩ <;> (rw [cell_of_row _ _ _ _ _ _ h.r1]; rfl)
theorem own_set {e : TypeId} {base sz n : Nat} {v : Value} {xs : List Value} (ho : W.ownsRow base e sz v n xs) (hv : ∀ k, v.ownBlock = some k → H9 < k) (j : Nat) (u : Value) : (W.setCell ⟨H9, j, none⟩ u).ownsRow base e sz v n xs :=
  own_keep ho (fun k e1 _ => heap_setCell_other W ⟨H9, j, none⟩ k u (by have := hv k e1; show k ≠ H9; omega))
end
/-- three new blocks, and what a call leaves of them -/
theorem boxes3 {w w1 : World} {a b c : Obj} (h : Below (((w.alloc a).alloc b).alloc c).heap.size (((w.alloc a).alloc b).alloc c) w1) :
    w1.heap[w.heap.size]? = some a ∧ w1.heap[w.heap.size + 1]? = some b ∧ w1.heap[w.heap.size + 2]? = some c ∧ w.heap.size + 3 ≤ w1.heap.size ∧ Below w.heap.size w w1 := by
  have h1 : (w.alloc a).heap.size = w.heap.size + 1 := by simp only [World.alloc, Array.size_push]
  have h2 : ((w.alloc a).alloc b).heap.size = w.heap.size + 2 := by simp only [World.alloc, Array.size_push]
  have h3 : (((w.alloc a).alloc b).alloc c).heap.size = w.heap.size + 3 := by simp only [World.alloc, Array.size_push]
  have hs := h.size
  refine ⟨?_, ?_, ?_, by omega, bT (bA (bA (bA (Below.refl _ _) _) _) _) h⟩
  · exact (h.block _ (by omega)).trans ((heap_alloc_old _ c (by omega)).trans ((heap_alloc_old _ b (by omega)).trans (heap_alloc_new w a)))
  · exact (h.block _ (by omega)).trans ((heap_alloc_old _ c (by omega)).trans (heap_new' h1 b))
  · exact (h.block _ (by omega)).trans (heap_new' h2 c)
theorem rows3 {w w1 : World} {S1 S2 : Value} {p : Perm} (h : w1.heap[w.heap.size]? = some (.cells #[S1, S2] 48 (0, 0)) ∧ w1.heap[w.heap.size + 1]? = some (.cells #[.string p.pid, .string p.psp, .int .i64 p.pfr, .int .i64 p.pun, .int .i64 p.pqu] 50 (0, 0)) ∧ w1.heap[w.heap.size + 2]? = some (.cells #[.slice none 0 0, .slice none 0 0] 48 (0, 0)) ∧ w.heap.size + 3 ≤ w1.heap.size ∧ Below w.heap.size w w1) :
    Sta w (w1.alloc (.cells #[.slice none 0 0, .slice none 0 0] 48)) w1.heap.size S1 S2 p (.slice none 0 0) (.slice none 0 0) := by
  obtain ⟨h0, h1, h2, h3, h4⟩ := h
  exact ⟨h4.alloc h4.size _, (heap_alloc_old w1 _ (by omega)).trans h0, (heap_alloc_old w1 _ (by omega)).trans h1, (heap_alloc_old w1 _ (by omega)).trans h2, heap_alloc_new w1 _, h3⟩
theorem perm_cells {W : World} {g : Nat} {p : Perm} (h : W.heap[g]? = some (.cells #[.string p.pid, .string p.psp, .int .i64 p.pfr, .int .i64 p.pun, .int .i64 p.pqu] 50 (0, 0))) : W.cell? ⟨g, 0, none⟩ = some (.string p.pid) ∧ W.cell? ⟨g, 1, none⟩ = some (.string p.psp) ∧ W.cell? ⟨g, 2, none⟩ = some (.int .i64 p.pfr) ∧ W.cell? ⟨g, 3, none⟩ = some (.int .i64 p.pun) ∧ W.cell? ⟨g, 4, none⟩ = some (.int .i64 p.pqu) := by
  refine ⟨?_, ?_, ?_, ?_, ?_⟩ <;> (rw [cell_of_row _ _ _ _ _ _ h]; rfl)
end Go.Proofs.YtgonghmihghhnaaDoor.Pe
