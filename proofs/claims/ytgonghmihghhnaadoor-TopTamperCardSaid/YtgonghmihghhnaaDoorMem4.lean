/- Small facts on worlds and owned rows (general ones, for whatever layer). -/
import Derived.Test.YtgonghmihghhnaaDoorMem2
import Derived.Test.YtgonghmihghhnaaDoorIdT
import Derived.OwnWalk
import Derived.Deep.RegionLaw
namespace Go.Proofs.YtgonghmihghhnaaDoor
open Go.RowKit Go.Proofs.YtgonghmihghhnaaDoor.Id

theorem bB {w w' : World} {o : Obj} (h : Below (w.alloc o).heap.size (w.alloc o) w') : Below w.heap.size w w' := ⟨h.os, h.tape, h.output, by have := h.size; simp at this; omega, fun k hk => (h.block k (by simp; omega)).trans (heap_alloc_old w o hk)⟩
theorem own_grow {w w' : World} {base : Nat} {e : TypeId} {size n : Nat} {v : Value} {xs : List Value} {row : Option Nat} (h : w.ownsRow base e size v n xs) (g : w.grownBy w' row) (hr : ∀ k, v.ownBlock = some k → row ≠ some k) : w'.ownsRow base e size v n xs :=
  own_keep h (fun k e hlt => g.block k hlt (fun e2 => hr k e e2.symm))
theorem own_below {w w' : World} {base : Nat} {e : TypeId} {size n : Nat} {v : Value} {xs : List Value} (h : w.ownsRow base e size v n xs) (g : Below w.heap.size w w') : w'.ownsRow base e size v n xs := own_keep h (fun k _ hlt => g.block k hlt)
theorem own_other {w : World} {base : Nat} {e t : TypeId} {size n : Nat} {v : Value} {xs : List Value} (h : w.ownsRow base e size v n xs) {b : Nat} {cs : Array Value} (hb : w.heap[b]? = some (.cells cs t (0, 0))) (hne : e ≠ t) : v.ownBlock ≠ some b := fun e1 => by
  obtain ⟨c, hc⟩ := own_type h b e1
  rw [hb] at hc
  simp at hc
  exact hne hc.2.symm
theorem own_map {w : World} {base : Nat} {e : TypeId} {size n : Nat} {v : Value} {xs : List Value} (h : w.ownsRow base e size v n xs) {b : Nat} {es : Array MapEntry} {c : Nat} (hb : w.heap[b]? = some (.map es c)) : v.ownBlock ≠ some b := fun e1 => by
  obtain ⟨c, hc⟩ := own_type h b e1
  rw [hb] at hc
  simp at hc
theorem own_shape {W : World} {base : Nat} {e : TypeId} {sz n : Nat} {v : Value} {xs : List Value} (h : W.ownsRow base e sz v n xs) : ∃ A c, v = .slice A n c := by
  rcases h.2 with ⟨rfl, rfl⟩ | ⟨g, c, _, rfl, _⟩
  · exact ⟨_, _, rfl⟩
  · exact ⟨_, c, rfl⟩
theorem slice_shape {W : World} {sz n : Nat} {v : Value} {xs : List Value} (h : SliceIs W sz v n xs) : ∃ A c, v = .slice A n c := by
  rcases h.2.2 with ⟨rfl, A, c, rfl⟩ | ⟨g, off, c, rfl, _⟩
  · exact ⟨A, c, rfl⟩
  · exact ⟨_, c, rfl⟩
theorem slice_addr {W : World} {sz n c : Nat} {A : Option Addr} {xs : List Value} (h : SliceIs W sz (.slice A n c) n xs) (hn : 0 < n) : ∃ g off, A = some ⟨g, off, none⟩ ∧ n ≤ c ∧ g < W.heap.size ∧ ∀ j u, xs[j]? = some u → W.cell? ⟨g, off + j, none⟩ = some u := by
  rcases h.2.2 with ⟨h0, _⟩ | ⟨g, off, c', e, hc, hg, hx⟩
  · omega
  · simp only [Value.slice.injEq, true_and] at e
    obtain ⟨rfl, rfl⟩ := e
    exact ⟨g, off, rfl, hc, hg, hx⟩
theorem row_shape {W : World} {base sz n c : Nat} {e : TypeId} {A : Option Addr} {xs : List Value} (h : W.ownsRow base e sz (.slice A n c) n xs) (hn : 0 < n) : ∃ g, A = some ⟨g, 0, none⟩ := by
  obtain ⟨g, cap, e1, _⟩ := h.form hn
  simp only [Value.slice.injEq] at e1
  exact ⟨g, e1.1⟩
theorem cell_up {w1 : World} {a : Addr} {x : Value} (h : w1.cell? a = some x) (hb : a.block < w1.heap.size) (o : Obj) : (w1.alloc o).cell? a = some x := (World.cell?_of_block (heap_alloc_old w1 o hb)).trans h
theorem cells3 {w1 : World} {g : Nat} {v1 v2 v3 : Value} {t : TypeId} (h : w1.heap[g]? = some (.cells #[v1, v2, v3] t (0, 0))) : w1.cell? ⟨g, 0, none⟩ = some v1 ∧ w1.cell? ⟨g, 1, none⟩ = some v2 ∧ w1.cell? ⟨g, 2, none⟩ = some v3 ∧ w1.frozen? ⟨g, 0, none⟩ = false :=
  ⟨by rw [cell_of_row _ _ _ _ _ _ h]; rfl, by rw [cell_of_row _ _ _ _ _ _ h]; rfl, by rw [cell_of_row _ _ _ _ _ _ h]; rfl, frozen_of_row _ _ _ _ _ h⟩
theorem cells6 {w1 : World} {g : Nat} {v1 v2 v3 v4 v5 v6 : Value} {t : TypeId} (h : w1.heap[g]? = some (.cells #[v1, v2, v3, v4, v5, v6] t (0, 0))) : w1.cell? ⟨g, 0, none⟩ = some v1 ∧ w1.cell? ⟨g, 1, none⟩ = some v2 ∧ w1.cell? ⟨g, 2, none⟩ = some v3 ∧ w1.cell? ⟨g, 3, none⟩ = some v4 ∧ w1.cell? ⟨g, 4, none⟩ = some v5 ∧ w1.cell? ⟨g, 5, none⟩ = some v6 ∧ ∀ j, w1.frozen? ⟨g, j, none⟩ = false :=
  ⟨by rw [cell_of_row _ _ _ _ _ _ h]; rfl, by rw [cell_of_row _ _ _ _ _ _ h]; rfl, by rw [cell_of_row _ _ _ _ _ _ h]; rfl, by rw [cell_of_row _ _ _ _ _ _ h]; rfl, by rw [cell_of_row _ _ _ _ _ _ h]; rfl, by rw [cell_of_row _ _ _ _ _ _ h]; rfl, fun _ => frozen_of_row _ _ _ _ _ h⟩
theorem run_len_own {P : Program} {ty : TypeId} {w : World} {base n size : Nat} {v : Value} {xs : List Value} {e t : TypeId} (ht : P.underlying t = some (.slice e)) (h : w.ownsRow base e size v n xs) (W : World) : (Builtin.len_ #[t] ty #[v]).run P W = .ok (.int .i64 n) W := by
  rcases h.2 with ⟨rfl, rfl⟩ | ⟨g, cap, cur, rfl, _⟩
  · simp [Builtin.len_, run_underlying ht]; rfl
  · simp [Builtin.len_, run_underlying ht]; rfl
end Go.Proofs.YtgonghmihghhnaaDoor
