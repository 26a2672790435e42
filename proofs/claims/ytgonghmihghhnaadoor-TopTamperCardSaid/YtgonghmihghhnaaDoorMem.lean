/- Small facts on worlds: which blocks a call may change; slices that are read; rows that a call owns. No program. -/
import Derived.WalkKit
import Derived.Lib.Hide
import Derived.Maps.AppendAt
import Derived.Deep.AppendLies
namespace Go.Proofs.YtgonghmihghhnaaDoor
open Go.RowKit

/-- w' is w but for the blocks of F, and new blocks. -/
structure Keeps (F : Nat → Prop) (w w' : World) : Prop where
  os : w'.os = w.os
  tape : w'.tape = w.tape
  output : w'.output = w.output
  size : w.heap.size ≤ w'.heap.size
  block : ∀ k, k < w.heap.size → ¬ F k → w'.heap[k]? = w.heap[k]?

namespace Keeps
variable {F F' : Nat → Prop} {w w' w'' : World}
theorem refl (F : Nat → Prop) (w : World) : Keeps F w w := ⟨rfl, rfl, rfl, Nat.le_refl _, fun _ _ _ => rfl⟩
theorem trans (h : Keeps F w w') (k : Keeps F' w' w'') (hF : ∀ i, F' i → F i ∨ w.heap.size ≤ i) : Keeps F w w'' :=
  ⟨k.os.trans h.os, k.tape.trans h.tape, k.output.trans h.output, Nat.le_trans h.size k.size, fun i hi hn => (k.block i (Nat.lt_of_lt_of_le hi h.size) (fun hf => by
    rcases hF i hf with h1 | h1
    · exact hn h1
    · omega)).trans (h.block i hi hn)⟩
theorem of_below (F : Nat → Prop) (h : Below w.heap.size w w') : Keeps F w w' := ⟨h.os, h.tape, h.output, h.size, fun k hk _ => h.block k hk⟩
theorem mono (h : Keeps F w w') (hF : ∀ k, F k → F' k) : Keeps F' w w' := ⟨h.os, h.tape, h.output, h.size, fun k hk hn => h.block k hk (fun hf => hn (hF k hf))⟩
theorem below (h : Keeps F w w') {B : Nat} (hF : ∀ k, F k → B ≤ k) (hB : B ≤ w.heap.size) : Below B w w' := ⟨h.os, h.tape, h.output, h.size, fun k hk => h.block k (by omega) (fun hf => by have := hF k hf; omega)⟩
theorem setCell (F : Nat → Prop) (w : World) {p : Addr} (hp : F p.block) (u : Value) : Keeps F w (w.setCell p u) :=
  ⟨rfl, rfl, rfl, by simp [World.setCell], fun k _ hn => Below.heap_setCell w p u k (fun e => hn (by rw [e]; exact hp))⟩
theorem of_grown {row : Option Nat} (h : w.grownBy w' row) (hr : ∀ k, row = some k → F k) : Keeps F w w' := ⟨h.os, h.tape, h.output, h.size, fun k hk hn => h.block k hk (fun e => hn (hr k e.symm))⟩
theorem cell (h : Keeps F w w') {p : Addr} (hp : p.block < w.heap.size) (hn : ¬ F p.block) : w'.cell? p = w.cell? p := World.cell?_of_block (h.block p.block hp hn)
end Keeps

theorem flat_len {α : Type} (f : α → List Value) (sz : Nat) (hf : ∀ a, (f a).length = sz) : ∀ l : List α, (l.flatMap f).length = l.length * sz
  | [] => by simp
  | a :: l => by rw [List.flatMap_cons, List.length_append, hf, flat_len f sz hf l, List.length_cons, Nat.add_mul]; omega
theorem flat_at {α : Type} (f : α → List Value) (sz : Nat) (hf : ∀ a, (f a).length = sz) : ∀ (l : List α) (i : Nat) (a : α), l[i]? = some a → ∀ j, j < sz → (l.flatMap f)[i * sz + j]? = (f a)[j]?
  | [], i, a, h, _, _ => by simp at h
  | b :: l, 0, a, h, j, hj => by
    obtain rfl : b = a := by simpa using h
    rw [List.flatMap_cons, Nat.zero_mul, Nat.zero_add, List.getElem?_append_left (by rw [hf]; exact hj)]
  | b :: l, i + 1, a, h, j, hj => by
    rw [List.flatMap_cons, List.getElem?_append_right (by rw [hf, Nat.add_mul]; omega), hf, show (i + 1) * sz + j - sz = i * sz + j by rw [Nat.add_mul]; omega]
    exact flat_at f sz hf l i a (by simpa using h) j hj

/-- The slice value v of n elements of sz cells each reads as the cells xs. -/
def SliceIs (W : World) (sz : Nat) (v : Value) (n : Nat) (xs : List Value) : Prop :=
  xs.length = n * sz ∧ n ≤ 9223372036854775807 ∧ ((n = 0 ∧ ∃ A c, v = .slice A 0 c) ∨ ∃ b off c, v = .slice (some ⟨b, off, none⟩) n c ∧ n ≤ c ∧ b < W.heap.size ∧ ∀ j u, xs[j]? = some u → W.cell? ⟨b, off + j, none⟩ = some u)
theorem SliceIs.keep {W W' : World} {sz n : Nat} {v : Value} {xs : List Value} (h : SliceIs W sz v n xs) (hs : W.heap.size ≤ W'.heap.size) (hk : ∀ k, v.ownBlock = some k → k < W.heap.size → W'.heap[k]? = W.heap[k]?) : SliceIs W' sz v n xs := by
  obtain ⟨h1, h2, h3⟩ := h
  refine ⟨h1, h2, ?_⟩
  rcases h3 with h3 | ⟨b, off, c, rfl, hc, hb, hx⟩
  · exact .inl h3
  · exact .inr ⟨b, off, c, rfl, hc, by omega, fun j u hu => (World.cell?_of_block (w := W) (hk b rfl hb)).trans (hx j u hu)⟩
theorem SliceIs.below {W W' : World} {sz n : Nat} {v : Value} {xs : List Value} (h : SliceIs W sz v n xs) (hb : Below W.heap.size W W') : SliceIs W' sz v n xs := h.keep hb.size (fun k _ hk => hb.block k hk)
theorem SliceIs.keeps {W W' : World} {sz n : Nat} {v : Value} {xs : List Value} {F : Nat → Prop} (h : SliceIs W sz v n xs) (hb : Keeps F W W') (hF : ∀ k, v.ownBlock = some k → ¬ F k) : SliceIs W' sz v n xs :=
  h.keep hb.size (fun k hk hlt => hb.block k hlt (hF k hk))
theorem SliceIs.lt {W : World} {sz n : Nat} {v : Value} {xs : List Value} (h : SliceIs W sz v n xs) (hn : 0 < n) : ∃ k, v.ownBlock = some k ∧ k < W.heap.size := by
  rcases h.2.2 with ⟨h0, _⟩ | ⟨b, off, c, rfl, _, hb, _⟩
  · omega
  · exact ⟨b, rfl, hb⟩
theorem SliceIs.of_own {W : World} {base e sz n : Nat} {v : Value} {xs : List Value} (h : W.ownsRow base e sz v n xs) : SliceIs W sz v n xs := by
  refine ⟨h.1, ?_, ?_⟩
  · rcases h.2 with ⟨_, h0⟩ | ⟨g, cap, cur, _, _, _, h1, h2, _⟩
    · omega
    · simp only [maxLen] at h2; omega
  · rcases Nat.eq_zero_or_pos n with h0 | h0
    · subst h0
      rcases h.2 with ⟨rfl, _⟩ | ⟨g, cap, cur, rfl, _⟩
      · exact .inl ⟨rfl, _, _, rfl⟩
      · exact .inl ⟨rfl, _, _, rfl⟩
    · obtain ⟨g, cap, rfl, _, hg⟩ := h.form h0
      refine .inr ⟨g, 0, cap, rfl, ?_, hg, fun j u hu => ?_⟩
      · rcases h.2 with ⟨h', _⟩ | ⟨g', cap', cur, h', _, _, h1, _⟩
        · simp at h'
        · simp only [Value.slice.injEq] at h'
          omega
      · have hj : j < n * sz := by have := (List.getElem?_eq_some_iff.1 hu).1; rw [h.1] at this; exact this
        rw [show (0 + j) = j from by omega, h.cellAt j hj]
        exact hu
theorem own_block_lt {w : World} {base : Nat} {e : TypeId} {size n : Nat} {v : Value} {xs : List Value} (h : w.ownsRow base e size v n xs) (k : Nat) (hk : v.ownBlock = some k) : k < w.heap.size := (h.lt k hk).2
theorem own_type {w : World} {base : Nat} {e : TypeId} {size n : Nat} {v : Value} {xs : List Value} (h : w.ownsRow base e size v n xs) (k : Nat) (hk : v.ownBlock = some k) : ∃ cells, w.heap[k]? = some (.cells cells e (0, 0)) := by
  rcases h.2 with ⟨rfl, _⟩ | ⟨g, cap, cur, rfl, hg, hh, r⟩
  · simp [Value.ownBlock] at hk
  · simp [Value.ownBlock] at hk
    subst hk
    exact ⟨cur, hh⟩
/-- an owned row lives on where its block does -/
theorem own_keep {w w' : World} {base : Nat} {e : TypeId} {size n : Nat} {v : Value} {xs : List Value} (h : w.ownsRow base e size v n xs) (hk : ∀ k, v.ownBlock = some k → k < w.heap.size → w'.heap[k]? = w.heap[k]?) : w'.ownsRow base e size v n xs := by
  obtain ⟨h1, h2⟩ := h
  refine ⟨h1, ?_⟩
  rcases h2 with h2 | ⟨g, cap, cur, rfl, hg, hh, r⟩
  · exact .inl h2
  · exact .inr ⟨g, cap, cur, rfl, hg, (hk g rfl (Array.getElem?_eq_some_iff.1 hh).1).trans hh, r⟩
end Go.Proofs.YtgonghmihghhnaaDoor
