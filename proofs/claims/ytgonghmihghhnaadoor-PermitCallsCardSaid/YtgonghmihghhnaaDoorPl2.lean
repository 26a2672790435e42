/- the laws of permits: what stays while the register changes; awake, walked. -/
import Derived.Test.YtgonghmihghhnaaDoorPl1
import Derived.Test.YtgonghmihghhnaaDoorMem3
namespace Go.Proofs.YtgonghmihghhnaaDoor.Pe
open Go.RowKit Go.Proofs.YtgonghmihghhnaaDoor.Id

theorem Reg.tight {W : World} {F : Nat → Prop} {b : Nat} {ps : List Perm} {ls : List Int} (h : Reg W F b ps ls) : ∃ F0, Reg W F0 b ps ls ∧ ∀ k, F0 k → F k ∧ k < W.heap.size := by
  obtain ⟨v1, v2, h1, h2, h3, h4, h5, h6, h7⟩ := h
  refine ⟨fun k => k = b ∨ v1.ownBlock = some k ∨ v2.ownBlock = some k, ⟨v1, v2, h1, h2, h3, h4, .inl rfl, fun k e => .inr (.inl e), fun k e => .inr (.inr e)⟩, fun k hk => ?_⟩
  rcases hk with rfl | hk | hk
  · exact ⟨h5, (Array.getElem?_eq_some_iff.1 h1).1⟩
  · exact ⟨h6 k hk, own_block_lt h2 k hk⟩
  · exact ⟨h7 k hk, own_block_lt h3 k hk⟩
/-- the register lives at b, and the blocks of N are no part of it -/
def Stay (w W : World) (b : Nat) (s : List Perm × List Int) (N : List (Nat × Obj)) : Prop :=
  ∃ F, Reg W F b s.1 s.2 ∧ (∀ k, F k → w.heap.size ≤ k) ∧ Below w.heap.size w W ∧ ∀ q ∈ N, ¬ F q.1 ∧ W.heap[q.1]? = some q.2
theorem Stay.below {w W W' : World} {b : Nat} {s : List Perm × List Int} {N : List (Nat × Obj)} (h : Stay w W b s N) (hb : Below W.heap.size W W') : Stay w W' b s N := by
  obtain ⟨F, h1, h2, h3, h4⟩ := h
  exact ⟨F, h1.below hb, h2, bT h3 hb, fun q hq => ⟨(h4 q hq).1, (hb.block _ (Array.getElem?_eq_some_iff.1 (h4 q hq).2).1).trans (h4 q hq).2⟩⟩
theorem Stay.alloc {w W : World} {b : Nat} {s : List Perm × List Int} {N : List (Nat × Obj)} (h : Stay w W b s N) (o : Obj) : Stay w (W.alloc o) b s ((W.heap.size, o) :: N) := by
  obtain ⟨F, h1, h2, h3, h4⟩ := h
  obtain ⟨F0, k1, k2⟩ := h1.tight
  have hb : Below W.heap.size W (W.alloc o) := bA (Below.refl _ _) o
  refine ⟨F0, k1.below hb, fun k hk => h2 k (k2 k hk).1, bT h3 hb, fun q hq => ?_⟩
  rcases List.mem_cons.1 hq with rfl | hq
  · exact ⟨fun hf => Nat.lt_irrefl _ (k2 _ hf).2, heap_alloc_new W o⟩
  · exact ⟨fun hf => (h4 q hq).1 (k2 _ hf).1, (hb.block _ (Array.getElem?_eq_some_iff.1 (h4 q hq).2).1).trans (h4 q hq).2⟩
theorem Stay.add {w W : World} {b : Nat} {s : List Perm × List Int} {N : List (Nat × Obj)} (h : Stay w W b s N) (p : Perm) (hs1 : p.pid.size ≤ 140737488355328) (hs2 : p.psp.size ≤ 140737488355328) :
    Calls Tryd.prog 21 #[.pointer (some ⟨b, 0, none⟩), p.val] W fun e w' => e = .returned (.int .i64 (addE s.1 p)) ∧ Stay w w' b (addP s.1 p, addL s.1 s.2 p) N := by
  obtain ⟨F, h1, h2, h3, h4⟩ := h
  refine (Add_any b F s.1 s.2 p W h1 hs1 hs2).mono ?_
  rintro e w' ⟨rfl, F', k1, k2, k3, k4⟩
  have := h3.size
  refine ⟨rfl, F', k1, fun k hk => by rcases k3 k hk with h | h; exact h2 k h; omega, h3.trans (k4.below h2 h3.size), fun q hq => ?_⟩
  have hlt := (Array.getElem?_eq_some_iff.1 (h4 q hq).2).1
  refine ⟨fun hf => ?_, (k4.block _ hlt (h4 q hq).1).trans (h4 q hq).2⟩
  rcases k3 _ hf with h | h
  · exact (h4 q hq).1 h
  · omega
theorem Stay.use {w W : World} {b : Nat} {s : List Perm × List Int} {N : List (Nat × Obj)} (h : Stay w W b s N) (i : ByteArray) (v : Int) :
    Calls Tryd.prog 23 #[.pointer (some ⟨b, 0, none⟩), .string i, .int .i64 v] W fun e w' => e = .returned (.int .i64 (useE s.1 s.2 i v)) ∧ Stay w w' b (s.1, useL s.1 s.2 i v) N := by
  obtain ⟨F, h1, h2, h3, h4⟩ := h
  refine (Use_any b F s.1 s.2 i v W h1).mono ?_
  rintro e w' ⟨rfl, k1, k4⟩
  exact ⟨rfl, F, k1, h2, h3.trans (k4.below h2 h3.size), fun q hq => ⟨(h4 q hq).1, (k4.block _ (Array.getElem?_eq_some_iff.1 (h4 q hq).2).1 (h4 q hq).1).trans (h4 q hq).2⟩⟩
theorem Stay.left {w W : World} {b : Nat} {s : List Perm × List Int} {N : List (Nat × Obj)} (h : Stay w W b s N) (i : ByteArray) :
    Calls Tryd.prog 26 #[.pointer (some ⟨b, 0, none⟩), .string i] W fun e w' => e = .returned (.tuple #[.int .i64 (leftN s.1 s.2 i), .bool (leftB s.1 i)]) ∧ Below W.heap.size W w' := by
  obtain ⟨F, h1, _⟩ := h
  exact Left_any b F s.1 s.2 i W h1
theorem Stay.fell {w W : World} {b : Nat} {s : List Perm × List Int} {N : List (Nat × Obj)} (h : Stay w W b s N) (i sp : ByteArray) (t : Int) :
    Calls Tryd.prog 24 #[.pointer (some ⟨b, 0, none⟩), .string i, .string sp, .int .i64 t] W fun e w' => e = .returned (.int .i64 (fellE s.1 i sp t)) ∧ Below W.heap.size W w' := by
  obtain ⟨F, h1, _⟩ := h
  exact Fell_any b F s.1 s.2 i sp t W h1
theorem Stay.list {w W : World} {b : Nat} {s : List Perm × List Int} {N : List (Nat × Obj)} (h : Stay w W b s N) :
    Calls Tryd.prog 29 #[.pointer (some ⟨b, 0, none⟩)] W fun e w' => ∃ v, e = .returned v ∧ w'.ownsRow W.heap.size 50 5 v s.1.length (pcells s.1) ∧ Below W.heap.size W w' := by
  obtain ⟨F, h1, _⟩ := h
  exact List_any b F s.1 s.2 W h1
theorem New_stay (w : World) : Calls Tryd.prog 19 #[] w fun e w' => e = .returned (.pointer (some ⟨w.heap.size, 0, none⟩)) ∧ Stay w w' w.heap.size ([], []) [] := by
  refine (New_any w).mono ?_
  rintro e w' ⟨rfl, h1, h2, _⟩
  exact ⟨rfl, _, h1, fun k h => by rw [h]; exact Nat.le_refl _, h2, fun q hq => by simp at hq⟩
end Go.Proofs.YtgonghmihghhnaaDoor.Pe
