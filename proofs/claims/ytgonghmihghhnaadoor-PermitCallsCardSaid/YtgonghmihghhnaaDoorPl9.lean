/- the laws of permits: a register beside rows that grow. -/
import Derived.Test.YtgonghmihghhnaaDoorPl8
import Derived.Laws.AppendOwn
namespace Go.Proofs.YtgonghmihghhnaaDoor.Pe
open Go.RowKit Go.Proofs.YtgonghmihghhnaaDoor.Id

/-- the blocks of N lie in w' as in W -/
def Kept (N : Nat → Prop) (W w' : World) : Prop := W.heap.size ≤ w'.heap.size ∧ ∀ k, N k → w'.heap[k]? = W.heap[k]?
theorem Kept.below {N : Nat → Prop} {W w' : World} (hN : ∀ k, N k → k < W.heap.size) (h : Below W.heap.size W w') : Kept N W w' := ⟨h.size, fun k hk => h.block k (hN k hk)⟩
theorem Kept.own {N : Nat → Prop} {W w' : World} (h : Kept N W w') {base n sz : Nat} {e : TypeId} {v : Value} {xs : List Value} (ho : W.ownsRow base e sz v n xs) (hv : ∀ k, v.ownBlock = some k → N k) : w'.ownsRow base e sz v n xs :=
  own_keep ho (fun k e _ => h.2 k (hv k e))
theorem Kept.at {N : Nat → Prop} {W w' : World} (h : Kept N W w') {k : Nat} {o : Obj} (hk : N k) (ho : W.heap[k]? = some o) : w'.heap[k]? = some o := (h.2 k hk).trans ho
/-- the register lives at b; the blocks of N are no part of it -/
def Ap (w W : World) (b : Nat) (s : List Perm × List Int) (N : Nat → Prop) : Prop :=
  ∃ F, Reg W F b s.1 s.2 ∧ (∀ k, F k → w.heap.size ≤ k) ∧ Below w.heap.size w W ∧ ∀ k, N k → ¬ F k ∧ k < W.heap.size
theorem Ap.wb {w W : World} {b : Nat} {s : List Perm × List Int} {N : Nat → Prop} (h : Ap w W b s N) : Below w.heap.size w W := by obtain ⟨_, _, _, h, _⟩ := h; exact h
theorem Ap.old {w W : World} {b : Nat} {s : List Perm × List Int} {N : Nat → Prop} (h : Ap w W b s N) : ∀ k, N k → k < W.heap.size := by obtain ⟨_, _, _, _, h⟩ := h; exact fun k hk => (h k hk).2
theorem Ap.inv {w W : World} {b : Nat} {s : List Perm × List Int} {N : Nat → Prop} (h : Ap w W b s N) : Inv s.1 s.2 := by obtain ⟨_, h, _⟩ := h; exact h.inv
theorem Ap.below {w W W' : World} {b : Nat} {s : List Perm × List Int} {N : Nat → Prop} (h : Ap w W b s N) (hb : Below W.heap.size W W') : Ap w W' b s N := by
  obtain ⟨F, h1, h2, h3, h4⟩ := h
  exact ⟨F, h1.below hb, h2, bT h3 hb, fun k hk => ⟨(h4 k hk).1, Nat.lt_of_lt_of_le (h4 k hk).2 hb.size⟩⟩
theorem Ap.sub {w W : World} {b : Nat} {s : List Perm × List Int} {N N' : Nat → Prop} (h : Ap w W b s N) (hN : ∀ k, N' k → N k) : Ap w W b s N' := by
  obtain ⟨F, h1, h2, h3, h4⟩ := h
  exact ⟨F, h1, h2, h3, fun k hk => h4 k (hN k hk)⟩
/-- the world grows by a row of N (or by new blocks alone) -/
theorem Ap.grown {w W W' : World} {b : Nat} {s : List Perm × List Int} {N N' : Nat → Prop} {row : Option Nat} (h : Ap w W b s N) (hg : W.grownBy W' row) (hr : ∀ k, row = some k → N k) (hb : ∀ k, row = some k → w.heap.size ≤ k) (hN : ∀ k, N' k → N k ∨ W.heap.size ≤ k ∧ k < W'.heap.size) : Ap w W' b s N' := by
  obtain ⟨F, h1, h2, h3, h4⟩ := h
  obtain ⟨F0, k1, k2⟩ := h1.tight
  have hs := hg.size
  refine ⟨F0, k1.keep (Keeps.of_grown (F := fun k => row = some k) hg (fun k e => e)) (fun k hk e => (h4 k (hr k e)).1 (k2 k hk).1), fun k hk => h2 k (k2 k hk).1, h3.trans ⟨hg.os, hg.tape, hg.output, hs, fun k hk => hg.block k (by have := h3.size; omega) (fun e => by have := hb k e.symm; omega)⟩, fun k hk => ?_⟩
  rcases hN k hk with h | h
  · exact ⟨fun hf => (h4 k h).1 (k2 k hf).1, by have := (h4 k h).2; omega⟩
  · exact ⟨fun hf => by have := (k2 k hf).2; omega, h.2⟩
/-- a cell of a row of N is stored -/
theorem Ap.set {w W : World} {b : Nat} {s : List Perm × List Int} {N : Nat → Prop} (h : Ap w W b s N) {g : Nat} (hg : N g) (hb : w.heap.size ≤ g) (j : Nat) (u : Value) : Ap w (W.setCell ⟨g, j, none⟩ u) b s N := by
  obtain ⟨F, h1, h2, h3, h4⟩ := h
  have hk : Keeps (fun k => k = g) W (W.setCell ⟨g, j, none⟩ u) := Keeps.setCell (fun k => k = g) W (p := ⟨g, j, none⟩) rfl u
  exact ⟨F, h1.keep hk (fun k hf e => (h4 g hg).1 (e ▸ hf)), h2, h3.trans (hk.below (fun k e => by rw [e]; exact hb) h3.size), fun k hk' => ⟨(h4 k hk').1, Nat.lt_of_lt_of_le (h4 k hk').2 hk.size⟩⟩
theorem Ap.add {w W : World} {b : Nat} {s : List Perm × List Int} {N : Nat → Prop} (h : Ap w W b s N) (p : Perm) (hs1 : p.pid.size ≤ 140737488355328) (hs2 : p.psp.size ≤ 140737488355328) :
    Calls Tryd.prog 21 #[.pointer (some ⟨b, 0, none⟩), p.val] W fun e w' => e = .returned (.int .i64 (addE s.1 p)) ∧ Ap w w' b (addP s.1 p, addL s.1 s.2 p) N ∧ Kept N W w' := by
  obtain ⟨F, h1, h2, h3, h4⟩ := h
  refine (Add_any b F s.1 s.2 p W h1 hs1 hs2).mono ?_
  rintro e w' ⟨rfl, F', k1, k2, k3, k4⟩
  have := h3.size
  refine ⟨rfl, ⟨F', k1, fun k hk => by rcases k3 k hk with h | h; exact h2 k h; omega, h3.trans (k4.below h2 h3.size), fun k hk => ⟨fun hf => ?_, Nat.lt_of_lt_of_le (h4 k hk).2 k4.size⟩⟩, k4.size, fun k hk => k4.block k (h4 k hk).2 (h4 k hk).1⟩
  rcases k3 _ hf with h | h
  · exact (h4 k hk).1 h
  · have := (h4 k hk).2; omega
theorem Ap.use {w W : World} {b : Nat} {s : List Perm × List Int} {N : Nat → Prop} (h : Ap w W b s N) (i : ByteArray) (v : Int) :
    Calls Tryd.prog 23 #[.pointer (some ⟨b, 0, none⟩), .string i, .int .i64 v] W fun e w' => e = .returned (.int .i64 (useE s.1 s.2 i v)) ∧ Ap w w' b (s.1, useL s.1 s.2 i v) N ∧ Kept N W w' := by
  obtain ⟨F, h1, h2, h3, h4⟩ := h
  refine (Use_any b F s.1 s.2 i v W h1).mono ?_
  rintro e w' ⟨rfl, k1, k4⟩
  exact ⟨rfl, ⟨F, k1, h2, h3.trans (k4.below h2 h3.size), fun k hk => ⟨(h4 k hk).1, Nat.lt_of_lt_of_le (h4 k hk).2 k4.size⟩⟩, k4.size, fun k hk => k4.block k (h4 k hk).2 (h4 k hk).1⟩
theorem Ap.left {w W : World} {b : Nat} {s : List Perm × List Int} {N : Nat → Prop} (h : Ap w W b s N) (i : ByteArray) :
    Calls Tryd.prog 26 #[.pointer (some ⟨b, 0, none⟩), .string i] W fun e w' => e = .returned (.tuple #[.int .i64 (leftN s.1 s.2 i), .bool (leftB s.1 i)]) ∧ Below W.heap.size W w' := by
  obtain ⟨F, h1, _⟩ := h
  exact Left_any b F s.1 s.2 i W h1
theorem Ap.fell {w W : World} {b : Nat} {s : List Perm × List Int} {N : Nat → Prop} (h : Ap w W b s N) (i sp : ByteArray) (t : Int) :
    Calls Tryd.prog 24 #[.pointer (some ⟨b, 0, none⟩), .string i, .string sp, .int .i64 t] W fun e w' => e = .returned (.int .i64 (fellE s.1 i sp t)) ∧ Below W.heap.size W w' := by
  obtain ⟨F, h1, _⟩ := h
  exact Fell_any b F s.1 s.2 i sp t W h1
theorem Ap.list {w W : World} {b : Nat} {s : List Perm × List Int} {N : Nat → Prop} (h : Ap w W b s N) :
    Calls Tryd.prog 29 #[.pointer (some ⟨b, 0, none⟩)] W fun e w' => ∃ v, e = .returned v ∧ w'.ownsRow W.heap.size 50 5 v s.1.length (pcells s.1) ∧ Below W.heap.size W w' := by
  obtain ⟨F, h1, _⟩ := h
  exact List_any b F s.1 s.2 W h1
theorem New_ap (w : World) : Calls Tryd.prog 19 #[] w fun e w' => e = .returned (.pointer (some ⟨w.heap.size, 0, none⟩)) ∧ Ap w w' w.heap.size ([], []) (fun _ => False) := by
  refine (New_any w).mono ?_
  rintro e w' ⟨rfl, h1, h2, _⟩
  exact ⟨rfl, _, h1, fun k h => by rw [h]; exact Nat.le_refl _, h2, fun q hq => hq.elim⟩

/-- what is left of each, as the law keeps it -/
def icells (ls : List Int) : List Value := ls.map (Value.int .i64)
theorem icells_len (ls : List Int) : (icells ls).length = ls.length := by simp [icells]
theorem icells_at {ls : List Int} {i : Nat} {l : Int} (h : ls[i]? = some l) : (icells ls)[i]? = some (.int .i64 l) := by simp [icells, h]
theorem icells_snoc (ls : List Int) (x : Int) : icells (ls ++ [x]) = icells ls ++ [.int .i64 x] := by simp [icells]
theorem icells_set (ls : List Int) (i : Nat) (x : Int) : icells (ls.set i x) = (icells ls).set i (.int .i64 x) := by simp [icells, List.map_set]

/-- the blocks of two rows -/
def Two (v1 v2 : Value) (k : Nat) : Prop := v1.ownBlock = some k ∨ v2.ownBlock = some k
/-- the state of the law PermitQuotas -/
def QI (w W : World) (b : Nat) (v1 v2 : Value) (s : List Perm × List Int) : Prop :=
  Ap w W b s (Two v1 v2) ∧ W.ownsRow w.heap.size 50 5 v1 s.1.length (pcells s.1) ∧ W.ownsRow w.heap.size 3 1 v2 s.1.length (icells s.2)
/-- the same with a block beside it, while the register has gone ahead to s' -/
def QH (w W : World) (b : Nat) (v1 v2 : Value) (s' : List Perm × List Int) (n m : Nat) (xs ys : List Value) (B : Nat) (o : Obj) : Prop :=
  Ap w W b s' (fun k => Two v1 v2 k ∨ k = B) ∧ W.ownsRow w.heap.size 50 5 v1 n xs ∧ W.ownsRow w.heap.size 3 1 v2 m ys ∧ W.heap[B]? = some o ∧ w.heap.size ≤ B ∧ ¬ Two v1 v2 B
theorem QI.box {w W : World} {b : Nat} {v1 v2 : Value} {s : List Perm × List Int} (h : QI w W b v1 v2 s) (o : Obj) : QH w (W.alloc o) b v1 v2 s s.1.length s.1.length (pcells s.1) (icells s.2) W.heap.size o := by
  obtain ⟨h1, h2, h3⟩ := h
  have hb : Below W.heap.size W (W.alloc o) := bA (Below.refl _ _) o
  refine ⟨?_, own_below h2 hb, own_below h3 hb, heap_alloc_new W o, h1.wb.size, fun h => Nat.lt_irrefl _ (h1.old _ h)⟩
  refine h1.grown (row := none) ⟨hb.os, hb.tape, hb.output, hb.size, fun k hk _ => hb.block k hk⟩ (fun k e => nomatch e) (fun k e => nomatch e) (fun k hk => ?_)
  rcases hk with h | h
  · exact .inl h
  · subst h; exact .inr ⟨Nat.le_refl _, by simp⟩
theorem QH.below {w W W' : World} {b : Nat} {v1 v2 : Value} {s' : List Perm × List Int} {n m B : Nat} {xs ys : List Value} {o : Obj} (h : QH w W b v1 v2 s' n m xs ys B o) (hb : Below W.heap.size W W') : QH w W' b v1 v2 s' n m xs ys B o := by
  obtain ⟨h1, h2, h3, h4, h5⟩ := h
  exact ⟨h1.below hb, own_below h2 hb, own_below h3 hb, (hb.block _ (Array.getElem?_eq_some_iff.1 h4).1).trans h4, h5⟩
theorem QI.below {w W W' : World} {b : Nat} {v1 v2 : Value} {s : List Perm × List Int} (h : QI w W b v1 v2 s) (hb : Below W.heap.size W W') : QI w W' b v1 v2 s :=
  ⟨h.1.below hb, own_below h.2.1 hb, own_below h.2.2 hb⟩
theorem QH.back {w W : World} {b : Nat} {v1 v2 : Value} {s : List Perm × List Int} {n B : Nat} {o : Obj} (h : QH w W b v1 v2 s n n (pcells s.1) (icells s.2) B o) (hn : n = s.1.length) : QI w W b v1 v2 s := by
  subst hn
  exact ⟨h.1.sub (fun k hk => .inl hk), h.2.1, h.2.2.1⟩
theorem QH.call {w W w' : World} {b : Nat} {v1 v2 : Value} {s s' : List Perm × List Int} {n m B : Nat} {xs ys : List Value} {o : Obj} (h : QH w W b v1 v2 s n m xs ys B o) (ha : Ap w w' b s' (fun k => Two v1 v2 k ∨ k = B)) (hk : Kept (fun k => Two v1 v2 k ∨ k = B) W w') : QH w w' b v1 v2 s' n m xs ys B o :=
  ⟨ha, hk.own h.2.1 (fun _ e => .inl (.inl e)), hk.own h.2.2.1 (fun _ e => .inl (.inr e)), hk.at (.inr rfl) h.2.2.2.1, h.2.2.2.2⟩
theorem QH.add {w W : World} {b : Nat} {v1 v2 : Value} {s : List Perm × List Int} {n m B : Nat} {xs ys : List Value} {o : Obj} (h : QH w W b v1 v2 s n m xs ys B o) (p : Perm) (hs1 : p.pid.size ≤ 140737488355328) (hs2 : p.psp.size ≤ 140737488355328) :
    Calls Tryd.prog 21 #[.pointer (some ⟨b, 0, none⟩), p.val] W fun e w' => e = .returned (.int .i64 (addE s.1 p)) ∧ QH w w' b v1 v2 (addP s.1 p, addL s.1 s.2 p) n m xs ys B o := by
  refine (h.1.add p hs1 hs2).mono ?_
  rintro e w' ⟨rfl, h1, h2⟩
  exact ⟨rfl, h.call h1 h2⟩
theorem QH.use {w W : World} {b : Nat} {v1 v2 : Value} {s : List Perm × List Int} {n m B : Nat} {xs ys : List Value} {o : Obj} (h : QH w W b v1 v2 s n m xs ys B o) (i : ByteArray) (v : Int) :
    Calls Tryd.prog 23 #[.pointer (some ⟨b, 0, none⟩), .string i, .int .i64 v] W fun e w' => e = .returned (.int .i64 (useE s.1 s.2 i v)) ∧ QH w w' b v1 v2 (s.1, useL s.1 s.2 i v) n m xs ys B o := by
  refine (h.1.use i v).mono ?_
  rintro e w' ⟨rfl, h1, h2⟩
  exact ⟨rfl, h.call h1 h2⟩
/-- behind the append to the first row -/
theorem QH.push1 {w W X w3 : World} {b : Nat} {v1 v2 : Value} {s : List Perm × List Int} {n n' m B g cap : Nat} {xs xs' ys : List Value} {o : Obj} (h : QH w W b v1 v2 s n m xs ys B o) (hX : Below W.heap.size W X)
    (hg : X.grownBy w3 v1.ownBlock) (hn : w3.ownsRow w.heap.size 50 5 (.slice (some ⟨g, 0, none⟩) n' cap) n' xs') (hat : v1.ownBlock = some g ∨ g = X.heap.size) : QH w w3 b (.slice (some ⟨g, 0, none⟩) n' cap) v2 s n' m xs' ys B o := by
  obtain ⟨h1, h2, h3, h4, h5, h6⟩ := h.below hX
  have hBX := (Array.getElem?_eq_some_iff.1 h4).1
  have hgl := own_block_lt hn g rfl
  refine ⟨(h1.grown hg (fun k e => .inl (.inl e)) (fun k e => (h2.lt k e).1) (fun k hk => ?_)), hn, own_grow h3 hg (fun k e e2 => own_apart h2 h3 (by decide) k e2 e), (hg.block B hBX (fun e => h6 (.inl e.symm))).trans h4, h5, ?_⟩
  · rcases hk with (hk | hk) | hk
    · simp only [Value.ownBlock, Option.some.injEq] at hk
      subst hk
      rcases hat with h | h
      · exact .inl (.inl (.inl h))
      · exact .inr ⟨by omega, hgl⟩
    · exact .inl (.inl (.inr hk))
    · exact .inl (.inr hk)
  · rintro (hk | hk)
    · simp only [Value.ownBlock, Option.some.injEq] at hk
      subst hk
      rcases hat with h | h
      · exact h6 (.inl h)
      · omega
    · exact h6 (.inr hk)
theorem QH.push2 {w W X w3 : World} {b : Nat} {v1 v2 : Value} {s : List Perm × List Int} {n n' m B g cap : Nat} {xs ys' ys : List Value} {o : Obj} (h : QH w W b v1 v2 s m n xs ys B o) (hX : Below W.heap.size W X)
    (hg : X.grownBy w3 v2.ownBlock) (hn : w3.ownsRow w.heap.size 3 1 (.slice (some ⟨g, 0, none⟩) n' cap) n' ys') (hat : v2.ownBlock = some g ∨ g = X.heap.size) : QH w w3 b v1 (.slice (some ⟨g, 0, none⟩) n' cap) s m n' xs ys' B o := by
  obtain ⟨h1, h2, h3, h4, h5, h6⟩ := h.below hX
  have hBX := (Array.getElem?_eq_some_iff.1 h4).1
  have hgl := own_block_lt hn g rfl
  refine ⟨(h1.grown hg (fun k e => .inl (.inr e)) (fun k e => (h3.lt k e).1) (fun k hk => ?_)), own_grow h2 hg (fun k e e2 => own_apart h2 h3 (by decide) k e e2), hn, (hg.block B hBX (fun e => h6 (.inr e.symm))).trans h4, h5, ?_⟩
  · rcases hk with (hk | hk) | hk
    · exact .inl (.inl (.inl hk))
    · simp only [Value.ownBlock, Option.some.injEq] at hk
      subst hk
      rcases hat with h | h
      · exact .inl (.inl (.inr h))
      · exact .inr ⟨by omega, hgl⟩
    · exact .inl (.inr hk)
  · rintro (hk | hk)
    · exact h6 (.inl hk)
    · simp only [Value.ownBlock, Option.some.injEq] at hk
      subst hk
      rcases hat with h | h
      · exact h6 (.inr h)
      · omega
/-- behind a store into the second row -/
theorem QH.put {w W : World} {b : Nat} {v1 : Value} {s : List Perm × List Int} {n m B g cap : Nat} {xs ys : List Value} {o : Obj} (h : QH w W b v1 (.slice (some ⟨g, 0, none⟩) m cap) s n m xs ys B o) (j : Nat) (u : Value) : QH w (W.setCell ⟨g, j, none⟩ u) b v1 (.slice (some ⟨g, 0, none⟩) m cap) s n m xs (ys.set j u) B o := by
  obtain ⟨h1, h2, h3, h4, h5, h6⟩ := h
  have hg0 := h3.lt g rfl
  refine ⟨h1.set (.inl (.inr rfl)) hg0.1 j u, own_keep h2 (fun k e _ => heap_setCell_other W ⟨g, j, none⟩ k _ (fun e2 => own_apart h2 h3 (by decide) k e (by rw [e2]; rfl))), ?_, ?_, h5, h6⟩
  · exact (h3.stored j u).1
  · exact (heap_setCell_other W ⟨g, j, none⟩ B _ (fun e2 => h6 (.inr (by rw [e2]; rfl)))).trans h4
end Go.Proofs.YtgonghmihghhnaaDoor.Pe
