/- the laws of permits: the program's register beside the reference's. -/
import Derived.Test.YtgonghmihghhnaaDoorPl9
namespace Go.Proofs.YtgonghmihghhnaaDoor.Pe
open Go.RowKit Go.Proofs.YtgonghmihghhnaaDoor.Id

/-- the program's register at b, the reference's in v1 v2, and the blocks of L, which are no part of either -/
def CJ (w W : World) (b : Nat) (s : List Perm × List Int) (v1 v2 : Value) (t : List Perm × List Int) (L : List (Nat × Obj)) : Prop :=
  Ap w W b s (fun k => Two v1 v2 k ∨ ∃ q ∈ L, q.1 = k) ∧ RReg W (Two v1 v2) v1 v2 t.1 t.2 ∧ ∀ q ∈ L, W.heap[q.1]? = some q.2 ∧ ¬ Two v1 v2 q.1 ∧ w.heap.size ≤ q.1
section
variable {w W : World} {b : Nat} {s t : List Perm × List Int} {v1 v2 : Value} {L : List (Nat × Obj)}
theorem CJ.wb (h : CJ w W b s v1 v2 t L) : Below w.heap.size w W := h.1.wb
theorem CJ.below {W' : World} (h : CJ w W b s v1 v2 t L) (hb : Below W.heap.size W W') : CJ w W' b s v1 v2 t L :=
  ⟨h.1.below hb, h.2.1.below hb, fun q hq => ⟨(hb.block _ (Array.getElem?_eq_some_iff.1 (h.2.2 q hq).1).1).trans (h.2.2 q hq).1, (h.2.2 q hq).2⟩⟩
theorem CJ.drop {L' : List (Nat × Obj)} (h : CJ w W b s v1 v2 t L) (hL : ∀ q ∈ L', q ∈ L) : CJ w W b s v1 v2 t L' :=
  ⟨h.1.sub (fun k hk => by rcases hk with hk | ⟨q, hq, e⟩; exact .inl hk; exact .inr ⟨q, hL q hq, e⟩), h.2.1, fun q hq => h.2.2 q (hL q hq)⟩
theorem CJ.alloc (h : CJ w W b s v1 v2 t L) (o : Obj) : CJ w (W.alloc o) b s v1 v2 t ((W.heap.size, o) :: L) := by
  have hb : Below W.heap.size W (W.alloc o) := bA (Below.refl _ _) o
  have h' := h.below hb
  refine ⟨?_, h'.2.1, fun q hq => ?_⟩
  · refine h.1.grown (row := none) ⟨hb.os, hb.tape, hb.output, hb.size, fun k hk _ => hb.block k hk⟩ (fun k e => nomatch e) (fun k e => nomatch e) (fun k hk => ?_)
    rcases hk with hk | ⟨q, hq, e⟩
    · exact .inl (.inl hk)
    · rcases List.mem_cons.1 hq with rfl | hq
      · subst e; exact .inr ⟨Nat.le_refl _, by simp⟩
      · exact .inl (.inr ⟨q, hq, e⟩)
  · rcases List.mem_cons.1 hq with rfl | hq
    · exact ⟨heap_alloc_new W o, fun hT => Nat.lt_irrefl _ (h.1.old _ (.inl hT)), h.1.wb.size⟩
    · exact h'.2.2 q hq
theorem CJ.call {w' : World} {s' : List Perm × List Int} (h : CJ w W b s v1 v2 t L) (ha : Ap w w' b s' (fun k => Two v1 v2 k ∨ ∃ q ∈ L, q.1 = k)) (hk : Kept (fun k => Two v1 v2 k ∨ ∃ q ∈ L, q.1 = k) W w') : CJ w w' b s' v1 v2 t L :=
  ⟨ha, ⟨h.2.1.1.keep hk.1 (fun k e _ => hk.2 k (.inl (.inl e))), h.2.1.2.1.keep hk.1 (fun k e _ => hk.2 k (.inl (.inr e))), h.2.1.2.2⟩, fun q hq => ⟨(hk.2 q.1 (.inr ⟨q, hq, rfl⟩)).trans (h.2.2 q hq).1, (h.2.2 q hq).2⟩⟩
theorem CJ.add (h : CJ w W b s v1 v2 t L) (p : Perm) (hs1 : p.pid.size ≤ 140737488355328) (hs2 : p.psp.size ≤ 140737488355328) :
    Calls Tryd.prog 21 #[.pointer (some ⟨b, 0, none⟩), p.val] W fun e w' => e = .returned (.int .i64 (addE s.1 p)) ∧ CJ w w' b (addP s.1 p, addL s.1 s.2 p) v1 v2 t L := by
  refine (h.1.add p hs1 hs2).mono ?_
  rintro e w' ⟨rfl, h1, h2⟩
  exact ⟨rfl, h.call h1 h2⟩
theorem CJ.use (h : CJ w W b s v1 v2 t L) (i : ByteArray) (v : Int) :
    Calls Tryd.prog 23 #[.pointer (some ⟨b, 0, none⟩), .string i, .int .i64 v] W fun e w' => e = .returned (.int .i64 (useE s.1 s.2 i v)) ∧ CJ w w' b (s.1, useL s.1 s.2 i v) v1 v2 t L := by
  refine (h.1.use i v).mono ?_
  rintro e w' ⟨rfl, h1, h2⟩
  exact ⟨rfl, h.call h1 h2⟩
/-- behind the reference's Add or Use -/
theorem CJ.next {w' : World} {e : Ending} {x : Int} {ps : List Perm} {ls : List Int} (h : CJ w W b s v1 v2 t L) (hn : RNext (Two v1 v2) x ps ls W e w') : ∃ A1 c1 A2 c2, e = .returned (.tuple #[.agg #[.slice A1 ps.length c1, .slice A2 ls.length c2], .int .i64 x]) ∧ CJ w w' b s (.slice A1 ps.length c1) (.slice A2 ls.length c2) (ps, ls) L ∧ Below W.heap.size W w' := by
  obtain ⟨u1, u2, G, rfl, h1, h2, h3⟩ := hn
  obtain ⟨A1, c1, rfl⟩ := slice_shape h1.1
  obtain ⟨A2, c2, rfl⟩ := slice_shape h1.2.1
  have hG : ∀ k, Two (.slice A1 ps.length c1) (.slice A2 ls.length c2) k → Two v1 v2 k ∨ W.heap.size ≤ k ∧ k < w'.heap.size := fun k hk => by
    rcases hk with hk | hk
    · exact h2 k (h1.2.2.2.1 k hk)
    · exact h2 k (h1.2.2.2.2 k hk)
  refine ⟨A1, c1, A2, c2, rfl, ⟨?_, ⟨h1.1, h1.2.1, h1.2.2.1, fun k e => .inl e, fun k e => .inr e⟩, fun q hq => ?_⟩, h3⟩
  · refine h.1.grown (row := none) ⟨h3.os, h3.tape, h3.output, h3.size, fun k hk _ => h3.block k hk⟩ (fun k e => nomatch e) (fun k e => nomatch e) (fun k hk => ?_)
    rcases hk with hk | hk
    · rcases hG k hk with h | h
      · exact .inl (.inl h)
      · exact .inr h
    · exact .inl (.inr hk)
  · have hlt := (Array.getElem?_eq_some_iff.1 (h.2.2 q hq).1).1
    refine ⟨(h3.block _ hlt).trans (h.2.2 q hq).1, fun hT => ?_, (h.2.2 q hq).2.2⟩
    rcases hG _ hT with h' | h'
    · exact (h.2.2 q hq).2.1 h'
    · omega
theorem CJ.radd (h : CJ w W b s v1 v2 t L) (p : Perm) (hs1 : p.pid.size ≤ 140737488355328) (hs2 : p.psp.size ≤ 140737488355328) :
    Calls Tryd.prog 20 #[.agg #[v1, v2], p.val] W fun e w' => ∃ A1 c1 A2 c2, e = .returned (.tuple #[.agg #[.slice A1 (addP t.1 p).length c1, .slice A2 (addL t.1 t.2 p).length c2], .int .i64 (addE t.1 p)]) ∧ CJ w w' b s (.slice A1 (addP t.1 p).length c1) (.slice A2 (addL t.1 t.2 p).length c2) (addP t.1 p, addL t.1 t.2 p) L ∧ Below W.heap.size W w' :=
  (rAdd_any _ v1 v2 t.1 t.2 p W h.2.1 hs1 hs2).mono fun _ _ hn => h.next hn
theorem CJ.ruse (h : CJ w W b s v1 v2 t L) (i : ByteArray) (v : Int) :
    Calls Tryd.prog 22 #[.agg #[v1, v2], .string i, .int .i64 v] W fun e w' => ∃ A1 c1 A2 c2, e = .returned (.tuple #[.agg #[.slice A1 t.1.length c1, .slice A2 (useL t.1 t.2 i v).length c2], .int .i64 (useE t.1 t.2 i v)]) ∧ CJ w w' b s (.slice A1 t.1.length c1) (.slice A2 (useL t.1 t.2 i v).length c2) (t.1, useL t.1 t.2 i v) L ∧ Below W.heap.size W w' :=
  (rUse_any _ v1 v2 t.1 t.2 i v W h.2.1).mono fun _ _ hn => h.next hn
theorem CJ.rfell (h : CJ w W b s v1 v2 t L) (i sp : ByteArray) (x : Int) :
    Calls Tryd.prog 25 #[.agg #[v1, v2], .string i, .string sp, .int .i64 x] W fun e w' => e = .returned (.int .i64 (fellE t.1 i sp x)) ∧ Below W.heap.size W w' := rFell_any _ v1 v2 t.1 t.2 i sp x W h.2.1
theorem CJ.rleft (h : CJ w W b s v1 v2 t L) (i : ByteArray) :
    Calls Tryd.prog 27 #[.agg #[v1, v2], .string i] W fun e w' => e = .returned (.tuple #[.int .i64 (leftN t.1 t.2 i), .bool (leftB t.1 i)]) ∧ Below W.heap.size W w' := rLeft_any _ v1 v2 t.1 t.2 i W h.2.1
/-- the cells of a block of L are stored -/
theorem CJ.set {L' : List (Nat × Obj)} {g : Nat} {cs : Array Value} {ty : TypeId} (h : CJ w W b s v1 v2 t L) (hg : (g, Obj.cells cs ty (0, 0)) ∈ L) (j : Nat) (u : Value) (hL : ∀ q ∈ L', q = (g, Obj.cells (cs.setIfInBounds j u) ty (0, 0)) ∨ q ∈ L ∧ q.1 ≠ g) : CJ w (W.setCell ⟨g, j, none⟩ u) b s v1 v2 t L' := by
  have hgL := h.2.2 _ hg
  have hk : Keeps (fun k => k = g) W (W.setCell ⟨g, j, none⟩ u) := Keeps.setCell (fun k => k = g) W (p := ⟨g, j, none⟩) rfl u
  refine ⟨(h.1.set (.inr ⟨_, hg, rfl⟩) hgL.2.2 j u).sub (fun k hk => ?_), h.2.1.keep hk (fun k hT e => hgL.2.1 (by rw [e] at hT; exact hT)), fun q hq => ?_⟩
  · rcases hk with hk | ⟨q, hq, e⟩
    · exact .inl hk
    · rcases hL q hq with rfl | ⟨hq, _⟩
      · exact .inr ⟨_, hg, e⟩
      · exact .inr ⟨q, hq, e⟩
  · rcases hL q hq with rfl | ⟨hq, hne⟩
    · exact ⟨heap_setCell_same W g j _ _ _ hgL.1, hgL.2.1, hgL.2.2⟩
    · exact ⟨(heap_setCell_other W ⟨g, j, none⟩ q.1 _ hne).trans (h.2.2 q hq).1, (h.2.2 q hq).2⟩
theorem CJ.start (h : Ap w W b ([], []) (fun _ => False)) (ty : TypeId) : CJ w (W.alloc (.cells #[.slice none 0 0, .slice none 0 0] ty)) b ([], []) (.slice none 0 0) (.slice none 0 0) ([], []) [(W.heap.size, .cells #[.slice none 0 0, .slice none 0 0] ty (0, 0))] := by
  have h0 : CJ w W b ([], []) (.slice none 0 0) (.slice none 0 0) ([], []) [] :=
    ⟨h.sub (fun k hk => by rcases hk with (hk | hk) | ⟨q, hq, _⟩; simp [Value.ownBlock] at hk; simp [Value.ownBlock] at hk; simp at hq), RReg.nil _ _, fun q hq => by simp at hq⟩
  exact h0.alloc _
end
end Go.Proofs.YtgonghmihghhnaaDoor.Pe
