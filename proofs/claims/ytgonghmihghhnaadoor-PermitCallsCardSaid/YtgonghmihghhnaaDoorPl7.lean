/- the law PermitTwice: the plain part; two registers. -/
import Derived.Test.YtgonghmihghhnaaDoorPl6
namespace Go.Proofs.YtgonghmihghhnaaDoor.Pe
open Go.RowKit Go.Proofs.YtgonghmihghhnaaDoor.Id

theorem twice_none {ps : List Perm} {s : ByteArray} (h : findI ps s = -1) (ls : List Int) (v : Int) : useE ps ls s v = 8 ∧ useL ps ls s v = ls ∧ leftB ps s = false := by
  have e : useE ps ls s v = 8 := by simp [useE, h]
  exact ⟨e, by simp [useL, e], by simp [leftB, h]⟩
/-- a use that is granted, one that is not -/
theorem use_yes {ps : List Perm} {ls : List Int} {s : ByteArray} {k : Nat} {l v : Int} (h : findI ps s = k) (hl : ls[k]? = some l) (h1 : 1 ≤ v) (h2 : v ≤ 1125899906842624) (h3 : v ≤ l) : useE ps ls s v = 0 ∧ useL ps ls s v = ls.set k (l - v) ∧ (ls.set k (l - v))[k]? = some (l - v) := by
  have e : useE ps ls s v = 0 := by rw [useE_at h hl, if_neg (by omega), if_neg (by omega)]
  refine ⟨e, useL_at h hl e, ?_⟩
  rw [List.getElem?_set, if_pos rfl, if_pos (List.getElem?_eq_some_iff.1 hl).1]
theorem use_no {ps : List Perm} {ls : List Int} {s : ByteArray} {k : Nat} {l v : Int} (h : findI ps s = k) (hl : ls[k]? = some l) (h1 : 1 ≤ v) (h2 : v ≤ 1125899906842624) (h3 : l < v) : useE ps ls s v = 23 ∧ useL ps ls s v = ls := by
  have e : useE ps ls s v = 23 := by rw [useE_at h hl, if_neg (by omega), if_pos h3]
  exact ⟨e, by simp [useL, e]⟩
/-- two registers in one world, and a block that is no part of them -/
def Both (w W : World) (a b : Nat) (ps : List Perm) (la lb : List Int) (g : Nat) (o : Obj) : Prop :=
  ∃ Fa Fb, Reg W Fa a ps la ∧ Reg W Fb b ps lb ∧ (∀ k, Fa k → w.heap.size ≤ k) ∧ (∀ k, Fb k → w.heap.size ≤ k) ∧ (∀ k, Fa k → ¬ Fb k) ∧ Below w.heap.size w W ∧ ¬ Fa g ∧ ¬ Fb g ∧ W.heap[g]? = some o
theorem Both.below {w W W' : World} {a b g : Nat} {ps : List Perm} {la lb : List Int} {o : Obj} (h : Both w W a b ps la lb g o) (hb : Below W.heap.size W W') : Both w W' a b ps la lb g o := by
  obtain ⟨Fa, Fb, h1, h2, h3, h4, h5, h6, h7, h8, h9⟩ := h
  exact ⟨Fa, Fb, h1.below hb, h2.below hb, h3, h4, h5, bT h6 hb, h7, h8, (hb.block _ (Array.getElem?_eq_some_iff.1 h9).1).trans h9⟩
theorem Both.useA {w W : World} {a b g : Nat} {ps : List Perm} {la lb : List Int} {o : Obj} (h : Both w W a b ps la lb g o) (s : ByteArray) (v : Int) :
    Calls Tryd.prog 23 #[.pointer (some ⟨a, 0, none⟩), .string s, .int .i64 v] W fun e w' => e = .returned (.int .i64 (useE ps la s v)) ∧ Both w w' a b ps (useL ps la s v) lb g o := by
  obtain ⟨Fa, Fb, h1, h2, h3, h4, h5, h6, h7, h8, h9⟩ := h
  refine (Use_any a Fa ps la s v W h1).mono ?_
  rintro e w' ⟨rfl, k1, k2⟩
  exact ⟨rfl, Fa, Fb, k1, h2.keep k2 (fun k hb ha => h5 k ha hb), h3, h4, h5, h6.trans (k2.below h3 h6.size), h7, h8, (k2.block _ (Array.getElem?_eq_some_iff.1 h9).1 h7).trans h9⟩
theorem Both.useB {w W : World} {a b g : Nat} {ps : List Perm} {la lb : List Int} {o : Obj} (h : Both w W a b ps la lb g o) (s : ByteArray) (v : Int) :
    Calls Tryd.prog 23 #[.pointer (some ⟨b, 0, none⟩), .string s, .int .i64 v] W fun e w' => e = .returned (.int .i64 (useE ps lb s v)) ∧ Both w w' a b ps la (useL ps lb s v) g o := by
  obtain ⟨Fa, Fb, h1, h2, h3, h4, h5, h6, h7, h8, h9⟩ := h
  refine (Use_any b Fb ps lb s v W h2).mono ?_
  rintro e w' ⟨rfl, k1, k2⟩
  exact ⟨rfl, Fa, Fb, h1.keep k2 (fun k ha hb => h5 k ha hb), k1, h3, h4, h5, h6.trans (k2.below h4 h6.size), h7, h8, (k2.block _ (Array.getElem?_eq_some_iff.1 h9).1 h8).trans h9⟩
theorem Both.leftA {w W : World} {a b g : Nat} {ps : List Perm} {la lb : List Int} {o : Obj} (h : Both w W a b ps la lb g o) (s : ByteArray) :
    Calls Tryd.prog 26 #[.pointer (some ⟨a, 0, none⟩), .string s] W fun e w' => e = .returned (.tuple #[.int .i64 (leftN ps la s), .bool (leftB ps s)]) ∧ Below W.heap.size W w' := by
  obtain ⟨Fa, Fb, h1, _⟩ := h
  exact Left_any a Fa ps la s W h1
theorem Both.leftB {w W : World} {a b g : Nat} {ps : List Perm} {la lb : List Int} {o : Obj} (h : Both w W a b ps la lb g o) (s : ByteArray) :
    Calls Tryd.prog 26 #[.pointer (some ⟨b, 0, none⟩), .string s] W fun e w' => e = .returned (.tuple #[.int .i64 (leftN ps lb s), .bool (Pe.leftB ps s)]) ∧ Below W.heap.size W w' := by
  obtain ⟨Fa, Fb, _, h2, _⟩ := h
  exact Left_any b Fb ps lb s W h2
/-- the second play, behind the first -/
theorem Both.mk' {w w2 W : World} {a b g : Nat} {ps : List Perm} {ls : List Int} {o : Obj} (hA : Live w w2 a (ps, ls)) (hg : w.heap[g]? = some o) (hB : Live w2 W b (ps, ls)) : Both w W a b ps ls ls g o := by
  obtain ⟨Fa, h1, h2, h3⟩ := hA
  obtain ⟨F0, k1, k2⟩ := h1.tight
  obtain ⟨Fb, j1, j2, j3⟩ := hB
  have s3 := h3.size
  have gl := (Array.getElem?_eq_some_iff.1 hg).1
  exact ⟨F0, Fb, k1.below j3, j1, fun k hk => h2 k (k2 k hk).1, fun k hk => by have := j2 k hk; omega, fun k hk hb => by have := j2 k hb; have := (k2 k hk).2; omega, bT h3 j3,
    fun hk => by have := h2 g (k2 g hk).1; omega, fun hk => by have := j2 g hk; omega, (j3.block g (by omega)).trans ((h3.block g gl).trans hg)⟩
end Go.Proofs.YtgonghmihghhnaaDoor.Pe
