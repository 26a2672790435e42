/- custody: the program's register in a world. -/
import Derived.Test.YtgonghmihghhnaaDoorCu0
import Derived.Test.YtgonghmihghhnaaDoorMem4
import Derived.Maps.OwnSet
import Derived.Maps.OwnOps
import Derived.StringKeys
namespace Go.Proofs.YtgonghmihghhnaaDoor.Cu
open Go.RowKit Go.Proofs.YtgonghmihghhnaaDoor.Id Go.Maps

theorem und_string : Tryd.prog.underlying 9 = some .string := by kernel_rfl
theorem und_int : Tryd.prog.underlying 3 = some (.int .i64) := by kernel_rfl
theorem und_map : Tryd.prog.underlying 77 = some (.map 9 3) := by kernel_rfl
theorem und_links : Tryd.prog.underlying 33 = some (.slice 36) := by kernel_rfl
theorem infoLink : (Tryd.prog.info? 36).map (fun i => (i.zero, i.size, i.bytes)) = some (some (.agg #[.string ⟨#[]⟩, .string ⟨#[]⟩, .int .i64 0, .int .i64 0, .string ⟨#[]⟩, .int .u64 0]), 6, 72) := by kernel_rfl
theorem slaw : Keyed Tryd.prog 9 := string_keyed und_string
theorem zeroI (w : World) : (zeroValue 3).run Tryd.prog w = .ok (.int .i64 0) w := by kernel_rfl
def kL (s : ByteArray) : Lit := .string s.data.toList
theorem kL_key {s : ByteArray} (h : s.size ≤ maxLen) : keyOf Tryd.prog 9 (.string s) = some (kL s) := Go.WideMaps.keyOf_string_mk und_string h
theorem kL_ne {a b : ByteArray} (h : a ≠ b) : kL a ≠ kL b := fun e => by
  unfold kL at e
  injection e with e
  exact h (ByteArray.ext (Array.toList_inj.1 e))
def iD (n : Int) : DataW Unit := .lit (.int .i64 n)
/-- the map of the places -/
def IsAt (D : DataW Unit) (ls : List Lk) : Prop := IsMap D ∧ ∀ s : ByteArray, Maps.has D (kL s) = decide (0 ≤ atI ls s) ∧ (0 ≤ atI ls s → D.atKey (kL s) (iD 0) = iD (atI ls s))
theorem IsAt.nil : IsAt (.map []) [] := ⟨isMap_empty, fun s => ⟨rfl, fun h => by simp [atI, atFrom] at h⟩⟩
theorem IsAt.put {D : DataW Unit} {ls : List Lk} (h : IsAt D ls) {x : Lk} (hx : atI ls x.it < 0) : IsAt (D.put (kL x.it) (iD ls.length)) (ls ++ [x]) := by
  refine ⟨h.1.put _ _, fun s => ?_⟩
  rw [atI_snoc ls x s hx]
  by_cases e : x.it = s
  · subst e
    rw [if_pos rfl, has_put_same h.1 (k := kL x.it) trivial]
    exact ⟨by simp, fun _ => atKey_put_same h.1 (k := kL x.it) trivial _ _⟩
  · rw [if_neg e, has_put_other (kL_ne (fun e2 => e e2.symm))]
    refine ⟨(h.2 s).1, fun hs => ?_⟩
    rw [atKey_put_other (kL_ne (fun e2 => e e2.symm))]
    exact (h.2 s).2 hs
/-- the map of the volumes -/
def IsUsed (D : DataW Unit) (ls : List Lk) : Prop := IsMap D ∧ ∀ s : ByteArray, D.atKey (kL s) (iD 0) = iD (volS ls s)
theorem IsUsed.nil : IsUsed (.map []) [] := ⟨isMap_empty, fun _ => rfl⟩
theorem IsUsed.put {D : DataW Unit} {ls : List Lk} (h : IsUsed D ls) (x : Lk) : IsUsed (D.put (kL x.pa) (iD (volS ls x.pa + x.vo))) (ls ++ [x]) := by
  refine ⟨h.1.put _ _, fun s => ?_⟩
  rw [volS_snoc]
  by_cases e : x.pa = s
  · subst e
    rw [if_pos rfl, atKey_put_same h.1 (k := kL x.pa) trivial]
  · rw [if_neg e, atKey_put_other (kL_ne (fun e2 => e e2.symm)), h.2 s, Int.add_zero]

/-- what is so of all links of a register -/
structure CInv (ls : List Lk) : Prop where
  len : ls.length ≤ 1024
  each : ∀ (i : Nat) (x : Lk), ls[i]? = some x → 0 ≤ x.vo ∧ x.vo ≤ 1125899906842624 ∧ 0 ≤ x.t ∧ x.t ≤ 10000000 ∧ x.it.size = 8 ∧ x.pa.size ≤ 8 ∧ x.sp.size ≤ 16 ∧ 0 ≤ x.ha ∧ x.ha < 18446744073709551616
  dist : ∀ (i : Nat) (x : Lk), ls[i]? = some x → atI ls x.it = i
  up : ∀ (i : Nat) (x : Lk), ls[i]? = some x → x.pa = emptyB ∨ (0 ≤ atI ls x.pa ∧ atI ls x.pa < i)
theorem CInv.nil : CInv [] := ⟨by simp, fun i x h => by simp at h, fun i x h => by simp at h, fun i x h => by simp at h⟩
theorem volS_range {ls : List Lk} (h : ∀ (i : Nat) (x : Lk), ls[i]? = some x → 0 ≤ x.vo ∧ x.vo ≤ 1125899906842624) (s : ByteArray) : 0 ≤ volS ls s ∧ volS ls s ≤ ls.length * 1125899906842624 := by
  induction ls with
  | nil => simp [volS]
  | cons x r ih =>
    have h0 := h 0 x rfl
    have h1 := ih (fun i y hy => h (i + 1) y (by simpa using hy))
    have e : volS (x :: r) s = (if x.pa = s then x.vo else 0) + volS r s := by simp [volS]
    rw [e, List.length_cons]
    split <;> omega
theorem CInv.vol {ls : List Lk} (h : CInv ls) (s : ByteArray) : 0 ≤ volS ls s ∧ volS ls s ≤ 1152921504606846976 := by
  have h1 := volS_range (fun i x hx => ⟨(h.each i x hx).1, (h.each i x hx).2.1⟩) s
  have h2 := h.len
  omega
/-- The register at b: its blocks are F. -/
def CReg (W : World) (F : Nat → Prop) (b : Nat) (ls : List Lk) : Prop :=
  ∃ v m1 m2 D1 D2, W.heap[b]? = some (.cells #[v, .map (some m1), .map (some m2)] 79 (0, 0)) ∧ W.ownsRow 0 36 6 v ls.length (kcells ls) ∧
    W.ownsMap Tryd.prog 9 (plainElem Tryd.prog 3) m1 ls.length D1 ∧ W.ownsMap Tryd.prog 9 (plainElem Tryd.prog 3) m2 ls.length D2 ∧
    IsAt D1 ls ∧ IsUsed D2 ls ∧ m1 ≠ m2 ∧ CInv ls ∧ F b ∧ F m1 ∧ F m2 ∧ (∀ k, v.ownBlock = some k → F k)
theorem map_keep {w w' : World} {b n : Nat} {D : DataW Unit} (h : w.ownsMap Tryd.prog 9 (plainElem Tryd.prog 3) b n D) (hk : w'.heap[b]? = w.heap[b]?) : w'.ownsMap Tryd.prog 9 (plainElem Tryd.prog 3) b n D := by
  obtain ⟨es, clock, hb, h2⟩ := h
  exact ⟨es, clock, hk.trans hb, h2⟩
theorem CReg.keep {W W' : World} {F G : Nat → Prop} {b : Nat} {ls : List Lk} (h : CReg W F b ls) (hk : Keeps G W W') (hG : ∀ k, F k → ¬ G k) : CReg W' F b ls := by
  obtain ⟨v, m1, m2, D1, D2, h1, h2, h3, h4, h5, h6, h7, h8, h9, h10, h11, h12⟩ := h
  exact ⟨v, m1, m2, D1, D2, (hk.block b (Array.getElem?_eq_some_iff.1 h1).1 (hG b h9)).trans h1, own_keep h2 (fun k e hlt => hk.block k hlt (hG k (h12 k e))), map_keep h3 (hk.block m1 h3.lt (hG m1 h10)), map_keep h4 (hk.block m2 h4.lt (hG m2 h11)), h5, h6, h7, h8, h9, h10, h11, h12⟩
theorem CReg.below {W W' : World} {F : Nat → Prop} {b : Nat} {ls : List Lk} (h : CReg W F b ls) (hk : Below W.heap.size W W') : CReg W' F b ls :=
  h.keep (Keeps.of_below (fun _ => False) hk) (fun _ _ h => h)
theorem CReg.inv {W : World} {F : Nat → Prop} {b : Nat} {ls : List Lk} (h : CReg W F b ls) : CInv ls := by obtain ⟨_, _, _, _, _, _, _, _, _, _, _, _, h, _⟩ := h; exact h
theorem CReg.tight {W : World} {F : Nat → Prop} {b : Nat} {ls : List Lk} (h : CReg W F b ls) : ∃ F0, CReg W F0 b ls ∧ ∀ k, F0 k → F k ∧ k < W.heap.size := by
  obtain ⟨v, m1, m2, D1, D2, h1, h2, h3, h4, h5, h6, h7, h8, h9, h10, h11, h12⟩ := h
  refine ⟨fun k => k = b ∨ k = m1 ∨ k = m2 ∨ v.ownBlock = some k, ⟨v, m1, m2, D1, D2, h1, h2, h3, h4, h5, h6, h7, h8, .inl rfl, .inr (.inl rfl), .inr (.inr (.inl rfl)), fun k e => .inr (.inr (.inr e))⟩, fun k hk => ?_⟩
  rcases hk with rfl | rfl | rfl | hk
  · exact ⟨h9, (Array.getElem?_eq_some_iff.1 h1).1⟩
  · exact ⟨h10, h3.lt⟩
  · exact ⟨h11, h4.lt⟩
  · exact ⟨h12 k hk, own_block_lt h2 k hk⟩
end Go.Proofs.YtgonghmihghhnaaDoor.Cu
