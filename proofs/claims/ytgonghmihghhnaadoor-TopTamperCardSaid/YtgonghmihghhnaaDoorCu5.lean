/- custody: what a link that can be added brings, plain. -/
import Derived.Test.YtgonghmihghhnaaDoorCu4
namespace Go.Proofs.YtgonghmihghhnaaDoor.Cu
open Go.RowKit Go.Proofs.YtgonghmihghhnaaDoor.Id Go.Maps

theorem wrap_range (z : Int) : 0 ≤ IntKind.u64.wrap z ∧ IntKind.u64.wrap z < 18446744073709551616 := by
  rw [IntKind.wrap_u64]; omega
theorem fnv_range : ∀ (l : List UInt8) (h : Int), 0 ≤ h ∧ h < 18446744073709551616 → 0 ≤ fnv h l ∧ fnv h l < 18446744073709551616
  | [], _, hh => hh
  | c :: l, h, _ => fnv_range l (fstep h c) (wrap_range _)
theorem hash_range (prev : Int) (x : Lk) : 0 ≤ hashL prev x ∧ hashL prev x < 18446744073709551616 := fnv_range _ _ (fnv_range _ _ ⟨by decide, by decide⟩)
theorem split_size {s : ByteArray} (h : splitE s.data.toList = 0) : s.size = 8 := by
  by_cases e : s.size = 8
  · exact e
  · rw [splitE_short e] at h; omega
theorem name_size {s : ByteArray} (h : nameB s.data.toList = true) : s.size ≤ 16 := by
  have e : s.data.toList.length = s.size := by rw [Array.length_toList]; rfl
  rw [← e]
  generalize s.data.toList = l at h
  unfold nameB at h
  simp at h
  omega
theorem canU_zero {ls : List Lk} {x u : Lk} (h : canU ls x u = 0) : u.t ≤ x.t ∧ 0 ≤ x.t ∧ x.t ≤ 10000000 ∧ nameB x.sp.data.toList = true ∧ x.sp = u.sp ∧ 0 ≤ x.vo ∧ x.vo ≤ 1125899906842624 ∧ (x.pa = emptyB ∨ volS ls x.pa + x.vo ≤ u.vo) ∧ ls.length < 1024 := by
  unfold canU at h
  split at h
  · omega
  split at h
  · omega
  rename_i h2
  split at h
  · omega
  split at h
  · omega
  rename_i h4
  split at h
  · omega
  simp only [not_or, Bool.not_eq_false, ne_eq, Decidable.not_not] at h2
  refine ⟨by omega, by omega, by omega, h2.1, h2.2, by omega, by omega, ?_, by omega⟩
  by_cases hp : x.pa = emptyB
  · exact .inl hp
  · right
    by_cases hq : volS ls x.pa + x.vo ≤ u.vo
    · exact hq
    · exact absurd ⟨hp, by omega⟩ h4
theorem canE_zero {ls : List Lk} {x : Lk} (h : canE ls x = 0) : nameOk x = true ∧ atI ls x.it < 0 ∧ ∃ u, upO ls x = some u ∧ canU ls x u = 0 := by
  unfold canE at h
  split at h
  · omega
  rename_i h1
  split at h
  · omega
  split at h
  · omega
  · rename_i u hu
    exact ⟨by simpa using h1, by omega, u, hu, h⟩
theorem nameOk_split {x : Lk} (h : nameOk x = true) : splitE x.it.data.toList = 0 ∧ (splitK x.it.data.toList = 80 ↔ x.pa = emptyB) := by
  simp only [nameOk, Bool.and_eq_true, decide_eq_true_eq, beq_iff_eq] at h
  refine ⟨h.1, ?_⟩
  have := h.2
  constructor
  · intro e; rw [decide_eq_true e] at this; simpa using this.symm
  · intro e; rw [decide_eq_true (p := x.pa = emptyB) e] at this; simpa using this
theorem snoc_at {α : Type} {l : List α} {x y : α} {i : Nat} (h : (l ++ [x])[i]? = some y) : l[i]? = some y ∨ i = l.length ∧ y = x := by
  rw [List.getElem?_append] at h
  split at h
  · exact .inl h
  · rename_i hi
    rw [List.getElem?_singleton] at h
    split at h
    · rename_i h0
      exact .inr ⟨by omega, by simpa using h.symm⟩
    · simp at h
theorem CInv.add {ls : List Lk} (hI : CInv ls) {x : Lk} (h : canE ls x = 0) : CInv (ls ++ [withH x (afterH ls x)]) := by
  obtain ⟨h1, h2, u, hu, hc⟩ := canE_zero h
  obtain ⟨c1, c2, c3, c4, c5, c6, c7, c8, c9⟩ := canU_zero hc
  obtain ⟨s1, s2⟩ := nameOk_split h1
  have hr := hash_range (upH ls x) x
  have hat : ∀ s, atI (ls ++ [withH x (afterH ls x)]) s = if x.it = s then (ls.length : Int) else atI ls s := fun s => atI_snoc ls (withH x (afterH ls x)) s h2
  have hpar : x.pa = emptyB ∨ (0 ≤ atI ls x.pa ∧ atI ls x.pa < ls.length ∧ x.pa.size = 8) := by
    rcases upO_cases ls x with ⟨h, _⟩ | ⟨_, _, h⟩ | ⟨k, p, _, h3, h4, _⟩
    · exact .inl h
    · rw [hu] at h; cases h
    · right
      have hk := (List.getElem?_eq_some_iff.1 h4).1
      rcases atI_cases ls x.pa with ⟨h, _⟩ | ⟨k', p', h6, h7, h8, _⟩
      · omega
      · have := (hI.each k' p' h6).2.2.2.2.1
        rw [h8] at this
        exact ⟨by omega, by omega, this⟩
  refine ⟨by simp; omega, fun i y hy => ?_, fun i y hy => ?_, fun i y hy => ?_⟩
  · rcases snoc_at hy with h | ⟨_, rfl⟩
    · exact hI.each i y h
    · refine ⟨c6, c7, c2, c3, split_size s1, ?_, name_size c4, hr.1, hr.2⟩
      rcases hpar with h | h
      · show x.pa.size ≤ 8
        rw [h]; decide
      · exact Nat.le_of_eq h.2.2
  · rw [hat]
    rcases snoc_at hy with h | ⟨rfl, rfl⟩
    · have hd := hI.dist i y h
      have : x.it ≠ y.it := fun e => by rw [e, hd] at h2; omega
      rw [if_neg this, hd]
    · exact if_pos rfl
  · rw [hat]
    rcases snoc_at hy with h | ⟨rfl, rfl⟩
    · rcases hI.up i y h with h' | ⟨h3, h4⟩
      · exact .inl h'
      · right
        have : x.it ≠ y.pa := fun e => by rw [e] at h2; omega
        rw [if_neg this]
        exact ⟨h3, h4⟩
    · rcases hpar with h | h
      · exact .inl h
      · right
        have : x.it ≠ x.pa := fun e => by rw [e] at h2; omega
        show 0 ≤ (if x.it = x.pa then (ls.length : Int) else atI ls x.pa) ∧ (if x.it = x.pa then (ls.length : Int) else atI ls x.pa) < _
        rw [if_neg this]
        exact ⟨h.1, h.2.1⟩
end Go.Proofs.YtgonghmihghhnaaDoor.Cu
