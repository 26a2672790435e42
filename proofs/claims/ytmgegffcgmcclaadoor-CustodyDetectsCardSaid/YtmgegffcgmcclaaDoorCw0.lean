/- the law CustodyDetects, plain. -/
import Derived.Test.YtmgegffcgmcclaaDoorRh11
import Derived.Test.YtmgegffcgmcclaaDoorRowCu2
namespace Go.Proofs.YtmgegffcgmcclaaDoor.Cu
open Go.RowKit Go.Proofs.YtmgegffcgmcclaaDoor.Id Go.Maps

def chgL (x : Lk) (f : Int) (z : Lk) : Lk :=
  if f = 0 then { x with it := z.it } else if f = 1 then { x with pa := z.pa } else if f = 2 then { x with sp := z.sp } else if f = 3 then { x with t := z.t } else if f = 4 then { x with vo := z.vo } else { x with ha := z.ha }
theorem chgL_small {x z : Lk} {f : Int} (h : x.it.size ≤ 1000 ∧ x.pa.size ≤ 1000 ∧ x.sp.size ≤ 1000) (hz : z.it.size ≤ 100 ∧ z.pa.size ≤ 100 ∧ z.sp.size ≤ 100) : (chgL x f z).it.size ≤ 1000 ∧ (chgL x f z).pa.size ≤ 1000 ∧ (chgL x f z).sp.size ≤ 1000 := by
  obtain ⟨h1, h2, h3⟩ := h
  obtain ⟨z1, z2, z3⟩ := hz
  unfold chgL
  split
  · exact ⟨by show z.it.size ≤ 1000; omega, h2, h3⟩
  split
  · exact ⟨h1, by show z.pa.size ≤ 1000; omega, h3⟩
  split
  · exact ⟨h1, h2, by show z.sp.size ≤ 1000; omega⟩
  split
  · exact ⟨h1, h2, h3⟩
  split
  · exact ⟨h1, h2, h3⟩
  · exact ⟨h1, h2, h3⟩
theorem detect {ls : List Lk} (hG : Good ls) {k : Nat} {x : Lk} (y : Lk) (hx : ls[k]? = some x) : ((verF [] (ls.set k y)).2 ≠ 0 ∧ (verF [] (ls.set k y)).1 = k) ∨ (canE (ls.take k) y = 0 ∧ afterH (ls.take k) y = y.ha) := by
  have hk := (List.getElem?_eq_some_iff.1 hx).1
  have hl : (ls.take k).length = k := by rw [List.length_take]; omega
  have e : ls.set k y = ls.take k ++ y :: ls.drop (k + 1) := by rw [List.set_eq_take_append_cons_drop, if_pos hk]
  rw [e, verF_app (ls.take k) [] _ (hG.take k).ver, List.nil_append, verF]
  by_cases c1 : canE (ls.take k) y = 0
  · rw [if_neg (by simp [c1])]
    by_cases c2 : afterH (ls.take k) y = y.ha
    · exact .inr ⟨c1, c2⟩
    · rw [if_pos c2]
      exact .inl ⟨by simp, by simp [hl]⟩
  · rw [if_pos c1]
    exact .inl ⟨c1, by simp [hl]⟩
theorem set_small {ls : List Lk} (h : ∀ (i : Nat) (x : Lk), ls[i]? = some x → x.it.size ≤ 1000 ∧ x.pa.size ≤ 1000 ∧ x.sp.size ≤ 1000) {k : Nat} {y : Lk} (hy : y.it.size ≤ 1000 ∧ y.pa.size ≤ 1000 ∧ y.sp.size ≤ 1000) : ∀ (i : Nat) (x : Lk), (ls.set k y)[i]? = some x → x.it.size ≤ 1000 ∧ x.pa.size ≤ 1000 ∧ x.sp.size ≤ 1000 := by
  intro i x hx
  rw [List.getElem?_set] at hx
  split at hx
  · split at hx
    · obtain rfl := Option.some.inj hx
      exact hy
    · simp at hx
  · exact h i x hx
/-- the cells of the row in which one link was replaced -/
theorem kcells_set {ls : List Lk} {k : Nat} (hk : k < ls.length) (y : Lk) {j : Nat} {u : Value} (h : (kcells (ls.set k y))[j]? = some u) : (∃ r, r < 6 ∧ j = k * 6 + r ∧ y.cells[r]? = some u) ∨ ((∀ r, r < 6 → j ≠ k * 6 + r) ∧ (kcells ls)[j]? = some u) := by
  have hj := (List.getElem?_eq_some_iff.1 h).1
  rw [kcells_len, List.length_set] at hj
  have hj2 : j = j / 6 * 6 + j % 6 := by omega
  have hr : j % 6 < 6 := Nat.mod_lt _ (by decide)
  have hi : j / 6 < ls.length := by omega
  generalize j / 6 = i at hj2 hi
  generalize j % 6 = r at hj2 hr
  subst hj2
  by_cases e : i = k
  · subst e
    refine .inl ⟨r, hr, rfl, ?_⟩
    rw [kcells_at (x := y) (by rw [List.getElem?_set, if_pos rfl, if_pos hi]) hr] at h
    exact h
  · refine .inr ⟨fun s hs => by omega, ?_⟩
    have hz : ls[i]? = some ls[i] := List.getElem?_eq_getElem hi
    rw [kcells_at (x := ls[i]) (by rw [List.getElem?_set, if_neg (fun h => e h.symm)]; exact hz) hr] at h
    rw [kcells_at hz hr]
    exact h
end Go.Proofs.YtmgegffcgmcclaaDoor.Cu
