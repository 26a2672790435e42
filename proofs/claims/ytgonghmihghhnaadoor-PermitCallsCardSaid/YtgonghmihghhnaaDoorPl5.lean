/- the law PermitFells. -/
import Derived.Test.YtgonghmihghhnaaDoorPl4
namespace Go.Proofs.YtgonghmihghhnaaDoor.Pe
open Go.RowKit Go.Proofs.YtgonghmihghhnaaDoor.Id

/-- no two permits of a register have one code -/
def Dist (ps : List Perm) : Prop := ∀ (i j : Nat) (p q : Perm), ps[i]? = some p → ps[j]? = some q → p.pid = q.pid → i = j
theorem Dist.nil : Dist [] := fun i j p q h => by simp at h
theorem addE_new {ps : List Perm} {p : Perm} (h : addE ps p = 0) : findI ps p.pid < 0 := by
  unfold addE at h
  split at h
  · omega
  split at h
  · omega
  omega
theorem Dist.add {ps : List Perm} (h : Dist ps) (p : Perm) : Dist (addP ps p) := by
  unfold addP
  by_cases e : addE ps p = 0
  · rw [if_pos e]
    have hn := addE_new e
    have hno : ∀ (j : Nat) (q : Perm), ps[j]? = some q → q.pid ≠ p.pid := by
      rcases findI_cases ps p.pid with ⟨_, h2⟩ | ⟨k, _, _, h2, _⟩
      · exact h2
      · omega
    intro i j a b ha hb hab
    rw [List.getElem?_append] at ha hb
    split at ha <;> split at hb
    · exact h i j a b ha hb hab
    · rename_i h1 h2
      have hj : j - ps.length = 0 := by have := (List.getElem?_eq_some_iff.1 hb).1; simp at this; omega
      rw [hj] at hb
      obtain rfl : p = b := by simpa using hb
      exact absurd hab (hno i a ha)
    · rename_i h1 h2
      have hj : i - ps.length = 0 := by have := (List.getElem?_eq_some_iff.1 ha).1; simp at this; omega
      rw [hj] at ha
      obtain rfl : p = a := by simpa using ha
      exact absurd hab.symm (hno j b hb)
    · have h1 := (List.getElem?_eq_some_iff.1 ha).1
      have h2 := (List.getElem?_eq_some_iff.1 hb).1
      simp at h1 h2
      omega
  · rw [if_neg e]; exact h
theorem Dist.find {ps : List Perm} (h : Dist ps) {i : Nat} {p : Perm} (hp : ps[i]? = some p) : findI ps p.pid = i :=
  findI_hit hp (fun j q hj hq e => by have := h j i q p hq hp e; omega) rfl
theorem pst_dist (os : List OpP) (k : Nat) : Dist (pst os k).1 := by
  induction k with
  | zero => rw [pst_zero]; exact Dist.nil
  | succ k ih =>
    by_cases hk : k < os.length
    · rw [pst_succ (List.getElem?_eq_getElem hk)]
      unfold pstep
      split
      · exact ih.add _
      split
      · exact ih
      · exact ih
    · have : pst os (k + 1) = pst os k := by
        unfold pst
        rw [List.take_of_length_le (by omega), List.take_of_length_le (by omega)]
      rw [this]; exact ih
theorem Live.stay {w W : World} {b : Nat} {s : List Perm × List Int} (h : Live w W b s) : Stay w W b s [] := by
  obtain ⟨F, h1, h2, h3⟩ := h
  exact ⟨F, h1, h2, h3, fun q hq => by simp at hq⟩
end Go.Proofs.YtgonghmihghhnaaDoor.Pe
