/- custody: Trace and Root, walked. -/
import Derived.Test.YtgonghmihghhnaaDoorCu8
namespace Go.Proofs.YtgonghmihghhnaaDoor.Cu
open Go.RowKit Go.Proofs.YtgonghmihghhnaaDoor.Id Go.Maps

/-- the links from an item to the root -/
def trF : Nat → List Lk → ByteArray → List Lk
  | 0, _, _ => []
  | f + 1, ls, s => if atI ls s < 0 then [] else match ls[(atI ls s).toNat]? with
    | some x => x :: (if x.pa = emptyB then [] else trF f ls x.pa)
    | none => []
def traceL (ls : List Lk) (s : ByteArray) : List Lk := trF (ls.length + 1) ls s
theorem trF_more {ls : List Lk} (hI : CInv ls) : ∀ (f g : Nat) (s : ByteArray), atI ls s < f → atI ls s < g → trF f ls s = trF g ls s
  | 0, g, s, h1, _ => by
    have : atI ls s < 0 := by omega
    cases g with
    | zero => rfl
    | succ g => simp [trF, this]
  | f + 1, 0, s, _, h2 => by
    have : atI ls s < 0 := by omega
    simp [trF, this]
  | f + 1, g + 1, s, h1, h2 => by
    rcases atI_cases ls s with ⟨h, _⟩ | ⟨k, x, hx, h, hs, _⟩
    · simp [trF, h]
    · have h0 : ¬ ((k : Int) < 0) := by omega
      simp only [trF, h, h0, if_false, Int.toNat_natCast, hx]
      by_cases e : x.pa = emptyB
      · simp [e]
      · rcases hI.up k x hx with h' | ⟨h3, h4⟩
        · exact absurd h' e
        · rw [if_neg e, if_neg e, trF_more hI f g x.pa (by omega) (by omega)]
theorem traceL_step {ls : List Lk} (hI : CInv ls) {s : ByteArray} {k : Nat} {x : Lk} (hx : ls[k]? = some x) (h : atI ls s = k) : traceL ls s = x :: (if x.pa = emptyB then [] else traceL ls x.pa) := by
  have hk := (List.getElem?_eq_some_iff.1 hx).1
  have h0 : ¬ ((k : Int) < 0) := by omega
  unfold traceL
  rw [trF]
  simp only [h, h0, if_false, Int.toNat_natCast, hx]
  by_cases e : x.pa = emptyB
  · simp [e]
  · rcases hI.up k x hx with h' | ⟨h3, h4⟩
    · exact absurd h' e
    · rw [if_neg e, if_neg e, trF_more hI ls.length (ls.length + 1) x.pa (by omega) (by omega)]
theorem traceL_none {ls : List Lk} {s : ByteArray} (h : atI ls s < 0) : traceL ls s = [] := by simp [traceL, trF, h]
theorem trF_len : ∀ (f : Nat) (ls : List Lk) (s : ByteArray), (trF f ls s).length ≤ f
  | 0, _, _ => by simp [trF]
  | f + 1, ls, s => by
    rw [trF]
    split
    · simp
    split
    · rw [List.length_cons]
      split
      · simp
      · have := trF_len f ls
        have h2 := this (by assumption : Lk).pa
        omega
    · simp
def strOf : Value → ByteArray
  | .string s => s
  | _ => emptyB
end Go.Proofs.YtgonghmihghhnaaDoor.Cu
