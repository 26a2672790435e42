/- the laws through the layers: the examples, plain. -/
import Derived.Test.YtgonghmihghhnaaDoorTh0
namespace Go.Proofs.YtgonghmihghhnaaDoor.Cu
open Go.RowKit Go.Proofs.YtgonghmihghhnaaDoor.Id Go.Maps

def bP1 : ByteArray := ⟨#[80, 48, 48, 48, 48, 48, 49, 68]⟩
def bL1 : ByteArray := ⟨#[76, 48, 48, 48, 48, 48, 49, 87]⟩
def bL2 : ByteArray := ⟨#[76, 48, 48, 48, 48, 48, 50, 71]⟩
def bB1 : ByteArray := ⟨#[66, 48, 48, 48, 48, 48, 49, 77]⟩
def bPi : ByteArray := ⟨#[112, 105, 110, 101]⟩
def xP : Lk := ⟨bP1, emptyB, 0, 100, bPi, 0⟩
def xL : Lk := ⟨bL1, bP1, 5, 80, bPi, 0⟩
def xM : Lk := ⟨bL1, bP1, 5, 79, bPi, 0⟩
def xB : Lk := ⟨bB1, bL1, 9, 30, bPi, 0⟩
def xG : Lk := ⟨bL2, bP1, 9, 21, bPi, 0⟩
def lA (h : Int) : List Lk := [withH xP h]
def lB (h k : Int) : List Lk := [withH xP h, withH xL k]
def lC (h k m : Int) : List Lk := [withH xP h, withH xL k, withH xB m]
def lD (h k m : Int) : List Lk := [withH xP h, withH xM k, withH xB m]
theorem can1 : canE [] xP = 0 := by kernel_rfl
theorem can2 (h : Int) : canE (lA h) xL = 0 := by kernel_rfl
theorem can2' (h : Int) : canE (lA h) xM = 0 := by kernel_rfl
theorem can3 (h k : Int) : canE (lB h k) xB = 0 := by kernel_rfl
theorem can4 (h k m : Int) : canE (lC h k m) xG = 23 := by kernel_rfl
theorem it0 : Lib.itoa 0 = [48] := by simp [Lib.itoa, Lib.decDigits]
theorem it5 : Lib.itoa 5 = [53] := by simp [Lib.itoa, Lib.decDigits]
theorem it80 : Lib.itoa 80 = [56, 48] := by simp [Lib.itoa, Lib.decDigits]
theorem it79 : Lib.itoa 79 = [55, 57] := by simp [Lib.itoa, Lib.decDigits]
theorem it100 : Lib.itoa 100 = [49, 48, 48] := by simp [Lib.itoa, Lib.decDigits]
def tx1 : List UInt8 := [80, 48, 48, 48, 48, 48, 49, 68, 32, 32, 112, 105, 110, 101, 32, 48, 32, 49, 48, 48]
def tx2 : List UInt8 := [76, 48, 48, 48, 48, 48, 49, 87, 32, 80, 48, 48, 48, 48, 48, 49, 68, 32, 112, 105, 110, 101, 32, 53, 32, 56, 48]
def tx2' : List UInt8 := [76, 48, 48, 48, 48, 48, 49, 87, 32, 80, 48, 48, 48, 48, 48, 49, 68, 32, 112, 105, 110, 101, 32, 53, 32, 55, 57]
theorem text1 : textL xP = tx1 := by
  unfold textL
  rw [show Lib.itoa xP.t = [48] from it0, show Lib.itoa xP.vo = [49, 48, 48] from it100]
  rfl
theorem text2 : textL xL = tx2 := by
  unfold textL
  rw [show Lib.itoa xL.t = [53] from it5, show Lib.itoa xL.vo = [56, 48] from it80]
  rfl
theorem text2' : textL xM = tx2' := by
  unfold textL
  rw [show Lib.itoa xM.t = [53] from it5, show Lib.itoa xM.vo = [55, 57] from it79]
  rfl
theorem aft1 : afterH [] xP = chainH 0 tx1 := by
  rw [← text1]; rfl
theorem aft2 (h : Int) : afterH (lA h) xL = chainH h tx2 := by
  rw [← text2]; kernel_rfl
theorem aft2' (h : Int) : afterH (lA h) xM = chainH h tx2' := by
  rw [← text2']; kernel_rfl
theorem differ : chainH (chainH 0 tx1) tx2' ≠ chainH (chainH 0 tx1) tx2 := by decide +kernel
theorem add1 {h : Int} (e : afterH [] xP = h) : addK [] xP = lA h := by rw [addK, if_pos can1, e]; rfl
theorem add2 {h k : Int} (e : afterH (lA h) xL = k) : addK (lA h) xL = lB h k := by rw [addK, if_pos (can2 h), e]; rfl
theorem add3 {h k m : Int} (e : afterH (lB h k) xB = m) : addK (lB h k) xB = lC h k m := by rw [addK, if_pos (can3 h k), e]; rfl
theorem addno {ls : List Lk} {x : Lk} {c : Int} (h : canE ls x = c) (hc : c ≠ 0) : addK ls x = ls := by rw [addK, if_neg (by rw [h]; exact hc)]
theorem chkno {ls : List Lk} {x : Lk} {c : Int} (h : canE ls x = c) (hc : c ≠ 0) : chkH ls x = 0 := by rw [chkH, if_neg (by rw [h]; exact hc)]
theorem chkyes {ls : List Lk} {x : Lk} {h : Int} (e : canE ls x = 0) (e2 : afterH ls x = h) : chkH ls x = h := by rw [chkH, if_pos e, e2]
theorem atC (h k m : Int) : atI (lC h k m) bB1 = 2 := by kernel_rfl
theorem trC (h k m : Int) : traceL (lC h k m) bB1 = [withH xB m, withH xL k, withH xP h] := by kernel_rfl
theorem rootC (h k m : Int) : rootS (lC h k m) bB1 = bP1 := by rw [rootS, trC]; rfl
theorem verD {h k m : Int} (e1 : afterH [] xP = h) (e2 : afterH (lA h) xL = k) : verF [] (lD h k m) = (1, 29) := by
  have c1 : canE [] (withH xP h) = 0 := can1
  have c2 : canE ([] ++ [withH xP h]) (withH xM k) = 0 := can2' h
  have a1 : afterH [] (withH xP h) = (withH xP h).ha := e1
  have a2 : afterH ([] ++ [withH xP h]) (withH xM k) ≠ (withH xM k).ha := by
    show afterH (lA h) xM ≠ k
    rw [← e2, aft2, aft2', ← e1, aft1]
    exact differ
  rw [lD, verF, if_neg (by rw [c1]; simp), if_neg (by rw [a1]; simp), verF, if_neg (by rw [c2]; simp), if_pos a2]
  rfl
theorem small_D (h k m : Int) : ∀ (i : Nat) (x : Lk), (lD h k m)[i]? = some x → x.it.size ≤ 1000 ∧ x.pa.size ≤ 1000 ∧ x.sp.size ≤ 1000 := by
  intro i x hx
  match i, hx with
  | 0, hx => obtain rfl := Option.some.inj hx; exact ⟨show xP.it.size ≤ 1000 by decide, show xP.pa.size ≤ 1000 by decide, show xP.sp.size ≤ 1000 by decide⟩
  | 1, hx => obtain rfl := Option.some.inj hx; exact ⟨show xM.it.size ≤ 1000 by decide, show xM.pa.size ≤ 1000 by decide, show xM.sp.size ≤ 1000 by decide⟩
  | 2, hx => obtain rfl := Option.some.inj hx; exact ⟨show xB.it.size ≤ 1000 by decide, show xB.pa.size ≤ 1000 by decide, show xB.sp.size ≤ 1000 by decide⟩
  | i + 3, hx => exact absurd hx (by simp [lD])
/-- one cell of a row of links is set -/
theorem set_one {W : World} {g n c : Nat} {ls : List Lk} (hn : ls.length = n) (h : SliceIs W 6 (.slice (some ⟨g, 0, none⟩) n c) n (kcells ls)) {k r : Nat} {x y : Lk} {u0 : Value} (hx : ls[k]? = some x) (hr : r < 6) (hy : y.cells = x.cells.set r u0) :
    SliceIs (W.setCell ⟨g, k * 6 + r, none⟩ u0) 6 (.slice (some ⟨g, 0, none⟩) n c) n (kcells (ls.set k y)) := by
  have hk := (List.getElem?_eq_some_iff.1 hx).1
  obtain ⟨g', off, e, hc, hg, hcx⟩ := slice_addr h (by omega)
  cases e
  refine ⟨by rw [kcells_len, List.length_set, hn], h.2.1, .inr ⟨g, 0, c, rfl, hc, by simpa [World.setCell] using hg, fun j u hu => ?_⟩⟩
  rw [Nat.zero_add]
  rcases kcells_set (by omega) y hu with ⟨s, hs, rfl, hu2⟩ | ⟨hne, hu2⟩
  · rw [hy, List.getElem?_set] at hu2
    by_cases e : r = s
    · subst e
      rw [if_pos rfl, if_pos (by exact hr)] at hu2
      obtain rfl := Option.some.inj hu2
      have h1 := kcells_at hx hr
      rw [List.getElem?_eq_getElem (show r < x.cells.length from hr)] at h1
      have h2 := hcx _ _ h1
      rw [Nat.zero_add] at h2
      exact World.cell?_setCell_same _ _ _ h2
    · rw [if_neg e] at hu2
      rw [World.cell?_setCell_other _ _ _ _ (by simp <;> omega)]
      have h1 := kcells_at hx hs
      rw [hu2] at h1
      have h2 := hcx _ _ h1
      rw [Nat.zero_add] at h2
      exact h2
  · rw [World.cell?_setCell_other _ _ _ _ (by have := hne r hr; simp <;> omega)]
    have h2 := hcx _ _ hu2
    rw [Nat.zero_add] at h2
    exact h2
end Go.Proofs.YtgonghmihghhnaaDoor.Cu
