/- custody: the examples of the chapter, plain. -/
import Derived.Test.YtmgegffcgmcclaaDoorCu12
namespace Go.Proofs.YtmgegffcgmcclaaDoor.Cu
open Go.RowKit Go.Proofs.YtmgegffcgmcclaaDoor.Id Go.Maps

def bP1 : ByteArray := ⟨#[80, 48, 48, 48, 48, 48, 49, 68]⟩
def bL1 : ByteArray := ⟨#[76, 48, 48, 48, 48, 48, 49, 87]⟩
def bL2 : ByteArray := ⟨#[76, 48, 48, 48, 48, 48, 50, 71]⟩
def bSp : ByteArray := ⟨#[115, 112, 114, 117, 99, 101]⟩
def bOak : ByteArray := ⟨#[111, 97, 107]⟩
def xP : Lk := ⟨bP1, emptyB, 10, 5000, bSp, 0⟩
def xL : Lk := ⟨bL1, bP1, 20, 3000, bSp, 0⟩
def xG : Lk := ⟨bL2, bP1, 20, 2001, bSp, 0⟩
def xH : Lk := ⟨bL2, bP1, 9, 5, bSp, 0⟩
def xI : Lk := ⟨bL2, bP1, 20, 5, bOak, 0⟩
def xJ : Lk := ⟨bL2, emptyB, 20, 5, bSp, 0⟩
def lA (h : Int) : List Lk := [withH xP h]
def lB (h k : Int) : List Lk := [withH xP h, withH xL k]
theorem can1 : canE [] xP = 0 := by kernel_rfl
theorem can2 (h : Int) : canE (lA h) xL = 0 := by kernel_rfl
theorem can3 (h k : Int) : canE (lB h k) xG = 23 := by kernel_rfl
theorem can4 (h k : Int) : canE (lB h k) xH = 15 := by kernel_rfl
theorem can5 (h k : Int) : canE (lB h k) xI = 24 := by kernel_rfl
theorem can6 (h k : Int) : canE (lB h k) xJ = 6 := by kernel_rfl
theorem it10 : Lib.itoa 10 = [49, 48] := by simp [Lib.itoa, Lib.decDigits]
theorem it20 : Lib.itoa 20 = [50, 48] := by simp [Lib.itoa, Lib.decDigits]
theorem it5000 : Lib.itoa 5000 = [53, 48, 48, 48] := by simp [Lib.itoa, Lib.decDigits]
theorem it3000 : Lib.itoa 3000 = [51, 48, 48, 48] := by simp [Lib.itoa, Lib.decDigits]
def tx1 : ByteArray := ⟨#[80, 48, 48, 48, 48, 48, 49, 68, 32, 32, 115, 112, 114, 117, 99, 101, 32, 49, 48, 32, 53, 48, 48, 48]⟩
def tx2 : ByteArray := ⟨#[76, 48, 48, 48, 48, 48, 49, 87, 32, 80, 48, 48, 48, 48, 48, 49, 68, 32, 115, 112, 114, 117, 99, 101, 32, 50, 48, 32, 51, 48, 48, 48]⟩
theorem text1 : textL xP = tx1.data.toList := by
  unfold textL
  rw [show Lib.itoa xP.t = [49, 48] from it10, show Lib.itoa xP.vo = [53, 48, 48, 48] from it5000]
  rfl
theorem text2 : textL xL = tx2.data.toList := by
  unfold textL
  rw [show Lib.itoa xL.t = [50, 48] from it20, show Lib.itoa xL.vo = [51, 48, 48, 48] from it3000]
  rfl
theorem aft1 : afterH [] xP = chainH 0 tx1.data.toList := by
  rw [← text1]; rfl
theorem aft2 (h : Int) : afterH (lA h) xL = chainH h tx2.data.toList := by
  rw [← text2]; kernel_rfl
theorem add1 {h : Int} (e : afterH [] xP = h) : addK [] xP = lA h := by rw [addK, if_pos can1, e]; rfl
theorem add2 {h k : Int} (e : afterH (lA h) xL = k) : addK (lA h) xL = lB h k := by rw [addK, if_pos (can2 h), e]; rfl
theorem addno {ls : List Lk} {x : Lk} {c : Int} (h : canE ls x = c) (hc : c ≠ 0) : addK ls x = ls := by rw [addK, if_neg (by rw [h]; exact hc)]
theorem chkno {ls : List Lk} {x : Lk} {c : Int} (h : canE ls x = c) (hc : c ≠ 0) : chkH ls x = 0 := by rw [chkH, if_neg (by rw [h]; exact hc)]
theorem chkyes {ls : List Lk} {x : Lk} {h : Int} (e : canE ls x = 0) (e2 : afterH ls x = h) : chkH ls x = h := by rw [chkH, if_pos e, e2]
theorem atB (h k : Int) : atI (lB h k) bL1 = 1 := by kernel_rfl
theorem trB (h k : Int) : traceL (lB h k) bL1 = [withH xL k, withH xP h] := by kernel_rfl
theorem rootB (h k : Int) : rootS (lB h k) bL1 = bP1 := by rw [rootS, trB]; rfl
theorem verB {h k : Int} (e1 : afterH [] xP = h) (e2 : afterH (lA h) xL = k) : verF [] (lB h k) = (-1, 0) := by
  have c1 : canE [] (withH xP h) = 0 := can1
  have c2 : canE ([] ++ [withH xP h]) (withH xL k) = 0 := can2 h
  have a1 : afterH [] (withH xP h) = (withH xP h).ha := e1
  have a2 : afterH ([] ++ [withH xP h]) (withH xL k) = (withH xL k).ha := e2
  rw [lB, verF, if_neg (by rw [c1]; simp), if_neg (by rw [a1]; simp), verF, if_neg (by rw [c2]; simp), if_neg (by rw [a2]; simp)]
  rfl
end Go.Proofs.YtmgegffcgmcclaaDoor.Cu
