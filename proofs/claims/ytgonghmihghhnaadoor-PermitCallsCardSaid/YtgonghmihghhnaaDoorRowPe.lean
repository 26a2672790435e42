/- permits and calls as arguments, opened. -/
import Derived.Test.YtgonghmihghhnaaDoorRowKit2
import Derived.Test.YtgonghmihghhnaaDoorPl0
namespace Go.Proofs.YtgonghmihghhnaaDoor
open Go.RowKit

section
variable {H : Type} {enc : TypeId × Value → H} {P : Program} {w : World} {base : Nat} {spare : Nat → Bool} {held : Bool}
theorem struct_is {t : TypeId} {L : List (Nat × TypeId)} (h : (P.underlying t).map (fun d => match d with | .struct fs => fs.toList.map (fun f => (f.offset, f.type)) | _ => []) = some L) (hL : L ≠ []) : ∃ fs, P.underlying t = some (.struct fs) := by
  obtain ⟨d, hd, he⟩ := Option.map_eq_some_iff.1 h
  cases d with
  | struct fs => exact ⟨fs, hd⟩
  | _ => exact absurd he.symm hL
/-- the fields of a struct, each read by its own type -/
theorem struct_fields {t : TypeId} {L : List (Nat × TypeId)} (h : (P.underlying t).map (fun d => match d with | .struct fs => fs.toList.map (fun f => (f.offset, f.type)) | _ => []) = some L) (hL : L ≠ [])
    {fuel : Nat} {cs : List Value} {x : DataW H × List MemPlace} (ht : DataW.trod enc P w base spare held fuel t cs = some x) :
    cs.length = P.cellsOf t ∧ ∀ (i o : Nat) (ty : TypeId), L[i]? = some (o, ty) → ∃ n y, DataW.trod enc P w base spare held n ty ((cs.drop o).take (P.cellsOf ty)) = some y := by
  obtain ⟨d, hd, he⟩ := Option.map_eq_some_iff.1 h
  cases d with
  | struct fs =>
    obtain ⟨xs, n, _, _, hl, hx, hf⟩ := DataW.trod_struct hd ht
    refine ⟨hl, fun i o ty hi => ?_⟩
    simp only at he
    rw [← he, List.getElem?_map] at hi
    obtain ⟨f, hf1, hf2⟩ := Option.map_eq_some_iff.1 hi
    simp only [Prod.mk.injEq] at hf2
    obtain ⟨rfl, rfl⟩ := hf2
    have hfs : fs[i]? = some f := by simpa using hf1
    have hlt : i < xs.length := by rw [hx]; exact (Array.getElem?_eq_some_iff.1 hfs).1
    exact ⟨n, _, (hf i f hfs).trans (List.getElem?_eq_getElem hlt)⟩
  | _ => exact absurd he.symm hL
end
section
variable {H : Type} {enc : TypeId × Value → H} {w : World} {base : Nat} {spare : Nat → Bool} {held : Bool}
theorem list5 {α : Type} {l : List α} (h : l.length = 5) : ∃ a b c d e, l = [a, b, c, d, e] := by
  match l, h with
  | [a, b, c, d, e], _ => exact ⟨a, b, c, d, e, rfl⟩
theorem list7 {α : Type} {l : List α} (h : l.length = 7) : ∃ a b c d e f g, l = [a, b, c, d, e, f, g] := by
  match l, h with
  | [a, b, c, d, e, f, g], _ => exact ⟨a, b, c, d, e, f, g, rfl⟩
theorem fieldsPermit : (Tryd.prog.underlying 50).map (fun d => match d with | .struct fs => fs.toList.map (fun f => (f.offset, f.type)) | _ => []) = some [(0, 9), (1, 9), (2, 3), (3, 3), (4, 3)] := by kernel_rfl
theorem fieldsOp : (Tryd.prog.underlying 52).map (fun d => match d with | .struct fs => fs.toList.map (fun f => (f.offset, f.type)) | _ => []) = some [(0, 3), (1, 50), (6, 3)] := by kernel_rfl
theorem cellsPermit : Tryd.prog.cellsOf 50 = 5 := by kernel_rfl
theorem cellsOp : Tryd.prog.cellsOf 52 = 7 := by kernel_rfl
theorem cellsInt : Tryd.prog.cellsOf 3 = 1 := by kernel_rfl
theorem cellsStr : Tryd.prog.cellsOf 9 = 1 := by kernel_rfl
theorem open_permit (fuel : Nat) (cs : List Value) (x : DataW H × List MemPlace) (h : DataW.trod enc Tryd.prog w base spare held fuel 50 cs = some x) : ∃ p : Pe.Perm, cs = p.cells := by
  obtain ⟨hl, hf⟩ := struct_fields fieldsPermit (by simp) h
  rw [cellsPermit] at hl
  obtain ⟨c0, c1, c2, c3, c4, rfl⟩ := list5 hl
  · clear h hl
    obtain ⟨n0, y0, g0⟩ := hf 0 0 _ rfl
    obtain ⟨n1, y1, g1⟩ := hf 1 1 _ rfl
    obtain ⟨n2, y2, g2⟩ := hf 2 2 _ rfl
    obtain ⟨n3, y3, g3⟩ := hf 3 3 _ rfl
    obtain ⟨n4, y4, g4⟩ := hf 4 4 _ rfl
    rw [cellsStr] at g0 g1
    rw [cellsInt] at g2 g3 g4
    obtain ⟨s0, e0, _⟩ := DataW.trod_string Tryd.underlying9 g0
    obtain ⟨s1, e1, _⟩ := DataW.trod_string Tryd.underlying9 g1
    obtain ⟨s2, e2, _⟩ := DataW.trod_int Tryd.underlying3 g2
    obtain ⟨s3, e3, _⟩ := DataW.trod_int Tryd.underlying3 g3
    obtain ⟨s4, e4, _⟩ := DataW.trod_int Tryd.underlying3 g4
    simp at e0 e1 e2 e3 e4
    subst e0 e1 e2 e3 e4
    exact ⟨⟨s0, s1, s2, s3, s4⟩, rfl⟩
theorem open_op (fuel : Nat) (cs : List Value) (x : DataW H × List MemPlace) (h : DataW.trod enc Tryd.prog w base spare held fuel 52 cs = some x) : ∃ o : Pe.OpP, cs = o.cells := by
  obtain ⟨hl, hf⟩ := struct_fields fieldsOp (by simp) h
  rw [cellsOp] at hl
  obtain ⟨c0, c1, c2, c3, c4, c5, c6, rfl⟩ := list7 hl
  · clear h hl
    obtain ⟨n0, y0, g0⟩ := hf 0 0 _ rfl
    obtain ⟨n1, y1, g1⟩ := hf 1 1 _ rfl
    obtain ⟨n2, y2, g2⟩ := hf 2 6 _ rfl
    rw [cellsInt] at g0 g2
    rw [cellsPermit] at g1
    obtain ⟨s0, e0, _⟩ := DataW.trod_int Tryd.underlying3 g0
    obtain ⟨p, e1⟩ := open_permit _ _ _ g1
    obtain ⟨s2, e2, _⟩ := DataW.trod_int Tryd.underlying3 g2
    simp [Pe.Perm.cells] at e0 e1 e2
    obtain ⟨rfl, rfl, rfl, rfl, rfl⟩ := e1
    subst e0 e2
    exact ⟨⟨s0, p, s2⟩, rfl⟩
set_option maxRecDepth 100000 in
theorem open_perm_arg {v : Value} {b0 : Nat} {d : DataW H} {p : List MemPlace} (hv : Value.okWide Tryd.prog w .any b0 50 v) (h : DataW.Trod enc Tryd.prog w base spare held 50 v d p) : ∃ q : Pe.Perm, v = q.val := by
  obtain ⟨fs, hd⟩ := struct_is fieldsPermit (by simp)
  unfold Value.okWide at hv
  rw [hd] at hv
  obtain ⟨cs, rfl, _⟩ := hv
  obtain ⟨fuel, hf⟩ := h
  obtain ⟨q, hq⟩ := open_permit _ _ _ hf
  refine ⟨q, ?_⟩
  show Value.agg cs = _
  rw [show cs = q.cells.toArray from Array.toList_inj.1 (by simpa [Value.cells] using hq)]
  rfl
instance : Inhabited Pe.Perm := ⟨⟨ByteArray.empty, ByteArray.empty, 0, 0, 0⟩⟩
instance : Inhabited Pe.OpP := ⟨⟨0, default, 0⟩⟩
theorem undOps : Tryd.prog.underlying 41 = some (.slice 52) := by kernel_rfl
set_option maxRecDepth 100000 in
theorem open_ops {v : Value} {d : DataW H} {p : List MemPlace} (hv : Value.okWide Tryd.prog w .any 0 41 v) (h : DataW.Trod enc Tryd.prog w 0 spare held 41 v d p) : ∃ os : List Pe.OpP, SliceIs w 7 v os.length (Pe.ocells os) :=
  open_rows (P := Tryd.prog) (e := 52) Pe.OpP.cells 7 undOps cellsOp (by decide) Pe.op_len open_op h hv
end
end Go.Proofs.YtgonghmihghhnaaDoor
