/- links and their makings as arguments, opened. -/
import Derived.Test.YtmgegffcgmcclaaDoorRowKit2
import Derived.Test.YtmgegffcgmcclaaDoorCu0
namespace Go.Proofs.YtmgegffcgmcclaaDoor
open Go.RowKit

structure Cu.COp where
  it : ByteArray
  pa : ByteArray
  sp : ByteArray
  t : Int
  vo : Int
def Cu.COp.cells (o : Cu.COp) : List Value := [.string o.it, .string o.pa, .string o.sp, .int .i64 o.t, .int .i64 o.vo]
def Cu.COp.val (o : Cu.COp) : Value := .agg #[.string o.it, .string o.pa, .string o.sp, .int .i64 o.t, .int .i64 o.vo]
def Cu.COp.lk (o : Cu.COp) : Cu.Lk := ⟨o.it, o.pa, o.t, o.vo, o.sp, 0⟩
def Cu.opcells (l : List Cu.COp) : List Value := l.flatMap Cu.COp.cells
theorem Cu.cop_len (o : Cu.COp) : o.cells.length = 5 := rfl
theorem Cu.opcells_at {l : List Cu.COp} {i : Nat} {o : Cu.COp} (h : l[i]? = some o) {j : Nat} (hj : j < 5) : (Cu.opcells l)[i * 5 + j]? = o.cells[j]? := flat_at _ 5 Cu.cop_len l i o h j hj
section
variable {H : Type} {enc : TypeId × Value → H} {P : Program} {w : World} {base : Nat} {spare : Nat → Bool} {held : Bool}
theorem Cu.struct_is {t : TypeId} {L : List (Nat × TypeId)} (h : (P.underlying t).map (fun d => match d with | .struct fs => fs.toList.map (fun f => (f.offset, f.type)) | _ => []) = some L) (hL : L ≠ []) : ∃ fs, P.underlying t = some (.struct fs) := by
  obtain ⟨d, hd, he⟩ := Option.map_eq_some_iff.1 h
  cases d with
  | struct fs => exact ⟨fs, hd⟩
  | _ => exact absurd he.symm hL
theorem Cu.struct_fields {t : TypeId} {L : List (Nat × TypeId)} (h : (P.underlying t).map (fun d => match d with | .struct fs => fs.toList.map (fun f => (f.offset, f.type)) | _ => []) = some L) (hL : L ≠ [])
    {fuel : Nat} {cs : List Value} {x : DataW H × List MemPlace} (ht : DataW.trod enc P w base spare held fuel t cs = some x) :
    cs.length = P.cellsOf t ∧ ∀ (i o : Nat) (ty : TypeId), L[i]? = some (o, ty) → ∃ n y, DataW.trod enc P w base spare held n ty ((cs.drop o).take (P.cellsOf ty)) = some y := by
  obtain ⟨d, hd, he⟩ := Option.map_eq_some_iff.1 h
  cases d with
  | struct fs =>
    obtain ⟨xs, n, _, _, hl, hx, hf⟩ := DataW.trod_struct hd ht
    refine ⟨hl, fun i o ty hi => ?_⟩
    simp only at he
    rw [← he, List.getElem?_map] at hi
    obtain ⟨f, hf1, hf2⟩ := Option.map_eq_some_iff.1 hi
    simp only [Prod.mk.injEq] at hf2
    obtain ⟨rfl, rfl⟩ := hf2
    have hfs : fs[i]? = some f := by simpa using hf1
    have hlt : i < xs.length := by rw [hx]; exact (Array.getElem?_eq_some_iff.1 hfs).1
    exact ⟨n, _, (hf i f hfs).trans (List.getElem?_eq_getElem hlt)⟩
  | _ => exact absurd he.symm hL
end
section
variable {H : Type} {enc : TypeId × Value → H} {w : World} {base : Nat} {spare : Nat → Bool} {held : Bool}
theorem Cu.list5 {α : Type} {l : List α} (h : l.length = 5) : ∃ a b c d e, l = [a, b, c, d, e] := by
  match l, h with
  | [a, b, c, d, e], _ => exact ⟨a, b, c, d, e, rfl⟩
theorem Cu.fieldsOp : (Tryd.prog.underlying 29).map (fun d => match d with | .struct fs => fs.toList.map (fun f => (f.offset, f.type)) | _ => []) = some [(0, 9), (1, 9), (2, 9), (3, 3), (4, 3)] := by kernel_rfl
theorem Cu.cellsOp : Tryd.prog.cellsOf 29 = 5 := by kernel_rfl
theorem Cu.cellsInt : Tryd.prog.cellsOf 3 = 1 := by kernel_rfl
theorem Cu.cellsStr : Tryd.prog.cellsOf 9 = 1 := by kernel_rfl
theorem open_cop (fuel : Nat) (cs : List Value) (x : DataW H × List MemPlace) (h : DataW.trod enc Tryd.prog w base spare held fuel 29 cs = some x) : ∃ p : Cu.COp, cs = p.cells := by
  obtain ⟨hl, hf⟩ := Cu.struct_fields Cu.fieldsOp (by simp) h
  rw [Cu.cellsOp] at hl
  obtain ⟨c0, c1, c2, c3, c4, rfl⟩ := Cu.list5 hl
  · clear h hl
    obtain ⟨n0, y0, g0⟩ := hf 0 0 _ rfl
    obtain ⟨n1, y1, g1⟩ := hf 1 1 _ rfl
    obtain ⟨n2, y2, g2⟩ := hf 2 2 _ rfl
    obtain ⟨n3, y3, g3⟩ := hf 3 3 _ rfl
    obtain ⟨n4, y4, g4⟩ := hf 4 4 _ rfl
    rw [Cu.cellsStr] at g0 g1 g2
    rw [Cu.cellsInt] at g3 g4
    obtain ⟨s0, e0, _⟩ := DataW.trod_string Tryd.underlying9 g0
    obtain ⟨s1, e1, _⟩ := DataW.trod_string Tryd.underlying9 g1
    obtain ⟨s2, e2, _⟩ := DataW.trod_string Tryd.underlying9 g2
    obtain ⟨s3, e3, _⟩ := DataW.trod_int Tryd.underlying3 g3
    obtain ⟨s4, e4, _⟩ := DataW.trod_int Tryd.underlying3 g4
    simp at e0 e1 e2 e3 e4
    subst e0 e1 e2 e3 e4
    exact ⟨⟨s0, s1, s2, s3, s4⟩, rfl⟩
set_option maxRecDepth 100000 in
theorem open_cop_arg {v : Value} {b0 : Nat} {d : DataW H} {p : List MemPlace} (hv : Value.okWide Tryd.prog w .any b0 29 v) (h : DataW.Trod enc Tryd.prog w base spare held 29 v d p) : ∃ q : Cu.COp, v = q.val := by
  obtain ⟨fs, hd⟩ := Cu.struct_is Cu.fieldsOp (by simp)
  unfold Value.okWide at hv
  rw [hd] at hv
  obtain ⟨cs, rfl, _⟩ := hv
  obtain ⟨fuel, hf⟩ := h
  obtain ⟨q, hq⟩ := open_cop _ _ _ hf
  refine ⟨q, ?_⟩
  show Value.agg cs = _
  rw [show cs = q.cells.toArray from Array.toList_inj.1 (by simpa [Value.cells] using hq)]
  rfl
instance : Inhabited Cu.COp := ⟨⟨ByteArray.empty, ByteArray.empty, ByteArray.empty, 0, 0⟩⟩
theorem Cu.undOps : Tryd.prog.underlying 22 = some (.slice 29) := by kernel_rfl
set_option maxRecDepth 100000 in
theorem open_cops {v : Value} {d : DataW H} {p : List MemPlace} (hv : Value.okWide Tryd.prog w .any 0 22 v) (h : DataW.Trod enc Tryd.prog w 0 spare held 22 v d p) : ∃ os : List Cu.COp, SliceIs w 5 v os.length (Cu.opcells os) :=
  open_rows (P := Tryd.prog) (e := 29) Cu.COp.cells 5 Cu.undOps Cu.cellsOp (by decide) Cu.cop_len open_cop h hv
end
end Go.Proofs.YtmgegffcgmcclaaDoor
