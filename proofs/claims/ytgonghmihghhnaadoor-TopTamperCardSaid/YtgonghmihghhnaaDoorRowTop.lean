/- claims of the laws through the layers as arguments, opened. -/
import Derived.Test.YtgonghmihghhnaaDoorRowKit2
import Derived.Test.YtgonghmihghhnaaDoorCu0
namespace Go.Proofs.YtgonghmihghhnaaDoor
open Go.RowKit

structure Cu.Claim where
  kind : Int
  item : Int
  of_ : Int
  t : Int
  vo : Int
  oak : Bool
  hk : 0 ≤ kind ∧ kind < 256
  hi : 0 ≤ item ∧ item < 256
  ho : 0 ≤ of_ ∧ of_ < 256
  ht : -9223372036854775808 ≤ t ∧ t ≤ 9223372036854775807
  hv : -9223372036854775808 ≤ vo ∧ vo ≤ 9223372036854775807
def Cu.Claim.cells (o : Cu.Claim) : List Value := [.int .u8 o.kind, .int .u8 o.item, .int .u8 o.of_, .int .i64 o.t, .int .i64 o.vo, .bool o.oak]
def Cu.ccells (l : List Cu.Claim) : List Value := l.flatMap Cu.Claim.cells
theorem Cu.claim_len (o : Cu.Claim) : o.cells.length = 6 := rfl
theorem Cu.ccells_at {l : List Cu.Claim} {i : Nat} {o : Cu.Claim} (h : l[i]? = some o) {j : Nat} (hj : j < 6) : (Cu.ccells l)[i * 6 + j]? = o.cells[j]? := flat_at _ 6 Cu.claim_len l i o h j hj
section
variable {H : Type} {enc : TypeId × Value → H} {P : Program} {w : World} {base : Nat} {spare : Nat → Bool} {held : Bool}
theorem Top.struct_is {t : TypeId} {L : List (Nat × TypeId)} (h : (P.underlying t).map (fun d => match d with | .struct fs => fs.toList.map (fun f => (f.offset, f.type)) | _ => []) = some L) (hL : L ≠ []) : ∃ fs, P.underlying t = some (.struct fs) := by
  obtain ⟨d, hd, he⟩ := Option.map_eq_some_iff.1 h
  cases d with
  | struct fs => exact ⟨fs, hd⟩
  | _ => exact absurd he.symm hL
theorem Top.struct_fields {t : TypeId} {L : List (Nat × TypeId)} (h : (P.underlying t).map (fun d => match d with | .struct fs => fs.toList.map (fun f => (f.offset, f.type)) | _ => []) = some L) (hL : L ≠ [])
    {fuel : Nat} {cs : List Value} {x : DataW H × List MemPlace} (ht : DataW.trod enc P w base spare held fuel t cs = some x) :
    cs.length = P.cellsOf t ∧ ∀ (i o : Nat) (ty : TypeId), L[i]? = some (o, ty) → ∃ n y, DataW.trod enc P w base spare held n ty ((cs.drop o).take (P.cellsOf ty)) = some y := by
  obtain ⟨d, hd, he⟩ := Option.map_eq_some_iff.1 h
  cases d with
  | struct fs =>
    obtain ⟨xs, n, _, _, hl, hx, hf⟩ := DataW.trod_struct hd ht
    refine ⟨hl, fun i o ty hi => ?_⟩
    simp only at he
    rw [← he, List.getElem?_map] at hi
    obtain ⟨f, hf1, hf2⟩ := Option.map_eq_some_iff.1 hi
    simp only [Prod.mk.injEq] at hf2
    obtain ⟨rfl, rfl⟩ := hf2
    have hfs : fs[i]? = some f := by simpa using hf1
    have hlt : i < xs.length := by rw [hx]; exact (Array.getElem?_eq_some_iff.1 hfs).1
    exact ⟨n, _, (hf i f hfs).trans (List.getElem?_eq_getElem hlt)⟩
  | _ => exact absurd he.symm hL
end
section
variable {H : Type} {enc : TypeId × Value → H} {w : World} {base : Nat} {spare : Nat → Bool} {held : Bool}
theorem Top.list6 {α : Type} {l : List α} (h : l.length = 6) : ∃ a b c d e f, l = [a, b, c, d, e, f] := by
  match l, h with
  | [a, b, c, d, e, f], _ => exact ⟨a, b, c, d, e, f, rfl⟩
theorem Top.fieldsCl : (Tryd.prog.underlying 27).map (fun d => match d with | .struct fs => fs.toList.map (fun f => (f.offset, f.type)) | _ => []) = some [(0, 5), (1, 5), (2, 5), (3, 3), (4, 3), (5, 4)] := by kernel_rfl
theorem Top.cellsCl : Tryd.prog.cellsOf 27 = 6 := by kernel_rfl
theorem Top.cellsU8 : Tryd.prog.cellsOf 5 = 1 := by kernel_rfl
theorem Top.cellsInt : Tryd.prog.cellsOf 3 = 1 := by kernel_rfl
theorem Top.cellsB : Tryd.prog.cellsOf 4 = 1 := by kernel_rfl
theorem Top.i64_range {n : Int} (h : (Lit.int .i64 n).wf = true) : -9223372036854775808 ≤ n ∧ n ≤ 9223372036854775807 := by
  simp [Lit.wf] at h
  have e1 : IntKind.i64.min = -9223372036854775808 := by decide
  have e2 : IntKind.i64.max = 9223372036854775807 := by decide
  omega
theorem Top.u8_range {n : Int} (h : (Lit.int .u8 n).wf = true) : 0 ≤ n ∧ n < 256 := by
  simp [Lit.wf] at h
  have e1 : IntKind.u8.min = 0 := by decide
  have e2 : IntKind.u8.max = 255 := by decide
  omega
theorem open_claim (fuel : Nat) (cs : List Value) (x : DataW H × List MemPlace) (h : DataW.trod enc Tryd.prog w base spare held fuel 27 cs = some x) : ∃ p : Cu.Claim, cs = p.cells := by
  obtain ⟨hl, hf⟩ := Top.struct_fields Top.fieldsCl (by simp) h
  rw [Top.cellsCl] at hl
  obtain ⟨c0, c1, c2, c3, c4, c5, rfl⟩ := Top.list6 hl
  · clear h hl
    obtain ⟨n0, y0, g0⟩ := hf 0 0 _ rfl
    obtain ⟨n1, y1, g1⟩ := hf 1 1 _ rfl
    obtain ⟨n2, y2, g2⟩ := hf 2 2 _ rfl
    obtain ⟨n3, y3, g3⟩ := hf 3 3 _ rfl
    obtain ⟨n4, y4, g4⟩ := hf 4 4 _ rfl
    obtain ⟨n5, y5, g5⟩ := hf 5 5 _ rfl
    rw [Top.cellsU8] at g0 g1 g2
    rw [Top.cellsInt] at g3 g4
    rw [Top.cellsB] at g5
    obtain ⟨s0, e0, _, r0⟩ := DataW.trod_int Tryd.underlying5 g0
    obtain ⟨s1, e1, _, r1⟩ := DataW.trod_int Tryd.underlying5 g1
    obtain ⟨s2, e2, _, r2⟩ := DataW.trod_int Tryd.underlying5 g2
    obtain ⟨s3, e3, _, r3⟩ := DataW.trod_int Tryd.underlying3 g3
    obtain ⟨s4, e4, _, r4⟩ := DataW.trod_int Tryd.underlying3 g4
    obtain ⟨s5, e5, _⟩ := DataW.trod_bool Tryd.underlying4 g5
    simp at e0 e1 e2 e3 e4 e5
    subst e0 e1 e2 e3 e4 e5
    exact ⟨⟨s0, s1, s2, s3, s4, s5, Top.u8_range r0, Top.u8_range r1, Top.u8_range r2, Top.i64_range r3, Top.i64_range r4⟩, rfl⟩
instance : Inhabited Cu.Claim := ⟨⟨0, 0, 0, 0, 0, false, by decide, by decide, by decide, by decide, by decide⟩⟩
theorem Top.undCls : Tryd.prog.underlying 22 = some (.slice 27) := by kernel_rfl
set_option maxRecDepth 100000 in
theorem open_claims {v : Value} {d : DataW H} {p : List MemPlace} (hv : Value.okWide Tryd.prog w .any 0 22 v) (h : DataW.Trod enc Tryd.prog w 0 spare held 22 v d p) : ∃ os : List Cu.Claim, SliceIs w 6 v os.length (Cu.ccells os) :=
  open_rows (P := Tryd.prog) (e := 27) Cu.Claim.cells 6 Top.undCls Top.cellsCl (by decide) Cu.claim_len open_claim h hv
end
end Go.Proofs.YtgonghmihghhnaaDoor
