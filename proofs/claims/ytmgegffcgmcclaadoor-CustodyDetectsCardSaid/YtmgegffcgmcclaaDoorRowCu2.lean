/- links and changes as arguments, opened. -/
import Derived.Test.YtmgegffcgmcclaaDoorRowCu
namespace Go.Proofs.YtmgegffcgmcclaaDoor
open Go.RowKit

section
variable {H : Type} {enc : TypeId × Value → H} {w : World} {base : Nat} {spare : Nat → Bool} {held : Bool}
theorem Cu.list6 {α : Type} {l : List α} (h : l.length = 6) : ∃ a b c d e f, l = [a, b, c, d, e, f] := by
  match l, h with
  | [a, b, c, d, e, f], _ => exact ⟨a, b, c, d, e, f, rfl⟩
theorem Cu.fieldsLk : (Tryd.prog.underlying 44).map (fun d => match d with | .struct fs => fs.toList.map (fun f => (f.offset, f.type)) | _ => []) = some [(0, 9), (1, 9), (2, 3), (3, 3), (4, 9), (5, 30)] := by kernel_rfl
theorem Cu.cellsLk : Tryd.prog.cellsOf 44 = 6 := by kernel_rfl
theorem Cu.cellsU64 : Tryd.prog.cellsOf 30 = 1 := by kernel_rfl
theorem Cu.i64_range {n : Int} (h : (Lit.int .i64 n).wf = true) : -9223372036854775808 ≤ n ∧ n ≤ 9223372036854775807 := by
  simp [Lit.wf] at h
  have e1 : IntKind.i64.min = -9223372036854775808 := by decide
  have e2 : IntKind.i64.max = 9223372036854775807 := by decide
  omega
theorem Cu.u64_range {n : Int} (h : (Lit.int .u64 n).wf = true) : 0 ≤ n ∧ n < 18446744073709551616 := by
  simp [Lit.wf] at h
  have e1 : IntKind.u64.min = 0 := by decide
  have e2 : IntKind.u64.max = 18446744073709551615 := by decide
  omega
def Cu.RngK (p : Cu.Lk) : Prop := (-9223372036854775808 ≤ p.t ∧ p.t ≤ 9223372036854775807) ∧ (-9223372036854775808 ≤ p.vo ∧ p.vo ≤ 9223372036854775807) ∧ (0 ≤ p.ha ∧ p.ha < 18446744073709551616)
theorem open_lk_r (fuel : Nat) (cs : List Value) (x : DataW H × List MemPlace) (h : DataW.trod enc Tryd.prog w base spare held fuel 44 cs = some x) : ∃ p : Cu.Lk, cs = p.cells ∧ Cu.RngK p := by
  obtain ⟨hl, hf⟩ := Cu.struct_fields Cu.fieldsLk (by simp) h
  rw [Cu.cellsLk] at hl
  obtain ⟨c0, c1, c2, c3, c4, c5, rfl⟩ := Cu.list6 hl
  · clear h hl
    obtain ⟨n0, y0, g0⟩ := hf 0 0 _ rfl
    obtain ⟨n1, y1, g1⟩ := hf 1 1 _ rfl
    obtain ⟨n2, y2, g2⟩ := hf 2 2 _ rfl
    obtain ⟨n3, y3, g3⟩ := hf 3 3 _ rfl
    obtain ⟨n4, y4, g4⟩ := hf 4 4 _ rfl
    obtain ⟨n5, y5, g5⟩ := hf 5 5 _ rfl
    rw [Cu.cellsStr] at g0 g1 g4
    rw [Cu.cellsInt] at g2 g3
    rw [Cu.cellsU64] at g5
    obtain ⟨s0, e0, _⟩ := DataW.trod_string Tryd.underlying9 g0
    obtain ⟨s1, e1, _⟩ := DataW.trod_string Tryd.underlying9 g1
    obtain ⟨s2, e2, _, r2⟩ := DataW.trod_int Tryd.underlying3 g2
    obtain ⟨s3, e3, _, r3⟩ := DataW.trod_int Tryd.underlying3 g3
    obtain ⟨s4, e4, _⟩ := DataW.trod_string Tryd.underlying9 g4
    obtain ⟨s5, e5, _, r5⟩ := DataW.trod_int Tryd.underlying30 g5
    simp at e0 e1 e2 e3 e4 e5
    subst e0 e1 e2 e3 e4 e5
    exact ⟨⟨s0, s1, s2, s3, s4, s5⟩, rfl, Cu.i64_range r2, Cu.i64_range r3, Cu.u64_range r5⟩
theorem open_lk (fuel : Nat) (cs : List Value) (x : DataW H × List MemPlace) (h : DataW.trod enc Tryd.prog w base spare held fuel 44 cs = some x) : ∃ p : Cu.Lk, cs = p.cells := by
  obtain ⟨p, h, _⟩ := open_lk_r fuel cs x h
  exact ⟨p, h⟩
instance : Inhabited Cu.Lk := ⟨⟨ByteArray.empty, ByteArray.empty, 0, 0, ByteArray.empty, 0⟩⟩
theorem Cu.undLks : Tryd.prog.underlying 27 = some (.slice 44) := by kernel_rfl
set_option maxRecDepth 100000 in
theorem open_links {v : Value} {d : DataW H} {p : List MemPlace} (hv : Value.okWide Tryd.prog w .any 0 27 v) (h : DataW.Trod enc Tryd.prog w 0 spare held 27 v d p) : ∃ os : List Cu.Lk, SliceIs w 6 v os.length (Cu.kcells os) :=
  open_rows (P := Tryd.prog) (e := 44) Cu.Lk.cells 6 Cu.undLks Cu.cellsLk (by decide) Cu.cells_len open_lk h hv
/-- a change: where, which field, and the link that has the new value -/
structure Cu.Chg where
  at_ : Int
  fi : Int
  to : Cu.Lk
def Cu.Chg.cells (o : Cu.Chg) : List Value := .int .u8 o.at_ :: .int .u8 o.fi :: o.to.cells
def Cu.Chg.val (o : Cu.Chg) : Value := .agg #[.int .u8 o.at_, .int .u8 o.fi, .string o.to.it, .string o.to.pa, .int .i64 o.to.t, .int .i64 o.to.vo, .string o.to.sp, .int .u64 o.to.ha]
theorem Cu.fieldsChg : (Tryd.prog.underlying 46).map (fun d => match d with | .struct fs => fs.toList.map (fun f => (f.offset, f.type)) | _ => []) = some [(0, 5), (1, 5), (2, 44)] := by kernel_rfl
theorem Cu.cellsChg : Tryd.prog.cellsOf 46 = 8 := by kernel_rfl
theorem Cu.cellsU8 : Tryd.prog.cellsOf 5 = 1 := by kernel_rfl
theorem Cu.u8_range {n : Int} (h : (Lit.int .u8 n).wf = true) : 0 ≤ n ∧ n < 256 := by
  simp [Lit.wf] at h
  have e1 : IntKind.u8.min = 0 := by decide
  have e2 : IntKind.u8.max = 255 := by decide
  omega
theorem Cu.list8 {α : Type} {l : List α} (h : l.length = 8) : ∃ a b r, l = a :: b :: r ∧ r.length = 6 := by
  match l, h with
  | a :: b :: r, h => exact ⟨a, b, r, rfl, by simpa using h⟩
theorem open_chg (fuel : Nat) (cs : List Value) (x : DataW H × List MemPlace) (h : DataW.trod enc Tryd.prog w base spare held fuel 46 cs = some x) : ∃ p : Cu.Chg, cs = p.cells ∧ (0 ≤ p.at_ ∧ p.at_ < 256) ∧ (0 ≤ p.fi ∧ p.fi < 256) ∧ Cu.RngK p.to := by
  obtain ⟨hl, hf⟩ := Cu.struct_fields Cu.fieldsChg (by simp) h
  rw [Cu.cellsChg] at hl
  obtain ⟨c0, c1, r, rfl, hr⟩ := Cu.list8 hl
  · clear h hl
    obtain ⟨n0, y0, g0⟩ := hf 0 0 _ rfl
    obtain ⟨n1, y1, g1⟩ := hf 1 1 _ rfl
    obtain ⟨n2, y2, g2⟩ := hf 2 2 _ rfl
    rw [Cu.cellsU8] at g0 g1
    rw [Cu.cellsLk] at g2
    obtain ⟨s0, e0, _, r0⟩ := DataW.trod_int Tryd.underlying5 g0
    obtain ⟨s1, e1, _, r1⟩ := DataW.trod_int Tryd.underlying5 g1
    obtain ⟨q, e2, r2⟩ := open_lk_r _ _ _ g2
    simp at e0 e1
    have e3 : r = q.cells := by
      rw [← e2]
      show r = ((c0 :: c1 :: r).drop 2).take 6
      rw [show (c0 :: c1 :: r).drop 2 = r from rfl, List.take_of_length_le (by omega)]
    subst e0 e1 e3
    exact ⟨⟨s0, s1, q⟩, rfl, Cu.u8_range r0, Cu.u8_range r1, r2⟩
set_option maxRecDepth 100000 in
theorem open_chg_arg {v : Value} {b0 : Nat} {d : DataW H} {p : List MemPlace} (hv : Value.okWide Tryd.prog w .any b0 46 v) (h : DataW.Trod enc Tryd.prog w base spare held 46 v d p) : ∃ q : Cu.Chg, v = q.val ∧ (0 ≤ q.at_ ∧ q.at_ < 256) ∧ (0 ≤ q.fi ∧ q.fi < 256) ∧ Cu.RngK q.to := by
  obtain ⟨fs, hd⟩ := Cu.struct_is Cu.fieldsChg (by simp)
  unfold Value.okWide at hv
  rw [hd] at hv
  obtain ⟨cs, rfl, _⟩ := hv
  obtain ⟨fuel, hf⟩ := h
  obtain ⟨q, hq, hr⟩ := open_chg _ _ _ hf
  refine ⟨q, ?_, hr⟩
  show Value.agg cs = _
  rw [show cs = q.cells.toArray from Array.toList_inj.1 (by simpa [Value.cells] using hq)]
  rfl
end
end Go.Proofs.YtmgegffcgmcclaaDoor
