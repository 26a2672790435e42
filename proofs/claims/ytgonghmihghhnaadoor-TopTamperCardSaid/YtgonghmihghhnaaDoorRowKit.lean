/- From what a row lists to what the walks ask of the world. -/
import Derived.Test.YtgonghmihghhnaaDoorRows
import Derived.Test.YtgonghmihghhnaaDoorIdT
import Derived.WalkKit
import Derived.ProofKit
import Derived.OpenShut
import Derived.LaidMore
import Derived.LaidSub
import Derived.Stop.Joined
import Derived.Lib.LaidTab
import Derived.SizedLaws
import Derived.ShutString
import Derived.SevenTiedAt
import Derived.MakeChecks
import Derived.Lib.SmallJoins
namespace Go.Proofs.YtgonghmihghhnaaDoor
open Go.RowKit

theorem gPow : Tryd.prog.globalNamed "internal/strconv.uint64pow10" = some 3 := by kernel_rfl
theorem gPowType : (Tryd.prog.globals[3]?).map (·.type) = some 144 := by kernel_rfl
theorem cellsPow : Tryd.prog.cellsOf 144 = 20 := by kernel_rfl
theorem cellsU64 : Tryd.prog.cellsOf 29 = 1 := by kernel_rfl
/-- the seat's rows list these variables -/
def laidL : List (String × DataW Unit) := [("math/bits.deBruijn32tab", Rows.laid_math_bits_deBruijn32tab), ("math/bits.deBruijn64tab", Rows.laid_math_bits_deBruijn64tab), ("internal/strconv.uint64pow10", Rows.laid_internal_strconv_uint64pow10), ("strconv.ErrRange", Rows.laid_strconv_ErrRange), ("strconv.ErrSyntax", Rows.laid_strconv_ErrSyntax)]
theorem tab_of_laid {W : World} (h : laidMetH Tryd.prog laidL W) : Id.Tab W := by
  have h1 := h.filter (fun x => x.1 == "internal/strconv.uint64pow10")
  have e : laidL.filter (fun x => x.1 == "internal/strconv.uint64pow10") = [("internal/strconv.uint64pow10", Rows.laid_internal_strconv_uint64pow10)] := by kernel_rfl
  rw [e, MakeChecks.laidMetH_plain _ _ _ (by kernel_rfl)] at h1
  exact Lib.tabIs_of_head (rest := []) gPow gPowType Tryd.underlying144 Tryd.underlying29 cellsU64 cellsPow h1
theorem laidOut : laidOutB Tryd.prog = true := by kernel_rfl
/-- an array of two numbers by value, opened -/
theorem open_arr2 {H : Type} {enc : TypeId × Value → H} {P : Program} {w : World} {base b0 : Nat} {spare : Nat → Bool} {held : Bool} {t e : TypeId} {v : Value} {d : DataW H} {p : List MemPlace} {k : IntKind}
    (ht : P.underlying t = some (.array 2 e)) (he : P.underlying e = some (.int k)) (hce : P.cellsOf e = 1) (hct : P.cellsOf t = 2)
    (hv : Value.okWide P w .any b0 t v) (h : DataW.Trod enc P w base spare held t v d p) :
    ∃ x0 x1 : Int, v = .agg #[.int k x0, .int k x1] ∧ (Lit.int k x0).wf = true ∧ (Lit.int k x1).wf = true := by
  unfold Value.okWide at hv
  rw [ht] at hv
  obtain ⟨cs, rfl, hsz, _⟩ := hv
  rw [hct] at hsz
  obtain ⟨c0, c1, rfl⟩ := Joins.array2 hsz
  obtain ⟨fuel, hf⟩ := h
  obtain ⟨xs, m, _, _, _, hn, hel⟩ := DataW.trod_array (cs := [c0, c1]) ht hf
  match xs, hn with
  | [y0, y1], _ =>
    have h0 := hel 0 (by omega)
    have h1 := hel 1 (by omega)
    rw [hce] at h0 h1
    obtain ⟨x0, e0, _, w0⟩ := DataW.trod_int (cs := [c0]) he h0
    obtain ⟨x1, e1, _, w1⟩ := DataW.trod_int (cs := [c1]) he h1
    simp only [List.cons.injEq, and_true] at e0 e1
    subst e0 e1
    exact ⟨x0, x1, rfl, w0, w1⟩
end Go.Proofs.YtgonghmihghhnaaDoor
