/- From what a row lists to what the walks ask of the world. -/
import Derived.Test.YtfmjconjgfhfbaaDoorRows
import Derived.Test.YtfmjconjgfhfbaaDoorId5
import Derived.WalkKit
import Derived.ProofKit
import Derived.OpenShut
import Derived.LaidMore
import Derived.LaidSub
import Derived.Stop.Joined
import Derived.Lib.LaidTab
import Derived.SizedLaws
import Derived.ShutString
import Derived.SevenTiedAt
import Derived.MakeChecks
namespace Go.Proofs.YtfmjconjgfhfbaaDoor
open Go.RowKit

theorem gPow : Tryd.prog.globalNamed "internal/strconv.uint64pow10" = some 2 := by kernel_rfl
theorem gPowType : (Tryd.prog.globals[2]?).map (·.type) = some 71 := by kernel_rfl
theorem cellsPow : Tryd.prog.cellsOf 71 = 20 := by kernel_rfl
theorem cellsU64 : Tryd.prog.cellsOf 57 = 1 := by kernel_rfl
/-- the seat's rows list these variables -/
def laidL : List (String × DataW Unit) := [("math/bits.deBruijn32tab", Rows.laid_math_bits_deBruijn32tab), ("math/bits.deBruijn64tab", Rows.laid_math_bits_deBruijn64tab), ("internal/strconv.uint64pow10", Rows.laid_internal_strconv_uint64pow10), ("strconv.ErrRange", Rows.laid_strconv_ErrRange), ("strconv.ErrSyntax", Rows.laid_strconv_ErrSyntax)]
theorem tab_of_laid {W : World} (h : laidMetH Tryd.prog laidL W) : Id.Tab W := by
  have h1 := h.filter (fun x => x.1 == "internal/strconv.uint64pow10")
  have e : laidL.filter (fun x => x.1 == "internal/strconv.uint64pow10") = [("internal/strconv.uint64pow10", Rows.laid_internal_strconv_uint64pow10)] := by kernel_rfl
  rw [e, MakeChecks.laidMetH_plain _ _ _ (by kernel_rfl)] at h1
  exact Lib.tabIs_of_head (rest := []) gPow gPowType Tryd.underlying71 Tryd.underlying57 cellsU64 cellsPow h1
end Go.Proofs.YtfmjconjgfhfbaaDoor
