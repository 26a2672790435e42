/- Small lemmas: results, worlds, the library's table. -/
import Derived.Test.YtgonghmihghhnaaDoorProg
import Derived.Test.YtgonghmihghhnaaDoorId1
import Derived.Lib.ItoaMem
import Derived.Lib.AppendIntMem
import Derived.ShutString
namespace Go.Proofs.YtgonghmihghhnaaDoor.Id
open Go.RowKit

theorem ret_se {a b : ByteArray} {k : IntKind} {x y : Int} (h : a = b) (h2 : x = y) : Ending.returned (.tuple #[.string a, .int k x]) = .returned (.tuple #[.string b, .int k y]) := by rw [h, h2]
theorem bG {a w : World} (h : Below a.heap.size a w) (os : Array Obj) : Below a.heap.size a (Go.Sort.grow w os) :=
  h.trans ⟨rfl, rfl, rfl, by simp [Go.Sort.grow], fun k hk => by
    have hs := h.size
    simp only [Go.Sort.grow]
    rw [Array.getElem?_append_left (by omega)]⟩

/-- strconv's table reads as its initialiser lays it -/
def Tab (w : World) : Prop := Lib.TabIs Tryd.prog w "internal/strconv.uint64pow10" .u64 Lib.pow10Tab
theorem Tab.on {w w' : World} (h : Tab w) (hb : Below w.heap.size w w') : Tab w' := (Lib.tabBelow_of_tabIs h) w' hb
end Go.Proofs.YtgonghmihghhnaaDoor.Id
