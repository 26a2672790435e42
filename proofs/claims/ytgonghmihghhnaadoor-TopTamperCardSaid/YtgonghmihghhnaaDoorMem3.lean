/- a region that draws its order, whose operations read and whose callees make new memory only: one walk. No program. -/
import Derived.Test.YtgonghmihghhnaaDoorMem2
import Derived.Deep.QuietTactic
import Derived.BigQuiet
namespace Go.Proofs.YtgonghmihghhnaaDoor
open Go.RowKit

/-- The class of worlds as a family f: facts on cells are laid as '∀ n, (f n).cell? .. = ..'. -/
theorem wp_region_class {P : Program} {ι : Type} (f : ι → World) {id : Nat} {Q : Exit → Act → World → Prop} {a : Act} {w : World} {l : List Oper} (i0 : ι) (hi : f i0 = w.drew) (hm : P.follows .mixedOrders = true) (hB : Region.lexB .any l.toArray = true)
    (h : wpQuiet P l.toArray (fun w' => ∃ n, w' = f n) (fun a' => ∀ w', (∃ n, w' = f n) → Q .normal a' w') l a) : (Code.region id l.toArray true).wp P Q a w :=
  wp_region_quiet (C := fun w' => ∃ n, w' = f n) hm hB ⟨i0, hi.symm⟩ (by simpa using h)
/-- all worlds that differ from w by new memory and draws only -/
theorem below_class (w : World) : ∃ (ι : Type) (_ : Nonempty ι) (f : ι → World) (i0 : ι), f i0 = w.drew ∧ (∀ n, Below w.heap.size w (f n)) ∧ (∀ n W, Below (f n).heap.size (f n) W → ∃ m, W = f m) :=
  ⟨{W : World // Below w.heap.size w W}, ⟨⟨w, Below.refl _ _⟩⟩, fun x => x.1, ⟨w.drew, (Below.refl _ _).drew⟩, rfl, fun n => n.2, fun n W h => ⟨⟨W, n.2.trans (h.mono n.2.size)⟩, rfl⟩⟩
theorem class_call {P : Program} {g : FuncId} {args : Array Value} {ι : Type} {f : ι → World} {n : ι} {v : Value} (hC : ∀ n W, Below (f n).heap.size (f n) W → ∃ m, W = f m)
    (h : Calls P g args (f n) fun e w' => e = .returned v ∧ Below (f n).heap.size (f n) w') : Calls P g args (f n) fun e w'' => e = .returned v ∧ ∃ m, w'' = f m :=
  h.mono fun _ _ ⟨he, hb⟩ => ⟨he, hC _ _ hb⟩
end Go.Proofs.YtgonghmihghhnaaDoor
