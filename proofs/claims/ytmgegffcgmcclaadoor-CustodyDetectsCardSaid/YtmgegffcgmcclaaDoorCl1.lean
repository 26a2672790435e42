/- the law CustodyNil, walked. -/
import Derived.Test.YtmgegffcgmcclaaDoorCu14
import Derived.Test.YtmgegffcgmcclaaDoorRowCu
namespace Go.Proofs.YtmgegffcgmcclaaDoor.Cu
open Go.RowKit Go.Proofs.YtmgegffcgmcclaaDoor.Id Go.Maps

theorem Trace_nil (s : ByteArray) (w : World) : Calls Tryd.prog 24 #[.pointer none, .string s] w fun e w' => e = .returned (.tuple #[.slice none 0 0, .int .i64 1]) ∧ Below w.heap.size w w' := by
  go_enter Tryd.func24, Tryd.ntmps24
  go_wp2
  go_ret2
  exact ⟨rfl, Below.refl _ _⟩
theorem Root_nil (s : ByteArray) (w : World) : Calls Tryd.prog 26 #[.pointer none, .string s] w fun e w' => e = .returned (.tuple #[.string ⟨#[]⟩, .bool false]) ∧ Below w.heap.size w w' := by
  go_enter Tryd.func26, Tryd.ntmps26
  go_wp2_with fail
  refine (Trace_nil s w).mono ?_
  rintro e w1 ⟨rfl, b1⟩
  go_wp2_with fail
  go_ret2
  exact ⟨rfl, b1⟩
theorem Children_nil (s : ByteArray) (w : World) : Calls Tryd.prog 29 #[.pointer none, .string s] w fun e w' => e = .returned (.slice none 0 0) ∧ Below w.heap.size w w' := by
  go_enter Tryd.func29, Tryd.ntmps29
  go_wp2
  go_ret
  exact ⟨rfl, Below.refl _ _⟩
theorem Links_nil (w : World) : Calls Tryd.prog 17 #[.pointer none] w fun e w' => e = .returned (.slice none 0 0) ∧ Below w.heap.size w w' := by
  go_enter Tryd.func17, Tryd.ntmps17
  go_wp2
  go_ret
  exact ⟨rfl, Below.refl _ _⟩
set_option maxHeartbeats 4000000 in
set_option maxRecDepth 100000 in
set_option linter.all false in
theorem CustodyNil_any (o : COp) (w : World) (htab : Tab w) :
    Calls Tryd.prog 9 #[o.val] w fun e w' => e = .returned (.bool true) ∧ Below w.heap.size w w' := by
  have HT := Lib.hid htab
  have HW := Lib.hid (bA (Below.refl w.heap.size w) (.cells #[.string o.it, .string o.pa, .string o.sp, .int .i64 o.t, .int .i64 o.vo] 29))
  have hr := heap_alloc_new w (.cells #[.string o.it, .string o.pa, .string o.sp, .int .i64 o.t, .int .i64 o.vo] 29)
  have XC := Lib.hid (fun (W : World) (hW : Below (w.alloc (.cells #[.string o.it, .string o.pa, .string o.sp, .int .i64 o.t, .int .i64 o.vo] 29)).heap.size (w.alloc (.cells #[.string o.it, .string o.pa, .string o.sp, .int .i64 o.t, .int .i64 o.vo] 29)) W) => (cell_of_row W w.heap.size 0 _ _ _ ((hW.block w.heap.size (by simp)).trans hr)))
  unfold COp.val
  clear htab hr
  go_enter Tryd.func9, Tryd.ntmps9
  go_wp2_with fail
  refine (Add_nil _ _ _ _ _ _).mono ?_
  rintro e w1 ⟨rfl, b1⟩
  have z1 : w1.cell? ⟨w.heap.size, 0, none⟩ = some (.string o.it) := XC.out _ b1
  go_wp2_with fail
  refine (Trace_nil _ _).mono ?_
  rintro e w2 ⟨rfl, b2⟩
  have b2' := bT b1 b2
  have z2 : w2.cell? ⟨w.heap.size, 0, none⟩ = some (.string o.it) := XC.out _ b2'
  go_wp2_with fail
  refine (Root_nil _ _).mono ?_
  rintro e w3 ⟨rfl, b3⟩
  have b3' := bT b2' b3
  have z3 : w3.cell? ⟨w.heap.size, 0, none⟩ = some (.string o.it) := XC.out _ b3'
  go_wp2_with fail
  refine (Children_nil _ _).mono ?_
  rintro e w4 ⟨rfl, b4⟩
  go_wp2_with fail
  refine (Links_nil _).mono ?_
  rintro e w5 ⟨rfl, b5⟩
  have B5 := Lib.hid (HW.out.trans ((bT (bT b3' b4) b5).mono HW.out.size))
  go_wp2_with fail
  refine (awake_any _ (HT.out.on B5.out)).mono ?_
  rintro e w6 ⟨rfl, b6⟩
  go_wp2_with fail
  go_ret
  exact ⟨rfl, bT B5.out b6⟩
end Go.Proofs.YtmgegffcgmcclaaDoor.Cu
