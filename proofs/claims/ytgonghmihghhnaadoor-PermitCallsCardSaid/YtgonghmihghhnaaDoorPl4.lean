/- the law PermitNil, walked. -/
import Derived.Test.YtgonghmihghhnaaDoorPl3
namespace Go.Proofs.YtgonghmihghhnaaDoor.Pe
open Go.RowKit Go.Proofs.YtgonghmihghhnaaDoor.Id

theorem Left_nil (s : ByteArray) (w : World) : Calls Tryd.prog 26 #[.pointer none, .string s] w fun e w' => e = .returned (.tuple #[.int .i64 0, .bool false]) ∧ w = w' := by
  go_enter Tryd.func26, Tryd.ntmps26
  go_wp2
  go_ret2
  exact ⟨rfl, rfl⟩
theorem Add_nil (p : Perm) (w : World) : Calls Tryd.prog 21 #[.pointer none, .agg #[.string p.pid, .string p.psp, .int .i64 p.pfr, .int .i64 p.pun, .int .i64 p.pqu]] w fun e w' => e = .returned (.int .i64 1) ∧ Below w.heap.size w w' := by
  go_enter Tryd.func21, Tryd.ntmps21
  go_wp2
  go_ret
  exact ⟨rfl, bA (Below.refl _ _) _⟩
theorem Fell_nil (s t : ByteArray) (n : Int) (w : World) : Calls Tryd.prog 24 #[.pointer none, .string s, .string t, .int .i64 n] w fun e w' => e = .returned (.int .i64 1) ∧ w = w' := by
  go_enter Tryd.func24, Tryd.ntmps24
  go_wp2
  go_ret
  exact ⟨rfl, rfl⟩
theorem Use_nil (s : ByteArray) (n : Int) (w : World) : Calls Tryd.prog 23 #[.pointer none, .string s, .int .i64 n] w fun e w' => e = .returned (.int .i64 1) ∧ w = w' := by
  go_enter Tryd.func23, Tryd.ntmps23
  go_wp2
  go_ret
  exact ⟨rfl, rfl⟩
theorem List_nil (w : World) : Calls Tryd.prog 29 #[.pointer none] w fun e w' => e = .returned (.slice none 0 0) ∧ w = w' := by
  go_enter Tryd.func29, Tryd.ntmps29
  go_wp2
  go_ret
  exact ⟨rfl, rfl⟩
set_option maxHeartbeats 4000000 in
set_option maxRecDepth 100000 in
theorem PermitNil_any (p : Perm) (n : Int) (w : World) : Calls Tryd.prog 9 #[p.val, .int .i64 n] w fun e w' => e = .returned (.bool true) ∧ Below w.heap.size w w' := by
  unfold Perm.val
  go_enter Tryd.func9, Tryd.ntmps9
  go_wp2_with fail
  refine (Left_nil _ _).mono ?_
  rintro e w1 ⟨rfl, rfl⟩
  go_wp2_with fail
  refine (Add_nil p _).mono ?_
  rintro e w2 ⟨rfl, b2⟩
  obtain ⟨x0, x1, x2, x3, x4⟩ := boxed w w2 p b2
  go_wp2_with fail
  refine (Fell_nil _ _ _ _).mono ?_
  rintro e w3 ⟨rfl, rfl⟩
  go_wp2_with fail
  refine (Use_nil _ _ _).mono ?_
  rintro e w3 ⟨rfl, rfl⟩
  go_wp2_with fail
  refine (List_nil _).mono ?_
  rintro e w3 ⟨rfl, rfl⟩
  go_wp2_with fail
  refine (awake_any _).mono ?_
  rintro e w3 ⟨rfl, b3⟩
  go_wp2_with fail
  go_ret
  exact ⟨rfl, bT (bB b2) b3⟩
end Go.Proofs.YtgonghmihghhnaaDoor.Pe
