/- The examples of the chapter. -/
import Derived.Test.YtfmjconjgfhfbaaDoorId7
namespace Go.Proofs.YtfmjconjgfhfbaaDoor.Id
open Go.RowKit

theorem aw_code (w : World) (h : Tab w) : Calls Tryd.prog 16 #[.int .u8 66, .int .i64 42] w fun e w' => e = .returned (.tuple #[.string ⟨#[66, 48, 48, 48, 48, 52, 50, 85]⟩, .int .i64 0]) ∧ Below w.heap.size w w' := Code_any 66 42 w h
theorem aw_next (w : World) (h : Tab w) : Calls Tryd.prog 22 #[.string ⟨#[66, 48, 48, 48, 48, 52, 50, 85]⟩] w fun e w' => e = .returned (.tuple #[.string ⟨#[66, 48, 48, 48, 48, 52, 51, 69]⟩, .int .i64 0]) ∧ Below w.heap.size w w' := Next_any ⟨#[66, 48, 48, 48, 48, 52, 50, 85]⟩ w (by decide) h
theorem aw_split (w : World) : Calls Tryd.prog 18 #[.string ⟨#[66, 48, 48, 48, 48, 52, 50, 85]⟩] w fun e w' => e = .returned (.tuple #[.int .u8 66, .int .i64 42, .int .i64 0]) ∧ Below w.heap.size w w' := Split_any ⟨#[66, 48, 48, 48, 48, 52, 50, 85]⟩ w (by decide)
theorem aw_split2 (w : World) : Calls Tryd.prog 18 #[.string ⟨#[66, 48, 48, 48, 48, 52, 50, 86]⟩] w fun e w' => e = .returned (.tuple #[.int .u8 0, .int .i64 0, .int .i64 16]) ∧ Below w.heap.size w w' := Split_any ⟨#[66, 48, 48, 48, 48, 52, 50, 86]⟩ w (by decide)
theorem aw_letter (w : World) : Calls Tryd.prog 14 #[.string ⟨#[]⟩] w fun e w' => e = .returned (.int .u8 65) ∧ w = w' := Letter_any ⟨#[]⟩ w (by decide)
theorem aw_name (w : World) : Calls Tryd.prog 12 #[.string ⟨#[115, 112, 114, 117, 99, 101, 95, 50]⟩] w fun e w' => e = .returned (.bool true) ∧ w = w' := IsName_any ⟨#[115, 112, 114, 117, 99, 101, 95, 50]⟩ w (by decide)
theorem aw_name2 (w : World) : Calls Tryd.prog 12 #[.string ⟨#[50, 120]⟩] w fun e w' => e = .returned (.bool false) ∧ w = w' := IsName_any ⟨#[50, 120]⟩ w (by decide)
theorem aw_is (w : World) : Calls Tryd.prog 20 #[.string ⟨#[66, 48, 48, 48, 48, 52, 50, 85]⟩, .int .u8 66] w fun e w' => e = .returned (.bool true) ∧ Below w.heap.size w w' := Is_any ⟨#[66, 48, 48, 48, 48, 52, 50, 85]⟩ 66 w (by decide)

set_option maxRecDepth 100000 in
set_option maxHeartbeats 1000000 in
theorem awake_any (w : World) (h : Tab w) : Calls Tryd.prog 11 #[] w fun e w' => e = .returned (.bool true) ∧ Below w.heap.size w w' := by
  have ht := Lib.hid h
  clear h
  go_enter Tryd.func11, Tryd.ntmps11
  go_wp2_with fail
  refine (aw_code _ ht.out).mono ?_
  rintro e w1 ⟨rfl, b1⟩
  go_wp2_with fail
  refine (aw_next _ (ht.out.on b1)).mono ?_
  rintro e w2 ⟨rfl, b2⟩
  go_wp2_with fail
  refine (aw_split _).mono ?_
  rintro e w3 ⟨rfl, b3⟩
  go_wp2_with fail
  refine (aw_split2 _).mono ?_
  rintro e w4 ⟨rfl, b4⟩
  go_wp2_with fail
  refine (aw_letter _).mono ?_
  rintro e w5 ⟨rfl, rfl⟩
  go_wp2_with fail
  refine (aw_name _).mono ?_
  rintro e w6 ⟨rfl, rfl⟩
  go_wp2_with fail
  refine (aw_name2 _).mono ?_
  rintro e w7 ⟨rfl, rfl⟩
  go_wp2_with fail
  refine (aw_is _).mono ?_
  rintro e w8 ⟨rfl, b8⟩
  go_wp2
  go_ret
  exact ⟨rfl, bT (bT (bT (bT b1 b2) b3) b4) b8⟩
end Go.Proofs.YtfmjconjgfhfbaaDoor.Id
