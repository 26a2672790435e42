/- the laws through the layers: codes, walked. -/
import Derived.Test.YtgonghmihghhnaaDoorTt1
namespace Go.Proofs.YtgonghmihghhnaaDoor.Cu
open Go.RowKit Go.Proofs.YtgonghmihghhnaaDoor.Id Go.Maps

def codeT (r m : Int) : ByteArray :=
  if r = 0 then (if m = 0 then ⟨#[80, 48, 48, 48, 48, 48, 49, 68]⟩ else if m = 1 then ⟨#[80, 48, 48, 48, 48, 48, 50, 75]⟩ else if m = 2 then ⟨#[80, 48, 48, 48, 48, 48, 51, 82]⟩ else ⟨#[80, 48, 48, 48, 48, 48, 52, 66]⟩) else
  if r = 1 then (if m = 0 then ⟨#[76, 48, 48, 48, 48, 48, 49, 87]⟩ else if m = 1 then ⟨#[76, 48, 48, 48, 48, 48, 50, 71]⟩ else if m = 2 then ⟨#[76, 48, 48, 48, 48, 48, 51, 78]⟩ else ⟨#[76, 48, 48, 48, 48, 48, 52, 85]⟩) else
  (if m = 0 then ⟨#[66, 48, 48, 48, 48, 48, 49, 77]⟩ else if m = 1 then ⟨#[66, 48, 48, 48, 48, 48, 50, 84]⟩ else if m = 2 then ⟨#[66, 48, 48, 48, 48, 48, 51, 68]⟩ else ⟨#[66, 48, 48, 48, 48, 48, 52, 75]⟩)
theorem codeT_size (r m : Int) : (codeT r m).size = 8 := by
  unfold codeT
  split
  · split
    · rfl
    split
    · rfl
    split <;> rfl
  split
  · split
    · rfl
    split
    · rfl
    split <;> rfl
  · split
    · rfl
    split
    · rfl
    split <;> rfl
set_option maxHeartbeats 4000000 in
set_option maxRecDepth 100000 in
set_option linter.all false in
theorem code_any (kind n : Int) (w : World) (hk0 : 0 ≤ kind ∧ kind < 256) (hn0 : 0 ≤ n ∧ n < 256) :
    Calls Tryd.prog 12 #[.int .u8 kind, .int .u8 n] w fun e w' => e = .returned (.string (codeT (kind.tmod 3) (n.tmod 4))) ∧ Below w.heap.size w w' := by
  obtain ⟨r, hr⟩ : ∃ r, kind.tmod 3 = r := ⟨_, rfl⟩
  obtain ⟨m, hm⟩ : ∃ m, n.tmod 4 = m := ⟨_, rfl⟩
  have HC : Hid (codeT (kind.tmod 3) (n.tmod 4) = codeT r m) := Lib.hid (by rw [hr, hm])
  have hr3 : r = 0 ∨ r = 1 ∨ r = 2 := by
    have h1 := Int.tmod_nonneg 3 hk0.1
    have h2 := Int.tmod_lt_of_pos kind (b := 3) (by decide)
    rw [hr] at h1 h2
    omega
  have hm4 : m = 0 ∨ m = 1 ∨ m = 2 ∨ m = 3 := by
    have h1 := Int.tmod_nonneg 4 hn0.1
    have h2 := Int.tmod_lt_of_pos n (b := 4) (by decide)
    rw [hm] at h1 h2
    omega
  go_enter Tryd.func12, Tryd.ntmps12
  rcases hr3 with rfl | rfl | rfl
  all_goals rcases hm4 with rfl | rfl | rfl | rfl
  all_goals
    go_wp2_with fail
    go_ret
    exact ⟨by rw [HC.out]; rfl, bA (bA (bA (Below.refl _ _) _) _) _⟩
end Go.Proofs.YtgonghmihghhnaaDoor.Cu
