/- Codes: is; by the program and by the reference. -/
import Derived.Test.YtgonghmihghhnaaDoorId4
import Derived.Test.YtgonghmihghhnaaDoorIdT
namespace Go.Proofs.YtgonghmihghhnaaDoor.Id
open Go.RowKit

theorem Is_any (s : ByteArray) (k : Int) (w : World) (hs : s.size ≤ 140737488355328) :
    Calls Tryd.prog 42 #[.string s, .int .u8 k] w fun e w' => e = .returned (.bool (isB s.data.toList k)) ∧ Below w.heap.size w w' := by
  by_cases h : splitE s.data.toList = 0
  · have h1 : (splitE s.data.toList == 0) = true := by simpa using h
    have hf := Lib.hid (show isB s.data.toList k = (splitK s.data.toList == k) by simp [isB, h])
    clear h
    go_enter Tryd.func42, Tryd.ntmps42
    go_wp2_with (go_at_call 46; refine (Split_any _ _ hs).mono ?_; rintro e w1 ⟨rfl, hb⟩)
    go_ret
    exact ⟨ret_bool hf.out.symm, hb⟩
  · have h1 : (splitE s.data.toList == 0) = false := by simpa using h
    have hf := Lib.hid (show isB s.data.toList k = false by simp [isB, h])
    clear h
    go_enter Tryd.func42, Tryd.ntmps42
    go_wp2_with (go_at_call 46; refine (Split_any _ _ hs).mono ?_; rintro e w1 ⟨rfl, hb⟩)
    go_ret
    exact ⟨ret_bool hf.out.symm, hb⟩

theorem rIs_any (s : ByteArray) (k : Int) (w : World) (hs : s.size ≤ 140737488355328) :
    Calls Tryd.prog 39 #[.string s, .int .u8 k] w fun e w' => e = .returned (.bool (isB s.data.toList k)) ∧ Below w.heap.size w w' := by
  by_cases h : splitE s.data.toList = 0
  · have h1 : (splitE s.data.toList == 0) = true := by simpa using h
    have hf := Lib.hid (show isB s.data.toList k = (splitK s.data.toList == k) by simp [isB, h])
    clear h
    go_enter Tryd.func39, Tryd.ntmps39
    go_wp2_with (go_at_call 51; refine (rSplit_any _ _ hs).mono ?_; rintro e w1 ⟨rfl, hb⟩)
    go_ret
    exact ⟨ret_bool hf.out.symm, hb⟩
  · have h1 : (splitE s.data.toList == 0) = false := by simpa using h
    have hf := Lib.hid (show isB s.data.toList k = false by simp [isB, h])
    clear h
    go_enter Tryd.func39, Tryd.ntmps39
    go_wp2_with (go_at_call 51; refine (rSplit_any _ _ hs).mono ?_; rintro e w1 ⟨rfl, hb⟩)
    go_ret
    exact ⟨ret_bool hf.out.symm, hb⟩
end Go.Proofs.YtgonghmihghhnaaDoor.Id
