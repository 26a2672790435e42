/- Codes: is; by the program and by the reference. -/
import Derived.Test.YtmgegffcgmcclaaDoorId4
import Derived.Test.YtmgegffcgmcclaaDoorIdT
namespace Go.Proofs.YtmgegffcgmcclaaDoor.Id
open Go.RowKit

theorem Is_any (s : ByteArray) (k : Int) (w : World) (hs : s.size ≤ 140737488355328) :
    Calls Tryd.prog 31 #[.string s, .int .u8 k] w fun e w' => e = .returned (.bool (isB s.data.toList k)) ∧ Below w.heap.size w w' := by
  by_cases h : splitE s.data.toList = 0
  · have h1 : (splitE s.data.toList == 0) = true := by simpa using h
    have hf := Lib.hid (show isB s.data.toList k = (splitK s.data.toList == k) by simp [isB, h])
    clear h
    go_enter Tryd.func31, Tryd.ntmps31
    go_wp2_with (go_at_call 38; refine (Split_any _ _ hs).mono ?_; rintro e w1 ⟨rfl, hb⟩)
    go_ret
    exact ⟨ret_bool hf.out.symm, hb⟩
  · have h1 : (splitE s.data.toList == 0) = false := by simpa using h
    have hf := Lib.hid (show isB s.data.toList k = false by simp [isB, h])
    clear h
    go_enter Tryd.func31, Tryd.ntmps31
    go_wp2_with (go_at_call 38; refine (Split_any _ _ hs).mono ?_; rintro e w1 ⟨rfl, hb⟩)
    go_ret
    exact ⟨ret_bool hf.out.symm, hb⟩
end Go.Proofs.YtmgegffcgmcclaaDoor.Id
