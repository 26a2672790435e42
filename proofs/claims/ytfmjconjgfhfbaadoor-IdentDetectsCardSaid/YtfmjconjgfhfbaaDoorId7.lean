/- Codes: is, next; by the program and by the reference. -/
import Derived.Test.YtfmjconjgfhfbaaDoorId6
import Derived.Lib.AppendIntMem
namespace Go.Proofs.YtfmjconjgfhfbaaDoor.Id
open Go.RowKit

theorem Tab.on {w w' : World} (h : Tab w) (hb : Below w.heap.size w w') : Tab w' := (Lib.tabBelow_of_tabIs h) w' hb

theorem Is_any (s : ByteArray) (k : Int) (w : World) (hs : s.size ≤ 140737488355328) :
    Calls Tryd.prog 20 #[.string s, .int .u8 k] w fun e w' => e = .returned (.bool (isB s.data.toList k)) ∧ Below w.heap.size w w' := by
  by_cases h : splitE s.data.toList = 0
  · have h1 : (splitE s.data.toList == 0) = true := by simpa using h
    have hf := Lib.hid (show isB s.data.toList k = (splitK s.data.toList == k) by simp [isB, h])
    clear h
    go_enter Tryd.func20, Tryd.ntmps20
    go_wp2_with (go_at_call 18; refine (Split_any _ _ hs).mono ?_; rintro e w1 ⟨rfl, hb⟩)
    go_ret
    exact ⟨ret_bool hf.out.symm, hb⟩
  · have h1 : (splitE s.data.toList == 0) = false := by simpa using h
    have hf := Lib.hid (show isB s.data.toList k = false by simp [isB, h])
    clear h
    go_enter Tryd.func20, Tryd.ntmps20
    go_wp2_with (go_at_call 18; refine (Split_any _ _ hs).mono ?_; rintro e w1 ⟨rfl, hb⟩)
    go_ret
    exact ⟨ret_bool hf.out.symm, hb⟩

set_option maxRecDepth 100000 in
theorem Next_any (s : ByteArray) (w : World) (hs : s.size ≤ 140737488355328) (htab : Tab w) :
    Calls Tryd.prog 22 #[.string s] w fun e w' => e = .returned (.tuple #[.string (nextR s.data.toList), .int .i64 (nextE s.data.toList)]) ∧ Below w.heap.size w w' := by
  by_cases h : splitE s.data.toList = 0
  · have h1 : (splitE s.data.toList != 0) = false := by simpa using h
    have hf := Lib.hid (show nextR s.data.toList = codeR (splitK s.data.toList) (splitN s.data.toList + 1) by simp [nextR, h])
    have hg := Lib.hid (show nextE s.data.toList = codeE (splitK s.data.toList) (splitN s.data.toList + 1) by simp [nextE, h])
    have hr := splitN_range s.data.toList
    clear h
    go_enter Tryd.func22, Tryd.ntmps22
    go_wp2_with (first | (go_at_call 18; refine (Split_any _ _ hs).mono ?_; rintro e w1 ⟨rfl, hb⟩) | (go_at_call 16; refine (Code_any _ _ _ (Tab.on htab hb)).mono ?_; rintro e w2 ⟨rfl, hb2⟩))
    go_ret2
    exact ⟨ret_se hf.out.symm hg.out.symm, bT hb hb2⟩
  · have h1 : (splitE s.data.toList != 0) = true := by simpa using h
    have hf := Lib.hid (show nextR s.data.toList = ⟨#[]⟩ by simp [nextR, h])
    have hg := Lib.hid (show nextE s.data.toList = splitE s.data.toList by simp [nextE, h])
    clear h
    go_enter Tryd.func22, Tryd.ntmps22
    go_wp2_with (go_at_call 18; refine (Split_any _ _ hs).mono ?_; rintro e w1 ⟨rfl, hb⟩)
    go_ret2
    exact ⟨ret_se hf.out.symm hg.out.symm, hb⟩

theorem rIs_any (s : ByteArray) (k : Int) (w : World) (hs : s.size ≤ 140737488355328) :
    Calls Tryd.prog 21 #[.string s, .int .u8 k] w fun e w' => e = .returned (.bool (isB s.data.toList k)) ∧ Below w.heap.size w w' := by
  by_cases h : splitE s.data.toList = 0
  · have h1 : (splitE s.data.toList == 0) = true := by simpa using h
    have hf := Lib.hid (show isB s.data.toList k = (splitK s.data.toList == k) by simp [isB, h])
    clear h
    go_enter Tryd.func21, Tryd.ntmps21
    go_wp2_with (go_at_call 19; refine (rSplit_any _ _ hs).mono ?_; rintro e w1 ⟨rfl, hb⟩)
    go_ret
    exact ⟨ret_bool hf.out.symm, hb⟩
  · have h1 : (splitE s.data.toList == 0) = false := by simpa using h
    have hf := Lib.hid (show isB s.data.toList k = false by simp [isB, h])
    clear h
    go_enter Tryd.func21, Tryd.ntmps21
    go_wp2_with (go_at_call 19; refine (rSplit_any _ _ hs).mono ?_; rintro e w1 ⟨rfl, hb⟩)
    go_ret
    exact ⟨ret_bool hf.out.symm, hb⟩

set_option maxRecDepth 100000 in
theorem rNext_any (s : ByteArray) (w : World) (hs : s.size ≤ 140737488355328) :
    Calls Tryd.prog 23 #[.string s] w fun e w' => e = .returned (.tuple #[.string (nextR s.data.toList), .int .i64 (nextE s.data.toList)]) ∧ Below w.heap.size w w' := by
  by_cases h : splitE s.data.toList = 0
  · have h1 : (splitE s.data.toList != 0) = false := by simpa using h
    have hf := Lib.hid (show nextR s.data.toList = codeR (splitK s.data.toList) (splitN s.data.toList + 1) by simp [nextR, h])
    have hg := Lib.hid (show nextE s.data.toList = codeE (splitK s.data.toList) (splitN s.data.toList + 1) by simp [nextE, h])
    have hr := splitN_range s.data.toList
    clear h
    go_enter Tryd.func23, Tryd.ntmps23
    go_wp2_with (first | (go_at_call 19; refine (rSplit_any _ _ hs).mono ?_; rintro e w1 ⟨rfl, hb⟩) | (go_at_call 17; refine (rCode_any _ _ _).mono ?_; rintro e w2 ⟨rfl, hb2⟩))
    go_ret2
    exact ⟨ret_se hf.out.symm hg.out.symm, bT hb hb2⟩
  · have h1 : (splitE s.data.toList != 0) = true := by simpa using h
    have hf := Lib.hid (show nextR s.data.toList = ⟨#[]⟩ by simp [nextR, h])
    have hg := Lib.hid (show nextE s.data.toList = splitE s.data.toList by simp [nextE, h])
    clear h
    go_enter Tryd.func23, Tryd.ntmps23
    go_wp2_with (go_at_call 19; refine (rSplit_any _ _ hs).mono ?_; rintro e w1 ⟨rfl, hb⟩)
    go_ret2
    exact ⟨ret_se hf.out.symm hg.out.symm, hb⟩
end Go.Proofs.YtfmjconjgfhfbaaDoor.Id
