/- Five laws of chapter 2, walked. -/
import Derived.Test.YtfmjconjgfhfbaaDoorId8
namespace Go.Proofs.YtfmjconjgfhfbaaDoor.Id
open Go.RowKit

theorem size_dec {s : ByteArray} {k : Nat} (h : k < s.size) : decide ((k : Int) < (s.size : Int)) = true := by simp; omega

theorem IdentNames_walk (s : ByteArray) (w : World) (h : Tab w) (hs : s.size ≤ 140737488355328) :
    Calls Tryd.prog 3 #[.string s] w fun e w' => e = .returned (.bool true) ∧ Below w.heap.size w w' := by
  have ht := Lib.hid h
  clear h
  by_cases h2 : 2000 < s.size
  · go_enter Tryd.func3, Tryd.ntmps3
    go_wp2_with (go_at_call 11; refine (awake_any _ ht.out).mono ?_; rintro e w1 ⟨rfl, b1⟩)
    go_ret
    exact ⟨rfl, b1⟩
  · go_enter Tryd.func3, Tryd.ntmps3
    go_wp2_with (first | (go_at_call 11; refine (awake_any _ ht.out).mono ?_; rintro e w1 ⟨rfl, b1⟩) | (go_at_call 12; refine (IsName_any _ _ hs).mono ?_; rintro e w1 ⟨rfl, rfl⟩) | (go_at_call 13; refine (rIsName_any _ _ hs).mono ?_; rintro e w1 ⟨rfl, rfl⟩))
    go_ret
    exact ⟨rfl, b1⟩

theorem IdentLetters_walk (s : ByteArray) (w : World) (h : Tab w) (hs : s.size ≤ 140737488355328) :
    Calls Tryd.prog 4 #[.string s] w fun e w' => e = .returned (.bool true) ∧ Below w.heap.size w w' := by
  have ht := Lib.hid h
  clear h
  by_cases h2 : 4000 < s.size
  · go_enter Tryd.func4, Tryd.ntmps4
    go_wp2_with (go_at_call 11; refine (awake_any _ ht.out).mono ?_; rintro e w1 ⟨rfl, b1⟩)
    go_ret
    exact ⟨rfl, b1⟩
  · go_enter Tryd.func4, Tryd.ntmps4
    go_wp2_with (first | (go_at_call 11; refine (awake_any _ ht.out).mono ?_; rintro e w1 ⟨rfl, b1⟩) | (go_at_call 14; refine (Letter_any _ _ hs).mono ?_; rintro e w1 ⟨rfl, rfl⟩) | (go_at_call 15; refine (rLetter_any _ _ hs).mono ?_; rintro e w1 ⟨rfl, rfl⟩))
    go_ret
    exact ⟨rfl, b1⟩

theorem IdentCodes_walk (k n : Int) (w : World) (h : Tab w) :
    Calls Tryd.prog 5 #[.int .u8 k, .int .i64 n] w fun e w' => e = .returned (.bool true) ∧ Below w.heap.size w w' := by
  have ht := Lib.hid h
  clear h
  go_enter Tryd.func5, Tryd.ntmps5
  go_wp2_with fail
  refine (Code_any _ _ _ ht.out).mono ?_
  rintro e w1 ⟨rfl, b1⟩
  go_wp2_with fail
  refine (rCode_any _ _ _).mono ?_
  rintro e w2 ⟨rfl, b2⟩
  go_wp2_with fail
  refine (awake_any _ ((ht.out.on b1).on b2)).mono ?_
  rintro e w3 ⟨rfl, b3⟩
  go_wp2
  go_ret
  exact ⟨rfl, bT (bT b1 b2) b3⟩

theorem IdentSplits_walk (s : ByteArray) (k : Int) (w : World) (h : Tab w) (hs : s.size ≤ 140737488355328) :
    Calls Tryd.prog 6 #[.string s, .int .u8 k] w fun e w' => e = .returned (.bool true) ∧ Below w.heap.size w w' := by
  have ht := Lib.hid h
  clear h
  by_cases h2 : 2000 < s.size
  · go_enter Tryd.func6, Tryd.ntmps6
    go_wp2_with (go_at_call 11; refine (awake_any _ ht.out).mono ?_; rintro e w1 ⟨rfl, b1⟩)
    go_ret
    exact ⟨rfl, b1⟩
  · go_enter Tryd.func6, Tryd.ntmps6
    go_wp2_with fail
    refine (Split_any _ _ hs).mono ?_
    rintro e w1 ⟨rfl, b1⟩
    go_wp2_with fail
    refine (rSplit_any _ _ hs).mono ?_
    rintro e w2 ⟨rfl, b2⟩
    go_wp2_with fail
    refine (Is_any _ _ _ hs).mono ?_
    rintro e w3 ⟨rfl, b3⟩
    go_wp2_with fail
    refine (rIs_any _ _ _ hs).mono ?_
    rintro e w4 ⟨rfl, b4⟩
    go_wp2_with fail
    refine (awake_any _ ((((ht.out.on b1).on b2).on b3).on b4)).mono ?_
    rintro e w5 ⟨rfl, b5⟩
    go_wp2
    go_ret
    exact ⟨rfl, bT (bT (bT (bT b1 b2) b3) b4) b5⟩

theorem IdentNexts_walk (s : ByteArray) (w : World) (h : Tab w) (hs : s.size ≤ 140737488355328) :
    Calls Tryd.prog 7 #[.string s] w fun e w' => e = .returned (.bool true) ∧ Below w.heap.size w w' := by
  have ht := Lib.hid h
  clear h
  by_cases h2 : 2000 < s.size
  · go_enter Tryd.func7, Tryd.ntmps7
    go_wp2_with (go_at_call 11; refine (awake_any _ ht.out).mono ?_; rintro e w1 ⟨rfl, b1⟩)
    go_ret
    exact ⟨rfl, b1⟩
  · go_enter Tryd.func7, Tryd.ntmps7
    go_wp2_with fail
    refine (Next_any _ _ hs ht.out).mono ?_
    rintro e w1 ⟨rfl, b1⟩
    go_wp2_with fail
    refine (rNext_any _ _ hs).mono ?_
    rintro e w2 ⟨rfl, b2⟩
    go_wp2_with fail
    refine (awake_any _ ((ht.out.on b1).on b2)).mono ?_
    rintro e w3 ⟨rfl, b3⟩
    go_wp2
    go_ret
    exact ⟨rfl, bT (bT b1 b2) b3⟩
end Go.Proofs.YtfmjconjgfhfbaaDoor.Id
