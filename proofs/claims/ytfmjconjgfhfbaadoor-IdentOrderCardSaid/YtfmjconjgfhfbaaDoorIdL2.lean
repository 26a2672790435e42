/- Two laws of chapter 2 without the reference, walked: back, order. -/
import Derived.Test.YtfmjconjgfhfbaaDoorId8
import Derived.Test.YtfmjconjgfhfbaaDoorIdE
namespace Go.Proofs.YtfmjconjgfhfbaaDoor.Id
open Go.RowKit

theorem Split_code (k n : Int) (w : World) (hk : capB k = true) (h0 : 0 ≤ n) (h1 : n ≤ 999999) :
    Calls Tryd.prog 18 #[.string (codeS k n)] w fun e w' => e = .returned (.tuple #[.int .u8 k, .int .i64 n, .int .i64 0]) ∧ Below w.heap.size w w' := by
  have h := Split_any (codeS k n) w (by rw [codeS_size]; omega)
  rw [codeS_data] at h
  obtain ⟨e1, e2, e3⟩ := split_code hk h0 h1
  rw [e1, e2, e3] at h
  exact h
theorem Is_code (k n : Int) (w : World) (hk : capB k = true) (h0 : 0 ≤ n) (h1 : n ≤ 999999) :
    Calls Tryd.prog 20 #[.string (codeS k n), .int .u8 k] w fun e w' => e = .returned (.bool true) ∧ Below w.heap.size w w' := by
  have h := Is_any (codeS k n) k w (by rw [codeS_size]; omega)
  rw [codeS_data] at h
  obtain ⟨e1, e2, e3⟩ := split_code hk h0 h1
  have e4 : isB (codeL k n) k = true := by simp [isB, e1, e2]
  rw [e4] at h
  exact h
theorem Split_no (s : ByteArray) (w : World) (hs : s.size ≤ 140737488355328) (h : splitE s.data.toList ≠ 0) :
    Calls Tryd.prog 18 #[.string s] w fun e w' => e = .returned (.tuple #[.int .u8 0, .int .i64 0, .int .i64 (splitE s.data.toList)]) ∧ Below w.heap.size w w' := by
  have c := Split_any s w hs
  rw [splitK_no rfl h, splitN_no rfl h] at c
  exact c
theorem Is_no (s : ByteArray) (k : Int) (w : World) (hs : s.size ≤ 140737488355328) (h : splitE s.data.toList ≠ 0) :
    Calls Tryd.prog 20 #[.string s, .int .u8 k] w fun e w' => e = .returned (.bool false) ∧ Below w.heap.size w w' := by
  have c := Is_any s k w hs
  have e : isB s.data.toList k = false := by simp [isB, h]
  rw [e] at c
  exact c

set_option maxHeartbeats 1000000 in
set_option maxRecDepth 100000 in
theorem IdentBack_walk (k n : Int) (s : ByteArray) (w : World) (h : Tab w) (hs : s.size ≤ 140737488355328) :
    Calls Tryd.prog 8 #[.int .u8 k, .int .i64 n, .string s] w fun e w' => e = .returned (.bool true) ∧ Below w.heap.size w w' := by
  have ht := Lib.hid h
  clear h
  by_cases h2 : 2000 < s.size
  · go_enter Tryd.func8, Tryd.ntmps8
    go_wp2_with (go_at_call 11; refine (awake_any _ ht.out).mono ?_; rintro e w1 ⟨rfl, b1⟩)
    go_ret
    exact ⟨rfl, b1⟩
  by_cases hc : codeE k n = 0
  · obtain ⟨hk, h0, h1⟩ := codeE_zero hc
    have hz : (codeS k n).size = 8 := rfl
    by_cases hq : splitE s.data.toList = 0
    · obtain ⟨k', n', hk', h0', h1', rfl⟩ := code_of_string hq
      clear hq hc
      have HK := Lib.hid hk
      have HK' := Lib.hid hk'
      clear hk hk'
      go_enter Tryd.func8, Tryd.ntmps8
      go_wp2_with fail
      refine (Code_ok k n _ HK.out h0 h1 ht.out).mono ?_
      rintro e w1 ⟨rfl, b1⟩
      go_wp2_with fail
      refine (Split_code k n _ HK.out h0 h1).mono ?_
      rintro e w2 ⟨rfl, b2⟩
      go_wp2_with fail
      refine (Is_code k n _ HK.out h0 h1).mono ?_
      rintro e w3 ⟨rfl, b3⟩
      go_wp2_with fail
      refine (Split_code k' n' _ HK'.out h0' h1').mono ?_
      rintro e w4 ⟨rfl, b4⟩
      go_wp2_with fail
      refine (Code_ok k' n' _ HK'.out h0' h1' ((((ht.out.on b1).on b2).on b3).on b4)).mono ?_
      rintro e w5 ⟨rfl, b5⟩
      go_wp2_with fail
      refine (Is_code k' n' _ HK'.out h0' h1').mono ?_
      rintro e w6 ⟨rfl, b6⟩
      go_wp2_with fail
      refine (awake_any _ ((((((ht.out.on b1).on b2).on b3).on b4).on b5).on b6)).mono ?_
      rintro e w7 ⟨rfl, b7⟩
      go_wp2
      go_ret
      exact ⟨rfl, bT (bT (bT (bT (bT (bT b1 b2) b3) b4) b5) b6) b7⟩
    · have HK := Lib.hid hk
      have HQ := Lib.hid hq
      have hq1 : (splitE s.data.toList != 0) = true := by simpa using hq
      clear hk hc hq
      go_enter Tryd.func8, Tryd.ntmps8
      go_wp2_with fail
      refine (Code_ok k n _ HK.out h0 h1 ht.out).mono ?_
      rintro e w1 ⟨rfl, b1⟩
      go_wp2_with fail
      refine (Split_code k n _ HK.out h0 h1).mono ?_
      rintro e w2 ⟨rfl, b2⟩
      go_wp2_with fail
      refine (Is_code k n _ HK.out h0 h1).mono ?_
      rintro e w3 ⟨rfl, b3⟩
      go_wp2_with fail
      refine (Split_no s _ hs HQ.out).mono ?_
      rintro e w4 ⟨rfl, b4⟩
      go_wp2_with fail
      refine (Is_no s _ _ hs HQ.out).mono ?_
      rintro e w5 ⟨rfl, b5⟩
      go_wp2_with fail
      refine (awake_any _ (((((ht.out.on b1).on b2).on b3).on b4).on b5)).mono ?_
      rintro e w6 ⟨rfl, b6⟩
      go_wp2
      go_ret
      exact ⟨rfl, bT (bT (bT (bT (bT b1 b2) b3) b4) b5) b6⟩
  · have hc1 : (codeE k n == 0) = false := by simpa using hc
    clear hc
    by_cases hq : splitE s.data.toList = 0
    · obtain ⟨k', n', hk', h0', h1', rfl⟩ := code_of_string hq
      clear hq
      have HK' := Lib.hid hk'
      clear hk'
      go_enter Tryd.func8, Tryd.ntmps8
      go_wp2_with fail
      refine (Code_any k n _ ht.out).mono ?_
      rintro e w1 ⟨rfl, b1⟩
      go_wp2_with fail
      refine (Split_code k' n' _ HK'.out h0' h1').mono ?_
      rintro e w4 ⟨rfl, b4⟩
      go_wp2_with fail
      refine (Code_ok k' n' _ HK'.out h0' h1' ((ht.out.on b1).on b4)).mono ?_
      rintro e w5 ⟨rfl, b5⟩
      go_wp2_with fail
      refine (Is_code k' n' _ HK'.out h0' h1').mono ?_
      rintro e w6 ⟨rfl, b6⟩
      go_wp2_with fail
      refine (awake_any _ ((((ht.out.on b1).on b4).on b5).on b6)).mono ?_
      rintro e w7 ⟨rfl, b7⟩
      go_wp2
      go_ret
      exact ⟨rfl, bT (bT (bT (bT b1 b4) b5) b6) b7⟩
    · have HQ := Lib.hid hq
      have hq1 : (splitE s.data.toList != 0) = true := by simpa using hq
      clear hq
      go_enter Tryd.func8, Tryd.ntmps8
      go_wp2_with fail
      refine (Code_any k n _ ht.out).mono ?_
      rintro e w1 ⟨rfl, b1⟩
      go_wp2_with fail
      refine (Split_no s _ hs HQ.out).mono ?_
      rintro e w4 ⟨rfl, b4⟩
      go_wp2_with fail
      refine (Is_no s _ _ hs HQ.out).mono ?_
      rintro e w5 ⟨rfl, b5⟩
      go_wp2_with fail
      refine (awake_any _ (((ht.out.on b1).on b4).on b5)).mono ?_
      rintro e w6 ⟨rfl, b6⟩
      go_wp2
      go_ret
      exact ⟨rfl, bT (bT (bT b1 b4) b5) b6⟩

theorem Next_code (k n : Int) (w : World) (ht : Tab w) (hk : capB k = true) (h0 : 0 ≤ n) (h1 : n ≤ 999999) :
    Calls Tryd.prog 22 #[.string (codeS k n)] w fun e w' => e = .returned (.tuple #[.string (codeR k (n + 1)), .int .i64 (codeE k (n + 1))]) ∧ Below w.heap.size w w' := by
  have h := Next_any (codeS k n) w (by rw [codeS_size]; omega) ht
  rw [codeS_data] at h
  obtain ⟨e1, e2, e3⟩ := split_code hk h0 h1
  have e4 : nextR (codeL k n) = codeR k (n + 1) := by simp [nextR, e1, e2, e3]
  have e5 : nextE (codeL k n) = codeE k (n + 1) := by simp [nextE, e1, e2, e3]
  rw [e4, e5] at h
  exact h

theorem codeS_toList (k n : Int) : (codeS k n).toList = codeL k n := by rw [ByteArray.toList_eq]; rfl

set_option maxHeartbeats 1000000 in
set_option maxRecDepth 100000 in
theorem IdentOrder_walk (k n m : Int) (w : World) (h : Tab w) :
    Calls Tryd.prog 10 #[.int .u8 k, .int .i64 n, .int .i64 m] w fun e w' => e = .returned (.bool true) ∧ Below w.heap.size w w' := by
  have ht := Lib.hid h
  clear h
  by_cases hc : codeE k n = 0
  · by_cases hd : codeE k m = 0
    · obtain ⟨hk, h0, h1⟩ := codeE_zero hc
      obtain ⟨_, g0, g1⟩ := codeE_zero hd
      clear hc hd
      have HK := Lib.hid hk
      clear hk
      have hL1 := codeS_toList k n
      have hL2 := codeS_toList k m
      have hless := less_code k n m h0 h1 g0 g1
      have hbeq := beq_code k n m h0 h1 g0 g1
      by_cases h9 : n = 999999
      · have HR := Lib.hid (codeR_range (k := k) (n := n + 1) HK.out (.inr (by omega)))
        have HE := Lib.hid (codeE_range (k := k) (n := n + 1) HK.out (.inr (by omega)))
        have h9' : (n == 999999) = true := by simpa using h9
        clear h9
        go_enter Tryd.func10, Tryd.ntmps10
        go_wp2_with fail
        refine (Code_ok k n _ HK.out h0 h1 ht.out).mono ?_
        rintro e w1 ⟨rfl, b1⟩
        go_wp2_with fail
        refine (Code_ok k m _ HK.out g0 g1 (ht.out.on b1)).mono ?_
        rintro e w2 ⟨rfl, b2⟩
        go_wp2_with fail
        refine (Next_code k n _ ((ht.out.on b1).on b2) HK.out h0 h1).mono ?_
        rw [HR.out, HE.out]
        rintro e w3 ⟨rfl, b3⟩
        go_wp2_with fail
        refine (awake_any _ (((ht.out.on b1).on b2).on b3)).mono ?_
        rintro e w7 ⟨rfl, b7⟩
        go_wp2
        go_ret
        exact ⟨rfl, bT (bT (bT b1 b2) b3) b7⟩
      · have h9' : (n == 999999) = false := by simpa using h9
        have HR := Lib.hid (codeR_ok (k := k) (n := n + 1) HK.out (by omega) (by omega))
        have HE := Lib.hid (codeE_ok (k := k) (n := n + 1) HK.out (by omega) (by omega))
        have hn1 : n + 1 ≤ 999999 := by omega
        have hn0 : 0 ≤ n + 1 := by omega
        clear h9
        go_enter Tryd.func10, Tryd.ntmps10
        go_wp2_with fail
        refine (Code_ok k n _ HK.out h0 h1 ht.out).mono ?_
        rintro e w1 ⟨rfl, b1⟩
        go_wp2_with fail
        refine (Code_ok k m _ HK.out g0 g1 (ht.out.on b1)).mono ?_
        rintro e w2 ⟨rfl, b2⟩
        go_wp2_with fail
        refine (Next_code k n _ ((ht.out.on b1).on b2) HK.out h0 h1).mono ?_
        rw [HR.out, HE.out]
        rintro e w3 ⟨rfl, b3⟩
        go_wp2_with fail
        refine (Code_ok k (n + 1) _ HK.out hn0 hn1 (((ht.out.on b1).on b2).on b3)).mono ?_
        rintro e w4 ⟨rfl, b4⟩
        go_wp2_with fail
        refine (awake_any _ ((((ht.out.on b1).on b2).on b3).on b4)).mono ?_
        rintro e w7 ⟨rfl, b7⟩
        go_wp2
        go_ret
        exact ⟨rfl, bT (bT (bT (bT b1 b2) b3) b4) b7⟩
    · have hd1 : (codeE k m != 0) = true := by simpa using hd
      have hc1 : (codeE k n != 0) = false := by simpa using hc
      clear hc hd
      go_enter Tryd.func10, Tryd.ntmps10
      go_wp2_with fail
      refine (Code_any k n _ ht.out).mono ?_
      rintro e w1 ⟨rfl, b1⟩
      go_wp2_with fail
      refine (Code_any k m _ (ht.out.on b1)).mono ?_
      rintro e w2 ⟨rfl, b2⟩
      go_wp2_with fail
      refine (awake_any _ ((ht.out.on b1).on b2)).mono ?_
      rintro e w3 ⟨rfl, b3⟩
      go_wp2
      go_ret
      exact ⟨rfl, bT (bT b1 b2) b3⟩
  · have hc1 : (codeE k n != 0) = true := by simpa using hc
    clear hc
    go_enter Tryd.func10, Tryd.ntmps10
    go_wp2_with fail
    refine (Code_any k n _ ht.out).mono ?_
    rintro e w1 ⟨rfl, b1⟩
    go_wp2_with fail
    refine (Code_any k m _ (ht.out.on b1)).mono ?_
    rintro e w2 ⟨rfl, b2⟩
    go_wp2_with fail
    refine (awake_any _ ((ht.out.on b1).on b2)).mono ?_
    rintro e w3 ⟨rfl, b3⟩
    go_wp2
    go_ret
    exact ⟨rfl, bT (bT b1 b2) b3⟩
end Go.Proofs.YtfmjconjgfhfbaaDoor.Id
