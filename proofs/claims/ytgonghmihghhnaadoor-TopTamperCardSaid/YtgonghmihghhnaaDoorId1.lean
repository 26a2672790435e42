/- The classes of bytes, the check letter: walked. -/
import Derived.Test.YtgonghmihghhnaaDoorProg
import Derived.WalkKit
import Derived.WalkSpells
import Derived.WalkLawsBesides
import Derived.Lib.Hide
import Derived.Test.YtgonghmihghhnaaDoorId0
namespace Go.Proofs.YtgonghmihghhnaaDoor.Id
open Go.RowKit

theorem bA {a w : World} (h : Below a.heap.size a w) (o : Obj) : Below a.heap.size a (w.alloc o) := h.alloc h.size o
theorem bD {B : Nat} {a w : World} (h : Below B a w) (n : Nat) : Below B a (w.drewN n) := ⟨h.os, h.tape, h.output, h.size, h.block⟩
theorem bd {B : Nat} {a w : World} (h : Below B a w) : Below B a w.drew := h.drew
theorem bT {a b c : World} (h : Below a.heap.size a b) (k : Below b.heap.size b c) : Below a.heap.size a c := h.trans (k.mono h.size)
theorem ret_int {k : IntKind} {a b : Int} (h : a = b) : Ending.returned (.int k a) = .returned (.int k b) := by rw [h]

theorem ret_bool {a b : Bool} (h : a = b) : Ending.returned (.bool a) = .returned (.bool b) := by rw [h]
theorem ret_str {a b : ByteArray} (h : a = b) : Ending.returned (.string a) = .returned (.string b) := by rw [h]

theorem digit_any (n : Int) (w : World) : Calls Tryd.prog 53 #[.int .u8 n] w fun e w' => e = .returned (.bool (digB n)) ∧ w = w' := by
  by_cases h1 : 48 ≤ n
  · by_cases h2 : n ≤ 57
    · rw [digB_yes h1 h2]
      go_enter Tryd.func53, Tryd.ntmps53
      go_wp2
      go_ret
      exact ⟨rfl, rfl⟩
    · rw [digB_hi (by omega)]
      go_enter Tryd.func53, Tryd.ntmps53
      go_wp2
      go_ret
      exact ⟨rfl, rfl⟩
  · rw [digB_lo (by omega)]
    go_enter Tryd.func53, Tryd.ntmps53
    go_wp2
    go_ret
    exact ⟨rfl, rfl⟩
theorem rdigit_any (n : Int) (w : World) : Calls Tryd.prog 52 #[.int .u8 n] w fun e w' => e = .returned (.bool (digB n)) ∧ w = w' := by
  by_cases h1 : 48 ≤ n
  · by_cases h2 : n ≤ 57
    · rw [digB_yes h1 h2]
      go_enter Tryd.func52, Tryd.ntmps52
      go_wp2
      go_ret
      exact ⟨rfl, rfl⟩
    · rw [digB_hi (by omega)]
      go_enter Tryd.func52, Tryd.ntmps52
      go_wp2
      go_ret
      exact ⟨rfl, rfl⟩
  · rw [digB_lo (by omega)]
    go_enter Tryd.func52, Tryd.ntmps52
    go_wp2
    go_ret
    exact ⟨rfl, rfl⟩
theorem capital_any (n : Int) (w : World) : Calls Tryd.prog 63 #[.int .u8 n] w fun e w' => e = .returned (.bool (capB n)) ∧ w = w' := by
  by_cases h1 : 65 ≤ n
  · by_cases h2 : n ≤ 90
    · rw [capB_yes h1 h2]
      go_enter Tryd.func63, Tryd.ntmps63
      go_wp2
      go_ret
      exact ⟨rfl, rfl⟩
    · rw [capB_hi (by omega)]
      go_enter Tryd.func63, Tryd.ntmps63
      go_wp2
      go_ret
      exact ⟨rfl, rfl⟩
  · rw [capB_lo (by omega)]
    go_enter Tryd.func63, Tryd.ntmps63
    go_wp2
    go_ret
    exact ⟨rfl, rfl⟩
theorem rcapital_any (n : Int) (w : World) : Calls Tryd.prog 61 #[.int .u8 n] w fun e w' => e = .returned (.bool (capB n)) ∧ w = w' := by
  by_cases h1 : 65 ≤ n
  · by_cases h2 : n ≤ 90
    · rw [capB_yes h1 h2]
      go_enter Tryd.func61, Tryd.ntmps61
      go_wp2
      go_ret
      exact ⟨rfl, rfl⟩
    · rw [capB_hi (by omega)]
      go_enter Tryd.func61, Tryd.ntmps61
      go_wp2
      go_ret
      exact ⟨rfl, rfl⟩
  · rw [capB_lo (by omega)]
    go_enter Tryd.func61, Tryd.ntmps61
    go_wp2
    go_ret
    exact ⟨rfl, rfl⟩

set_option maxHeartbeats 400000 in
theorem Letter_any (s : ByteArray) (w : World) (hs : s.size ≤ 140737488355328) :
    Calls Tryd.prog 55 #[.string s] w fun e w' => e = .returned (.int .u8 (65 + letM s.data.toList)) ∧ w = w' := by
  have hfin := letM_range s.data.toList
  have HT := Lib.hid (take_all s)
  go_enter Tryd.func55, Tryd.ntmps55
  go_wp2
  go_loop [3, 4, 7] (fun m _ i => ∃ k : Nat, k ≤ s.size ∧ i = .int .i64 k ∧ m = .int .i64 (letM (s.data.toList.take k))) (fun _ _ i => s.size - (intOf i).toNat)
  case atStart => exact ⟨0, Nat.zero_le _, rfl, rfl⟩
  case round =>
    obtain ⟨k, hk, rfl, rfl⟩ := hrel
    have hr := letM_range (s.data.toList.take k)
    by_cases hlt : k < s.size
    · have hw := weight_range k s[k]
      have hc : (s[k].toNat : Int) < 256 := by have := s[k].toNat_lt; omega
      have HS := Lib.hid (letM_snoc (s.data.toList.take k) s[k])
      rw [take_len s k hk, ← take_snoc s k hlt] at HS
      go_wp2
      go_round
      case rel => exact ⟨k + 1, by omega, by go_num, by rw [HS.out]⟩
      case measure => simp [intOf]; omega
    · obtain rfl : k = s.size := by omega
      rw [HT.out] at hr ⊢
      go_wp2
      go_ret
      exact ⟨ret_int rfl, rfl⟩

theorem str_nil {s : ByteArray} (h0 : s.size = 0) : s.data.toList = [] := List.eq_nil_of_length_eq_zero (by rw [Array.length_toList]; exact h0)
theorem str_nil' {s : ByteArray} (h0 : s.size = 0) : s.toList = [] := by rw [ByteArray.toList_eq]; exact str_nil h0
theorem str_some {s : ByteArray} (h0 : 0 < s.size) : s.toList.isEmpty = false := by
  rw [ByteArray.toList_eq]
  cases h : s.data.toList with
  | nil => have : s.data.toList.length = s.size := Array.length_toList; rw [h] at this; simp at this; omega
  | cons a l => rfl

set_option maxHeartbeats 400000 in
theorem IsName_any (s : ByteArray) (w : World) (hs : s.size ≤ 140737488355328) :
    Calls Tryd.prog 43 #[.string s] w fun e w' => e = .returned (.bool (nameB s.data.toList)) ∧ w = w' := by
  by_cases h0 : s.size = 0
  · rw [str_nil h0, nameB_empty]
    have e1 : s.toList = [] := str_nil' h0
    have e2 : (!s.toList.isEmpty) = false := by rw [e1]; rfl
    go_enter Tryd.func43, Tryd.ntmps43
    go_wp2
    go_ret
    exact ⟨rfl, rfl⟩
  have h1 : 0 < s.size := by omega
  have e1 : s.toList.isEmpty = false := str_some h1
  have e2 : (!s.toList.isEmpty) = true := by rw [e1]; rfl
  by_cases h16 : s.size ≤ 16
  · by_cases hd : digB (s[0].toNat : Int) = true
    · have hl : lowB (s[0].toNat : Int) = false := by
        have : 48 ≤ (s[0].toNat : Int) ∧ (s[0].toNat : Int) ≤ 57 := by simpa [digB] using hd
        simp [lowB]; omega
      rw [nameB_head h1 hl]
      clear hl
      go_enter Tryd.func43, Tryd.ntmps43
      go_wp2_with (go_at_call 53; refine (digit_any _ _).mono ?_; rintro e w' ⟨rfl, rfl⟩)
      go_ret
      exact ⟨rfl, rfl⟩
    have hd : digB (s[0].toNat : Int) = false := by simpa using hd
    by_cases h95 : (s[0].toNat : Int) = 95
    · have hl : lowB (s[0].toNat : Int) = false := by simp [lowB]; omega
      rw [nameB_head h1 hl]
      have h95' : ((s[0].toNat : Int) == 95) = true := by simpa using h95
      clear h95 hl
      go_enter Tryd.func43, Tryd.ntmps43
      go_wp2_with (go_at_call 53; refine (digit_any _ _).mono ?_; rintro e w' ⟨rfl, rfl⟩)
      go_ret
      exact ⟨rfl, rfl⟩
    have HD := Lib.hid hd
    have H95 := Lib.hid h95
    have h95' : ((s[0].toNat : Int) == 95) = false := by simpa using h95
    clear h95
    go_enter Tryd.func43, Tryd.ntmps43
    go_wp2_with (go_at_call 53; refine (digit_any _ _).mono ?_; rintro e w' ⟨rfl, rfl⟩)
    go_loop [3, 24] (fun _ i => ∃ k : Nat, k ≤ s.size ∧ i = .int .i64 k ∧ Hid (nall s k = true)) (fun _ i => s.size - (intOf i).toNat)
    case atStart => exact ⟨0, Nat.zero_le _, rfl, nall_zero s⟩
    case round =>
      clear hd h95'
      obtain ⟨k, hk, rfl, HA⟩ := hrel
      by_cases hlt : k < s.size
      · have HS := Lib.hid (nall_succ s k hlt)
        rw [HA.out, Bool.true_and] at HS
        by_cases c1 : 97 ≤ (s[k].toNat : Int)
        · by_cases c2 : (s[k].toNat : Int) ≤ 122
          · have hd : digB (s[k].toNat : Int) = false := digB_hi (by omega)
            rw [nchB_low c1 c2] at HS
            go_wp2_with (go_at_call 53; refine (digit_any _ _).mono ?_; rintro e w' ⟨rfl, rfl⟩)
            go_round
            case rel => exact ⟨k + 1, by omega, by go_num, HS⟩
            case measure => simp [intOf]; omega
          · have hd : digB (s[k].toNat : Int) = false := digB_hi (by omega)
            have HF := Lib.hid (nameB_all k hlt (nchB_no (by omega) (by omega) hd))
            clear HS
            go_wp2_with (go_at_call 53; refine (digit_any _ _).mono ?_; rintro e w' ⟨rfl, rfl⟩)
            go_ret
            exact ⟨ret_bool HF.out.symm, rfl⟩
        · by_cases c3 : (s[k].toNat : Int) = 95
          · rw [nchB_us c3] at HS
            have c3' : ((s[k].toNat : Int) != 95) = false := by rw [c3]; rfl
            have hd : digB (s[k].toNat : Int) = false := digB_hi (by omega)
            clear c3
            go_wp2_with (go_at_call 53; refine (digit_any _ _).mono ?_; rintro e w' ⟨rfl, rfl⟩)
            go_round
            case rel => exact ⟨k + 1, by omega, by go_num, HS⟩
            case measure => simp [intOf]; omega
          · have c3' : ((s[k].toNat : Int) != 95) = true := by simpa using c3
            by_cases hd : digB (s[k].toNat : Int) = true
            · have HN : nchB (s[k].toNat : Int) = true := by simp [nchB, hd]
              rw [HN] at HS
              clear HN c3
              go_wp2_with (go_at_call 53; refine (digit_any _ _).mono ?_; rintro e w' ⟨rfl, rfl⟩)
              go_round
              case rel => exact ⟨k + 1, by omega, by go_num, HS⟩
              case measure => simp [intOf]; omega
            · have hd : digB (s[k].toNat : Int) = false := by simpa using hd
              have HF := Lib.hid (nameB_all k hlt (nchB_no (by omega) c3 hd))
              clear HS c3
              go_wp2_with (go_at_call 53; refine (digit_any _ _).mono ?_; rintro e w' ⟨rfl, rfl⟩)
              go_ret
              exact ⟨ret_bool HF.out.symm, rfl⟩
      · obtain rfl : k = s.size := by omega
        have HF := Lib.hid (nameB_yes h1 h16 HD.out H95.out HA.out)
        go_wp2
        go_ret
        exact ⟨ret_bool HF.out.symm, rfl⟩
  · rw [nameB_long (by rw [Array.length_toList]; show 16 < s.size; omega)]
    go_enter Tryd.func43, Tryd.ntmps43
    go_wp2
    go_ret
    exact ⟨rfl, rfl⟩
end Go.Proofs.YtgonghmihghhnaaDoor.Id
