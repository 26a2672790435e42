/- The reference's names and check letters, walked. -/
import Derived.Test.YtgonghmihghhnaaDoorId1
namespace Go.Proofs.YtgonghmihghhnaaDoor.Id
open Go.RowKit

set_option maxHeartbeats 400000 in
theorem rLetter_any (s : ByteArray) (w : World) (hs : s.size ≤ 140737488355328) :
    Calls Tryd.prog 62 #[.string s] w fun e w' => e = .returned (.int .u8 (65 + letM s.data.toList)) ∧ w = w' := by
  have hfin := letM_range s.data.toList
  have HT := Lib.hid (take_all s)
  go_enter Tryd.func62, Tryd.ntmps62
  go_wp2
  go_loop [3, 4] (fun m i => ∃ k : Nat, k ≤ s.size ∧ i = .int .i64 k ∧ m = .int .i64 (letM (s.data.toList.take k))) (fun _ i => s.size - (intOf i).toNat)
  case atStart => exact ⟨0, Nat.zero_le _, rfl, rfl⟩
  case round =>
    obtain ⟨k, hk, rfl, rfl⟩ := hrel
    have hr := letM_range (s.data.toList.take k)
    by_cases hlt : k < s.size
    · have hw := weight_range' k s[k]
      have hc : (s[k].toNat : Int) < 256 := by have := s[k].toNat_lt; omega
      have HS := Lib.hid (letM_snoc' (s.data.toList.take k) s[k])
      rw [take_len s k hk, ← take_snoc s k hlt] at HS
      go_wp2
      go_round
      case rel => exact ⟨k + 1, by omega, by go_num, by rw [HS.out]⟩
      case measure => simp [intOf]; omega
    · obtain rfl : k = s.size := by omega
      rw [HT.out] at hr ⊢
      go_wp2
      go_ret
      exact ⟨ret_int rfl, rfl⟩

set_option maxHeartbeats 800000 in
theorem rIsName_any (s : ByteArray) (w : World) (hs : s.size ≤ 140737488355328) :
    Calls Tryd.prog 40 #[.string s] w fun e w' => e = .returned (.bool (nameB s.data.toList)) ∧ w = w' := by
  by_cases h0 : s.size = 0
  · rw [str_nil h0, nameB_empty]
    go_enter Tryd.func40, Tryd.ntmps40
    go_wp2
    go_ret
    exact ⟨rfl, rfl⟩
  have h1 : 0 < s.size := by omega
  by_cases h16 : s.size ≤ 16
  · have b1 : decide ((s.size : Int) < 1) = false := by simp; omega
    have b2 : decide (16 < (s.size : Int)) = false := by simp; omega
    go_enter Tryd.func40, Tryd.ntmps40
    go_wp2
    go_loop [3, 4] (fun i _ => ∃ k : Nat, k ≤ s.size ∧ i = .int .i64 k ∧ Hid (nall s k = true) ∧ Hid (0 < k → digB (s[0].toNat : Int) = false ∧ (s[0].toNat : Int) ≠ 95)) (fun i _ => s.size - (intOf i).toNat)
    case atStart => exact ⟨0, Nat.zero_le _, rfl, nall_zero s, fun h => absurd h (by omega)⟩
    case round =>
      obtain ⟨k, hk, rfl, HA, HB⟩ := hrel
      by_cases hlt : k < s.size
      · have HS := Lib.hid (nall_succ s k hlt)
        rw [HA.out, Bool.true_and] at HS
        by_cases cl : 97 ≤ (s[k].toNat : Int) ∧ (s[k].toNat : Int) ≤ 122
        · obtain ⟨c1, c2⟩ := cl
          rw [nchB_low c1 c2] at HS
          have HB' : Hid (0 < k + 1 → digB (s[0].toNat : Int) = false ∧ (s[0].toNat : Int) ≠ 95) := by
            intro _
            by_cases hk0 : k = 0
            · subst hk0; exact ⟨digB_hi (by omega), by omega⟩
            · exact HB.out (by omega)
          go_wp2
          go_round
          case rel => exact ⟨k + 1, by omega, by go_num, HS, HB'⟩
          case measure => simp [intOf]; omega
        · have e1 : (decide (97 ≤ (s[k].toNat : Int)) && decide ((s[k].toNat : Int) ≤ 122)) = false := by
            rw [← Bool.decide_and, decide_eq_false_iff_not]; exact cl
          by_cases hk0 : k = 0
          · subst hk0
            have HF := Lib.hid (nameB_head h1 (show lowB (s[0].toNat : Int) = false by simp only [lowB, decide_eq_false_iff_not]; exact cl))
            clear HS HB
            by_cases d1 : (97 : Int) ≤ (s[0].toNat : Int)
            · have d2 : decide ((s[0].toNat : Int) ≤ 122) = false := by simp; omega
              clear cl e1
              go_wp2
              go_ret
              exact ⟨ret_bool HF.out.symm, rfl⟩
            · clear cl e1
              go_wp2
              go_ret
              exact ⟨ret_bool HF.out.symm, rfl⟩
          · have HB' : Hid (0 < k + 1 → digB (s[0].toNat : Int) = false ∧ (s[0].toNat : Int) ≠ 95) := fun _ => HB.out (by omega)
            have k0 : ((k : Int) == 0) = false := by simp; omega
            by_cases c3 : (s[k].toNat : Int) = 95
            · rw [nchB_us c3] at HS
              have c3' : ((s[k].toNat : Int) != 95) = false := by rw [c3]; rfl
              have d1 : (s[k].toNat : Int) < 97 := by omega
              clear c3 cl e1
              go_wp2
              go_round
              case rel => exact ⟨k + 1, by omega, by go_num, HS, HB'⟩
              case measure => simp [intOf]; omega
            · have c3' : ((s[k].toNat : Int) != 95) = true := by simpa using c3
              by_cases hd : digB (s[k].toNat : Int) = true
              · have HN : nchB (s[k].toNat : Int) = true := by simp [nchB, hd]
                rw [HN] at HS
                have d1 : (s[k].toNat : Int) < 97 := by
                  have : 48 ≤ (s[k].toNat : Int) ∧ (s[k].toNat : Int) ≤ 57 := by simpa [digB] using hd
                  omega
                clear HN c3 cl e1
                go_wp2_with (go_at_call 52; refine (rdigit_any _ _).mono ?_; rintro e w' ⟨rfl, rfl⟩)
                go_round
                case rel => exact ⟨k + 1, by omega, by go_num, HS, HB'⟩
                case measure => simp [intOf]; omega
              · have hd : digB (s[k].toNat : Int) = false := by simpa using hd
                have HF := Lib.hid (nameB_all k hlt (nchB_no (by omega) c3 hd))
                clear HS HB HB' c3 e1
                by_cases d1 : (97 : Int) ≤ (s[k].toNat : Int)
                · have d2 : decide ((s[k].toNat : Int) ≤ 122) = false := by simp; omega
                  clear cl
                  go_wp2_with (go_at_call 52; refine (rdigit_any _ _).mono ?_; rintro e w' ⟨rfl, rfl⟩)
                  go_ret
                  exact ⟨ret_bool HF.out.symm, rfl⟩
                · clear cl
                  go_wp2_with (go_at_call 52; refine (rdigit_any _ _).mono ?_; rintro e w' ⟨rfl, rfl⟩)
                  go_ret
                  exact ⟨ret_bool HF.out.symm, rfl⟩
      · obtain rfl : k = s.size := by omega
        have HF := Lib.hid (nameB_yes h1 h16 (HB.out h1).1 (HB.out h1).2 HA.out)
        go_wp2
        go_ret
        exact ⟨ret_bool HF.out.symm, rfl⟩
  · rw [nameB_long (by rw [Array.length_toList]; show 16 < s.size; omega)]
    go_enter Tryd.func40, Tryd.ntmps40
    go_wp2
    go_ret
    exact ⟨rfl, rfl⟩
end Go.Proofs.YtgonghmihghhnaaDoor.Id
