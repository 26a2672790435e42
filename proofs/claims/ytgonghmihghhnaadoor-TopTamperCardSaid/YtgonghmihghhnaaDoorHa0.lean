/- the hash of a chain, by the program. -/
import Derived.Test.YtgonghmihghhnaaDoorCu0
import Derived.Test.YtgonghmihghhnaaDoorMem4
import Derived.Deep.RegionHeld3
import Derived.Laws.BitsAllLaws
namespace Go.Proofs.YtgonghmihghhnaaDoor.Cu
open Go.RowKit Go.Proofs.YtgonghmihghhnaaDoor.Id

theorem fnv_succ {l : List UInt8} {k : Nat} {c : UInt8} (h : Int) (hc : l[k]? = some c) : fnv h (l.take (k + 1)) = fstep (fnv h (l.take k)) c := by
  rw [List.take_add_one, hc]
  simp [fnv]
theorem u8w (c : UInt8) : IntKind.u64.wrap (c.toNat : Int) = c.toNat := by
  have := c.toNat_lt
  rw [IntKind.wrap_u64]
  omega
theorem and255 (z : Int) (h0 : 0 ≤ z) (h1 : z < 18446744073709551616) : bits .and .u64 z 255 = ((UInt8.ofNat (z.toNat % 256)).toNat : Int) := by
  rw [u64_and z 255 h0 h1 (by omega) (by omega), show (255 : Int).toNat = 2 ^ 8 - 1 from rfl, Nat.and_two_pow_sub_one_eq_mod, UInt8.toNat_ofNat', Nat.mod_mod]
theorem onward_any (h : Int) (s : ByteArray) (w : World) (hs : s.size ≤ 140737488355328) :
    Calls Tryd.prog 66 #[.int .u64 h, .string s] w fun e w' => e = .returned (.int .u64 (fnv h s.data.toList)) ∧ w = w' := by
  go_enter Tryd.func66, Tryd.ntmps66
  go_wp2
  go_loopw [0, 5] (fun a i wr => ∃ k : Nat, k ≤ s.size ∧ i = .int .i64 k ∧ a = .int .u64 (fnv h (s.data.toList.take k)) ∧ w = wr) (fun _ i _ => s.size - (intOf i).toNat)
  case atStart => exact ⟨0, Nat.zero_le _, rfl, rfl, rfl⟩
  case round =>
    obtain ⟨k, hk, rfl, rfl, rfl⟩ := hrel
    by_cases hlt : k < s.size
    · have hb : s.data.toList[k]? = some (s[k]'hlt) := by
        rw [Array.getElem?_toList]
        exact Array.getElem?_eq_getElem hlt
      have hn := Lib.hid (fnv_succ h hb)
      clear hb
      go_wp2
      go_roundw
      case rel =>
        refine ⟨k + 1, by omega, by go_num, ?_, trivial⟩
        rw [hn.out, u8w]
        rfl
      case measure => simp [intOf]; omega
    · obtain rfl : k = s.size := by omega
      have hall : s.data.toList.take s.size = s.data.toList := by
        rw [show s.size = s.data.toList.length from by rw [Array.length_toList]; rfl, List.take_length]
      rw [hall]
      go_wp2
      go_ret
      exact ⟨rfl, rfl⟩
set_option maxHeartbeats 1000000 in
theorem Chain_any (prev : Int) (s : ByteArray) (w : World) (h0 : 0 ≤ prev) (h1 : prev < 18446744073709551616) (hs : s.size ≤ 140737488355328) :
    Calls Tryd.prog 57 #[.int .u64 prev, .string s] w fun e w' => e = .returned (.int .u64 (chainH prev s.data.toList)) ∧ w = w' := by
  obtain ⟨c0, e0⟩ : ∃ c, UInt8.ofNat ((prev / 72057594037927936).toNat % 256) = c := ⟨_, rfl⟩
  obtain ⟨c1, e1⟩ : ∃ c, UInt8.ofNat ((prev / 281474976710656).toNat % 256) = c := ⟨_, rfl⟩
  obtain ⟨c2, e2⟩ : ∃ c, UInt8.ofNat ((prev / 1099511627776).toNat % 256) = c := ⟨_, rfl⟩
  obtain ⟨c3, e3⟩ : ∃ c, UInt8.ofNat ((prev / 4294967296).toNat % 256) = c := ⟨_, rfl⟩
  obtain ⟨c4, e4⟩ : ∃ c, UInt8.ofNat ((prev / 16777216).toNat % 256) = c := ⟨_, rfl⟩
  obtain ⟨c5, e5⟩ : ∃ c, UInt8.ofNat ((prev / 65536).toNat % 256) = c := ⟨_, rfl⟩
  obtain ⟨c6, e6⟩ : ∃ c, UInt8.ofNat ((prev / 256).toNat % 256) = c := ⟨_, rfl⟩
  obtain ⟨c7, e7⟩ : ∃ c, UInt8.ofNat ((prev / 1).toNat % 256) = c := ⟨_, rfl⟩
  have HB : Hid (be8 prev = [c0, c1, c2, c3, c4, c5, c6, c7]) := by
    unfold Hid be8
    simp only [List.map, e0, e1, e2, e3, e4, e5, e6, e7]
  have b0 := and255 (prev / 72057594037927936) (by omega) (by omega)
  have b1 := and255 (prev / 281474976710656) (by omega) (by omega)
  have b2 := and255 (prev / 1099511627776) (by omega) (by omega)
  have b3 := and255 (prev / 4294967296) (by omega) (by omega)
  have b4 := and255 (prev / 16777216) (by omega) (by omega)
  have b5 := and255 (prev / 65536) (by omega) (by omega)
  have b6 := and255 (prev / 256) (by omega) (by omega)
  have b7 := and255 (prev / 1) (by omega) (by omega)
  rw [e0] at b0; rw [e1] at b1; rw [e2] at b2; rw [e3] at b3; rw [e4] at b4; rw [e5] at b5; rw [e6] at b6; rw [e7, Int.ediv_one] at b7
  clear e0 e1 e2 e3 e4 e5 e6 e7
  go_enter Tryd.func57, Tryd.ntmps57
  go_wp2
  refine wp_loop_rounds 9 ?_
  repeat any_goals (rw [rounds_succ]; go_wp2_with fail)
  refine (onward_any _ s _ hs).mono ?_
  rintro e w1 ⟨rfl, rfl⟩
  go_wp2_with fail
  go_ret
  refine ⟨congrArg (fun z => Ending.returned (Value.int .u64 z)) (?_ : fnv _ s.data.toList = chainH prev s.data.toList), rfl⟩
  unfold chainH
  rw [HB.out]
  simp only [fnv, List.foldl, fstep]
end Go.Proofs.YtgonghmihghhnaaDoor.Cu
