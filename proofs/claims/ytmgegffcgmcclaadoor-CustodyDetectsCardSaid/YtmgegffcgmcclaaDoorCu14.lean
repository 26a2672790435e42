/- custody: awake, walked. -/
import Derived.Test.YtmgegffcgmcclaaDoorCu13
namespace Go.Proofs.YtmgegffcgmcclaaDoor.Cu
open Go.RowKit Go.Proofs.YtmgegffcgmcclaaDoor.Id Go.Maps

theorem CLive.add_xP {w W : World} {b : Nat} {ls : List Lk} (h : CLive w W b ls) (htab : Tab W) : Calls Tryd.prog 14 #[.pointer (some ⟨b, 0, none⟩), .string ⟨#[80, 48, 48, 48, 48, 48, 49, 68]⟩, .string ⟨#[]⟩, .string ⟨#[115, 112, 114, 117, 99, 101]⟩, .int .i64 10, .int .i64 5000] W fun e w' => e = .returned (.tuple #[.int .u64 (chkH ls xP), .int .i64 (canE ls xP)]) ∧ CLive w w' b (addK ls xP) := h.add xP rfl htab (by decide) (by decide) (by decide)
theorem CLive.add_xL {w W : World} {b : Nat} {ls : List Lk} (h : CLive w W b ls) (htab : Tab W) : Calls Tryd.prog 14 #[.pointer (some ⟨b, 0, none⟩), .string ⟨#[76, 48, 48, 48, 48, 48, 49, 87]⟩, .string ⟨#[80, 48, 48, 48, 48, 48, 49, 68]⟩, .string ⟨#[115, 112, 114, 117, 99, 101]⟩, .int .i64 20, .int .i64 3000] W fun e w' => e = .returned (.tuple #[.int .u64 (chkH ls xL), .int .i64 (canE ls xL)]) ∧ CLive w w' b (addK ls xL) := h.add xL rfl htab (by decide) (by decide) (by decide)
theorem CLive.add_xG {w W : World} {b : Nat} {ls : List Lk} (h : CLive w W b ls) (htab : Tab W) : Calls Tryd.prog 14 #[.pointer (some ⟨b, 0, none⟩), .string ⟨#[76, 48, 48, 48, 48, 48, 50, 71]⟩, .string ⟨#[80, 48, 48, 48, 48, 48, 49, 68]⟩, .string ⟨#[115, 112, 114, 117, 99, 101]⟩, .int .i64 20, .int .i64 2001] W fun e w' => e = .returned (.tuple #[.int .u64 (chkH ls xG), .int .i64 (canE ls xG)]) ∧ CLive w w' b (addK ls xG) := h.add xG rfl htab (by decide) (by decide) (by decide)
theorem CLive.add_xH {w W : World} {b : Nat} {ls : List Lk} (h : CLive w W b ls) (htab : Tab W) : Calls Tryd.prog 14 #[.pointer (some ⟨b, 0, none⟩), .string ⟨#[76, 48, 48, 48, 48, 48, 50, 71]⟩, .string ⟨#[80, 48, 48, 48, 48, 48, 49, 68]⟩, .string ⟨#[115, 112, 114, 117, 99, 101]⟩, .int .i64 9, .int .i64 5] W fun e w' => e = .returned (.tuple #[.int .u64 (chkH ls xH), .int .i64 (canE ls xH)]) ∧ CLive w w' b (addK ls xH) := h.add xH rfl htab (by decide) (by decide) (by decide)
theorem CLive.add_xI {w W : World} {b : Nat} {ls : List Lk} (h : CLive w W b ls) (htab : Tab W) : Calls Tryd.prog 14 #[.pointer (some ⟨b, 0, none⟩), .string ⟨#[76, 48, 48, 48, 48, 48, 50, 71]⟩, .string ⟨#[80, 48, 48, 48, 48, 48, 49, 68]⟩, .string ⟨#[111, 97, 107]⟩, .int .i64 20, .int .i64 5] W fun e w' => e = .returned (.tuple #[.int .u64 (chkH ls xI), .int .i64 (canE ls xI)]) ∧ CLive w w' b (addK ls xI) := h.add xI rfl htab (by decide) (by decide) (by decide)
theorem CLive.add_xJ {w W : World} {b : Nat} {ls : List Lk} (h : CLive w W b ls) (htab : Tab W) : Calls Tryd.prog 14 #[.pointer (some ⟨b, 0, none⟩), .string ⟨#[76, 48, 48, 48, 48, 48, 50, 71]⟩, .string ⟨#[]⟩, .string ⟨#[115, 112, 114, 117, 99, 101]⟩, .int .i64 20, .int .i64 5] W fun e w' => e = .returned (.tuple #[.int .u64 (chkH ls xJ), .int .i64 (canE ls xJ)]) ∧ CLive w w' b (addK ls xJ) := h.add xJ rfl htab (by decide) (by decide) (by decide)
set_option maxHeartbeats 8000000 in
set_option maxRecDepth 100000 in
set_option linter.all false in
theorem awake_any (w : World) (htab : Tab w) : Calls Tryd.prog 12 #[] w fun e w' => e = .returned (.bool true) ∧ Below w.heap.size w w' := by
  have HT := Lib.hid htab
  clear htab
  go_enter Tryd.func12, Tryd.ntmps12
  go_wp2_with fail
  refine (New_live w).mono ?_
  rintro e w1 ⟨b, rfl, hL⟩
  have L1 := Lib.hid hL
  obtain ⟨h, eh⟩ : ∃ h, Hid (afterH [] xP = h) := ⟨_, rfl⟩
  obtain ⟨k, ek⟩ : ∃ k, Hid (afterH (lA h) xL = k) := ⟨_, rfl⟩
  have hr1 : Hid (0 ≤ h ∧ h < 18446744073709551616) := Lib.hid (by rw [← eh.out]; exact hash_range _ _)
  clear hL
  go_wp2_with fail
  refine (L1.out.add_xP (HT.out.on L1.out.wb)).mono ?_
  rintro e w2 ⟨rfl, hL⟩
  rw [add1 eh.out] at hL
  rw [chkyes can1 eh.out, can1]
  have L2 := Lib.hid hL
  clear hL
  go_wp2_with fail
  refine (L2.out.add_xL (HT.out.on L2.out.wb)).mono ?_
  rintro e w3 ⟨rfl, hL⟩
  rw [add2 ek.out] at hL
  rw [chkyes (can2 h) ek.out, can2]
  have L3 := Lib.hid hL
  clear hL
  go_wp2_with fail
  refine (L3.out.add_xG (HT.out.on L3.out.wb)).mono ?_
  rintro e w4 ⟨rfl, hL⟩
  rw [addno (can3 h k) (by decide)] at hL
  rw [chkno (can3 h k) (by decide), can3]
  have L4 := Lib.hid hL
  clear hL
  go_wp2_with fail
  refine (L4.out.add_xH (HT.out.on L4.out.wb)).mono ?_
  rintro e w5 ⟨rfl, hL⟩
  rw [addno (can4 h k) (by decide)] at hL
  rw [chkno (can4 h k) (by decide), can4]
  have L5 := Lib.hid hL
  clear hL
  go_wp2_with fail
  refine (L5.out.add_xI (HT.out.on L5.out.wb)).mono ?_
  rintro e w6 ⟨rfl, hL⟩
  rw [addno (can5 h k) (by decide)] at hL
  rw [chkno (can5 h k) (by decide), can5]
  have L6 := Lib.hid hL
  clear hL
  go_wp2_with fail
  refine (L6.out.add_xJ (HT.out.on L6.out.wb)).mono ?_
  rintro e w7 ⟨rfl, hL⟩
  rw [addno (can6 h k) (by decide)] at hL
  rw [chkno (can6 h k) (by decide), can6]
  have L7 := Lib.hid hL
  clear hL
  go_wp2_with fail
  refine (L7.out.trace ⟨#[76, 48, 48, 48, 48, 48, 49, 87]⟩ (by decide)).mono ?_
  rintro e w8 ⟨v8, rfl, ho, b8⟩
  rw [show trE (lB h k) ⟨#[76, 48, 48, 48, 48, 48, 49, 87]⟩ = 0 from if_neg (by rw [show atI (lB h k) ⟨#[76, 48, 48, 48, 48, 48, 49, 87]⟩ = 1 from atB h k]; omega)]
  rw [show traceL (lB h k) ⟨#[76, 48, 48, 48, 48, 48, 49, 87]⟩ = [withH xL k, withH xP h] from trB h k] at ho
  have L8 := Lib.hid (L7.out.below b8)
  have HO8 := Lib.hid ho
  obtain ⟨A8, c8, rfl⟩ := own_shape ho
  obtain ⟨g8, rfl⟩ := row_shape ho (by simp)
  clear ho b8
  go_wp2_with fail
  refine (L8.out.root ⟨#[76, 48, 48, 48, 48, 48, 49, 87]⟩ (by decide)).mono ?_
  rintro e w9 ⟨rfl, b9⟩
  rw [show rootS (lB h k) ⟨#[76, 48, 48, 48, 48, 48, 49, 87]⟩ = ⟨#[80, 48, 48, 48, 48, 48, 49, 68]⟩ from rootB h k, show atI (lB h k) ⟨#[76, 48, 48, 48, 48, 48, 49, 87]⟩ = 1 from atB h k]
  have L9 := Lib.hid (L8.out.below b9)
  have HO9 := Lib.hid (own_below HO8.out b9)
  clear b9
  go_wp2_with fail
  refine (L9.out.links).mono ?_
  rintro e w10 ⟨v10, rfl, hf, b10⟩
  have L10 := Lib.hid (L9.out.below b10)
  have HO10 := Lib.hid (own_below HO9.out b10)
  have HF := Lib.hid hf
  clear hf b10
  go_wp2_with fail
  refine (Verify_any v10 (lB h k) w10 HF.out.slice (HT.out.on L10.out.wb) (fun i x hx => by
    match i, hx with
    | 0, hx => obtain rfl : withH xP h = x := by simpa [lB] using hx
               exact ⟨show bP1.size ≤ 1000 by decide, show emptyB.size ≤ 1000 by decide, show bSp.size ≤ 1000 by decide⟩
    | 1, hx => obtain rfl : withH xL k = x := by simpa [lB] using hx
               exact ⟨show bL1.size ≤ 1000 by decide, show bP1.size ≤ 1000 by decide, show bSp.size ≤ 1000 by decide⟩
    | i + 2, hx => simp [lB] at hx)).mono ?_
  rintro e w11 ⟨rfl, b11⟩
  rw [verB eh.out ek.out]
  have L11 := Lib.hid (L10.out.below b11)
  have HO11 := own_below HO10.out b11
  have t0 : w11.cell? ⟨g8, 0, none⟩ = some (.string ⟨#[76, 48, 48, 48, 48, 48, 49, 87]⟩) := HO11.cellAt 0 (by simp)
  have t1 : w11.cell? ⟨g8, 6, none⟩ = some (.string ⟨#[80, 48, 48, 48, 48, 48, 49, 68]⟩) := HO11.cellAt 6 (by simp)
  have hc8 : 2 ≤ c8 := by obtain ⟨_, _, _, hc, _⟩ := slice_addr (SliceIs.of_own HO11) (by simp); exact hc
  have hz : Hid (h = chainH 0 (⟨#[80, 48, 48, 48, 48, 48, 49, 68, 32, 32, 115, 112, 114, 117, 99, 101, 32, 49, 48, 32, 53, 48, 48, 48]⟩ : ByteArray).data.toList) := Lib.hid (eh.out.symm.trans aft1)
  have hy : Hid (k = chainH h (⟨#[76, 48, 48, 48, 48, 48, 49, 87, 32, 80, 48, 48, 48, 48, 48, 49, 68, 32, 115, 112, 114, 117, 99, 101, 32, 50, 48, 32, 51, 48, 48, 48]⟩ : ByteArray).data.toList) := Lib.hid (ek.out.symm.trans (aft2 h))
  clear HO11 b11
  go_wp2_with fail
  refine (Chain_any 0 _ _ (by decide) (by decide) (by decide)).mono ?_
  rintro e w12 ⟨rfl, rfl⟩
  rw [← hz.out]
  go_wp2_with fail
  refine (Chain_any h _ _ hr1.out.1 hr1.out.2 (by decide)).mono ?_
  rintro e w13 ⟨rfl, rfl⟩
  rw [← hy.out]
  go_wp2_with fail
  go_ret
  exact ⟨rfl, L11.out.wb⟩
end Go.Proofs.YtmgegffcgmcclaaDoor.Cu
