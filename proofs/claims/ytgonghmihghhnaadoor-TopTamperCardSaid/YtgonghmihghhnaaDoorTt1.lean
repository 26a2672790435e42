/- the laws through the layers: custodyAwake, walked. -/
import Derived.Test.YtgonghmihghhnaaDoorTt0
namespace Go.Proofs.YtgonghmihghhnaaDoor.Cu
open Go.RowKit Go.Proofs.YtgonghmihghhnaaDoor.Id Go.Maps

theorem below_set {n : Nat} {A W : World} {g j : Nat} {u : Value} (h : Below n A W) (hg : n ≤ g) (hs : n ≤ W.heap.size) : Below n A (W.setCell ⟨g, j, none⟩ u) :=
  h.trans ((Keeps.setCell (fun k => k = g) W (p := ⟨g, j, none⟩) rfl u).below (fun k e => by rw [e]; exact hg) hs)
theorem CLive.add_xP {w W : World} {b : Nat} {ls : List Lk} (h : CLive w W b ls) (htab : Tab W) : Calls Tryd.prog 13 #[.pointer (some ⟨b, 0, none⟩), .string ⟨#[80, 48, 48, 48, 48, 48, 49, 68]⟩, .string ⟨#[]⟩, .string ⟨#[112, 105, 110, 101]⟩, .int .i64 0, .int .i64 100] W fun e w' => e = .returned (.tuple #[.int .u64 (chkH ls xP), .int .i64 (canE ls xP)]) ∧ CLive w w' b (addK ls xP) := h.add xP rfl htab (by decide) (by decide) (by decide)
theorem CLive.add_xL {w W : World} {b : Nat} {ls : List Lk} (h : CLive w W b ls) (htab : Tab W) : Calls Tryd.prog 13 #[.pointer (some ⟨b, 0, none⟩), .string ⟨#[76, 48, 48, 48, 48, 48, 49, 87]⟩, .string ⟨#[80, 48, 48, 48, 48, 48, 49, 68]⟩, .string ⟨#[112, 105, 110, 101]⟩, .int .i64 5, .int .i64 80] W fun e w' => e = .returned (.tuple #[.int .u64 (chkH ls xL), .int .i64 (canE ls xL)]) ∧ CLive w w' b (addK ls xL) := h.add xL rfl htab (by decide) (by decide) (by decide)
theorem CLive.add_xB {w W : World} {b : Nat} {ls : List Lk} (h : CLive w W b ls) (htab : Tab W) : Calls Tryd.prog 13 #[.pointer (some ⟨b, 0, none⟩), .string ⟨#[66, 48, 48, 48, 48, 48, 49, 77]⟩, .string ⟨#[76, 48, 48, 48, 48, 48, 49, 87]⟩, .string ⟨#[112, 105, 110, 101]⟩, .int .i64 9, .int .i64 30] W fun e w' => e = .returned (.tuple #[.int .u64 (chkH ls xB), .int .i64 (canE ls xB)]) ∧ CLive w w' b (addK ls xB) := h.add xB rfl htab (by decide) (by decide) (by decide)
theorem CLive.add_xG {w W : World} {b : Nat} {ls : List Lk} (h : CLive w W b ls) (htab : Tab W) : Calls Tryd.prog 13 #[.pointer (some ⟨b, 0, none⟩), .string ⟨#[76, 48, 48, 48, 48, 48, 50, 71]⟩, .string ⟨#[80, 48, 48, 48, 48, 48, 49, 68]⟩, .string ⟨#[112, 105, 110, 101]⟩, .int .i64 9, .int .i64 21] W fun e w' => e = .returned (.tuple #[.int .u64 (chkH ls xG), .int .i64 (canE ls xG)]) ∧ CLive w w' b (addK ls xG) := h.add xG rfl htab (by decide) (by decide) (by decide)
set_option maxHeartbeats 8000000 in
set_option maxRecDepth 100000 in
set_option linter.all false in
theorem custodyAwake_any (w : World) (htab : Tab w) : Calls Tryd.prog 10 #[] w fun e w' => e = .returned (.bool true) ∧ Below w.heap.size w w' := by
  have HT := Lib.hid htab
  clear htab
  go_enter Tryd.func10, Tryd.ntmps10
  go_wp2_with fail
  refine (New_live w).mono ?_
  rintro e w1 ⟨b, rfl, hL⟩
  have L1 := Lib.hid hL
  obtain ⟨h, eh⟩ : ∃ h, Hid (afterH [] xP = h) := ⟨_, rfl⟩
  obtain ⟨k, ek⟩ : ∃ k, Hid (afterH (lA h) xL = k) := ⟨_, rfl⟩
  obtain ⟨m, em⟩ : ∃ m, Hid (afterH (lB h k) xB = m) := ⟨_, rfl⟩
  clear hL
  go_wp2_with fail
  refine (L1.out.add_xP (HT.out.on L1.out.wb)).mono ?_
  rintro e w2 ⟨rfl, hL⟩
  rw [add1 eh.out] at hL
  rw [chkyes can1 eh.out, can1]
  have L2 := Lib.hid hL
  clear hL
  go_wp2_with fail
  refine (L2.out.add_xL (HT.out.on L2.out.wb)).mono ?_
  rintro e w3 ⟨rfl, hL⟩
  rw [add2 ek.out] at hL
  rw [chkyes (can2 h) ek.out, can2]
  have L3 := Lib.hid hL
  clear hL
  go_wp2_with fail
  refine (L3.out.add_xB (HT.out.on L3.out.wb)).mono ?_
  rintro e w4 ⟨rfl, hL⟩
  rw [add3 em.out] at hL
  rw [chkyes (can3 h k) em.out, can3]
  have L4 := Lib.hid hL
  clear hL
  go_wp2_with fail
  refine (L4.out.add_xG (HT.out.on L4.out.wb)).mono ?_
  rintro e w5 ⟨rfl, hL⟩
  rw [addno (can4 h k m) (by decide)] at hL
  rw [chkno (can4 h k m) (by decide), can4]
  have L5 := Lib.hid hL
  clear hL
  go_wp2_with fail
  refine (L5.out.root ⟨#[66, 48, 48, 48, 48, 48, 49, 77]⟩ (by decide)).mono ?_
  rintro e w6 ⟨rfl, b6⟩
  rw [show rootS (lC h k m) ⟨#[66, 48, 48, 48, 48, 48, 49, 77]⟩ = ⟨#[80, 48, 48, 48, 48, 48, 49, 68]⟩ from rootC h k m, show decide (0 ≤ atI (lC h k m) ⟨#[66, 48, 48, 48, 48, 48, 49, 77]⟩) = true by rw [show atI (lC h k m) ⟨#[66, 48, 48, 48, 48, 48, 49, 77]⟩ = 2 from atC h k m]; rfl]
  have L6 := Lib.hid (L5.out.below b6)
  clear b6
  go_wp2_with fail
  refine (L6.out.links).mono ?_
  rintro e w7 ⟨v7, rfl, hf, b7⟩
  have L7 := Lib.hid (L6.out.below b7)
  have hw6 := L6.out.wb.size
  rcases hf.2.2 with ⟨h0, _⟩ | ⟨g, cs, rfl, hg, hgw, hcs⟩
  · exact absurd h0 (by simp [lC])
  have HF : Hid (SliceIs w7 6 (.slice (some ⟨g, 0, none⟩) 3 3) 3 (kcells (lC h k m))) := hf.slice
  have f9 : w7.frozen? ⟨g, 9, none⟩ = false := frozen_of_row _ _ _ _ _ hgw
  have d9 : w7.cell? ⟨g, 9, none⟩ = some (.int .i64 80) := (slice_cells2 HF.out (k := 1) (x := withH xL k) rfl rfl (Below.refl _ _)).2.2.2.1
  have HS : Hid (SliceIs (w7.setCell ⟨g, 9, none⟩ (.int .i64 79)) 6 (.slice (some ⟨g, 0, none⟩) 3 3) 3 (kcells (lD h k m))) := set_one (ls := lC h k m) rfl HF.out (k := 1) (r := 3) (x := withH xL k) (y := withH xM k) rfl (by decide) rfl
  have BS := Lib.hid (below_set (j := 9) (u := .int .i64 79) L7.out.wb (Nat.le_trans hw6 hg) L7.out.wb.size)
  clear hf b7 hcs hgw hw6 hg
  rw [show (lC h k m).length = 3 from rfl]
  go_upto_region 13 with fail
  clear f9 d9
  generalize w7.setCell ⟨g, 9, none⟩ (.int .i64 79) = w8 at HS BS ⊢
  have HVF := Lib.hid (Verify_any (.slice (some ⟨g, 0, none⟩) 3 3) (lD h k m) w8 HS.out (HT.out.on BS.out) (small_D h k m))
  rw [verD eh.out ek.out] at HVF
  go_wp2_with fail
  refine HVF.out.mono ?_
  rintro e w9 ⟨rfl, b9⟩
  have B9 := Lib.hid (bT BS.out b9)
  clear b9
  go_wp2_with fail
  go_ret
  exact ⟨rfl, B9.out⟩
end Go.Proofs.YtgonghmihghhnaaDoor.Cu
