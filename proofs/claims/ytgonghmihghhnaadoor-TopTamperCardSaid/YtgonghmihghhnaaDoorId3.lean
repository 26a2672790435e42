/- Codes: split, by the program and by the reference. -/
import Derived.Test.YtgonghmihghhnaaDoorId2
import Derived.Test.YtgonghmihghhnaaDoorIdC
import Derived.Deep.QuietTactic
import Derived.BigQuiet
import Derived.Handy
import Derived.Lib.Strings
namespace Go.Proofs.YtgonghmihghhnaaDoor.Id
open Go.RowKit

theorem ret3 {k1 k2 k3 : IntKind} {a b c a' b' c' : Int} (h1 : a = a') (h2 : b = b') (h3 : c = c') : Ending.returned (.tuple #[.int k1 a, .int k2 b, .int k3 c]) = .returned (.tuple #[.int k1 a', .int k2 b', .int k3 c']) := by rw [h1, h2, h3]

/-- a callee that leaves the world, met inside a region that draws: the first such region, and a later one -/
theorem qsame {P : Program} {f : FuncId} {args : Array Value} {w : World} {n : Nat} {v : Value}
    (h : ∀ W : World, Calls P f args W fun e w' => e = .returned v ∧ W = w') : Calls P f args (w.drewN n) fun e w'' => e = .returned v ∧ ∃ m, w'' = w.drewN m :=
  (h _).mono fun _ _ ⟨he, hm⟩ => ⟨he, n, hm.symm⟩
theorem qsame2 {P : Program} {f : FuncId} {args : Array Value} {w : World} {a n : Nat} {v : Value}
    (h : ∀ W : World, Calls P f args W fun e w' => e = .returned v ∧ W = w') : Calls P f args (w.drewN (a + n)) fun e w'' => e = .returned v ∧ ∃ m, w'' = w.drewN (a + m) :=
  (h _).mono fun _ _ ⟨he, hm⟩ => ⟨he, n, hm.symm⟩
theorem rLetter_7 (c0 c1 c2 c3 c4 c5 c6 c7 : UInt8) (w : World) : Calls Tryd.prog 62 #[.string ((⟨#[c0, c1, c2, c3, c4, c5, c6, c7]⟩ : ByteArray).extract 0 7)] w fun e w' => e = .returned (.int .u8 (65 + letM [c0, c1, c2, c3, c4, c5, c6])) ∧ w = w' := by
  have e : ((⟨#[c0, c1, c2, c3, c4, c5, c6, c7]⟩ : ByteArray).extract 0 7).data.toList = [c0, c1, c2, c3, c4, c5, c6] := by rw [Lib.extract_data]; rfl
  have h := rLetter_any ((⟨#[c0, c1, c2, c3, c4, c5, c6, c7]⟩ : ByteArray).extract 0 7) w (by rw [ByteArray.size_extract]; omega)
  rw [e] at h
  exact h
theorem Letter_7 (c0 c1 c2 c3 c4 c5 c6 c7 : UInt8) (w : World) : Calls Tryd.prog 55 #[.string ((⟨#[c0, c1, c2, c3, c4, c5, c6, c7]⟩ : ByteArray).extract 0 7)] w fun e w' => e = .returned (.int .u8 (65 + letM [c0, c1, c2, c3, c4, c5, c6])) ∧ w = w' := by
  have e : ((⟨#[c0, c1, c2, c3, c4, c5, c6, c7]⟩ : ByteArray).extract 0 7).data.toList = [c0, c1, c2, c3, c4, c5, c6] := by rw [Lib.extract_data]; rfl
  have h := Letter_any ((⟨#[c0, c1, c2, c3, c4, c5, c6, c7]⟩ : ByteArray).extract 0 7) w (by rw [ByteArray.size_extract]; omega)
  rw [e] at h
  exact h

set_option maxHeartbeats 2000000 in
set_option maxRecDepth 100000 in
theorem rSplit_8 (c0 c1 c2 c3 c4 c5 c6 c7 : UInt8) (w : World) :
    Calls Tryd.prog 51 #[.string ⟨#[c0, c1, c2, c3, c4, c5, c6, c7]⟩] w fun e w' => e = .returned (.tuple #[.int .u8 (splitK [c0, c1, c2, c3, c4, c5, c6, c7]), .int .i64 (splitN [c0, c1, c2, c3, c4, c5, c6, c7]), .int .i64 (splitE [c0, c1, c2, c3, c4, c5, c6, c7])]) ∧ Below w.heap.size w w' := by
  have hc := (⟨by have := c1.toNat_lt; omega, by have := c2.toNat_lt; omega, by have := c3.toNat_lt; omega, by have := c4.toNat_lt; omega, by have := c5.toNat_lt; omega, by have := c6.toNat_lt; omega⟩ : (c1.toNat : Int) < 256 ∧ (c2.toNat : Int) < 256 ∧ (c3.toNat : Int) < 256 ∧ (c4.toNat : Int) < 256 ∧ (c5.toNat : Int) < 256 ∧ (c6.toNat : Int) < 256)
  obtain ⟨hc1, hc2, hc3, hc4, hc5, hc6⟩ := hc
  have g0 : ∀ h, (⟨#[c0, c1, c2, c3, c4, c5, c6, c7]⟩ : ByteArray)[0]'h = c0 := fun _ => rfl
  have g1 : ∀ h, (⟨#[c0, c1, c2, c3, c4, c5, c6, c7]⟩ : ByteArray)[1]'h = c1 := fun _ => rfl
  have g2 : ∀ h, (⟨#[c0, c1, c2, c3, c4, c5, c6, c7]⟩ : ByteArray)[2]'h = c2 := fun _ => rfl
  have g3 : ∀ h, (⟨#[c0, c1, c2, c3, c4, c5, c6, c7]⟩ : ByteArray)[3]'h = c3 := fun _ => rfl
  have g4 : ∀ h, (⟨#[c0, c1, c2, c3, c4, c5, c6, c7]⟩ : ByteArray)[4]'h = c4 := fun _ => rfl
  have g5 : ∀ h, (⟨#[c0, c1, c2, c3, c4, c5, c6, c7]⟩ : ByteArray)[5]'h = c5 := fun _ => rfl
  have g6 : ∀ h, (⟨#[c0, c1, c2, c3, c4, c5, c6, c7]⟩ : ByteArray)[6]'h = c6 := fun _ => rfl
  have g7 : ∀ h, (⟨#[c0, c1, c2, c3, c4, c5, c6, c7]⟩ : ByteArray)[7]'h = c7 := fun _ => rfl
  go_enter Tryd.func51, Tryd.ntmps51
  go_wp2_with (first | (go_at_call 61; refine (rcapital_any _ _).mono ?_; rintro e w' ⟨rfl, rfl⟩))
  any_goals (refine wp_loop_rounds 7 ?_; repeat any_goals (rw [rounds_succ]; go_wp2_with (first | (go_at_call 52; refine (rdigit_any _ _).mono ?_; rintro e w' ⟨rfl, rfl⟩))))
  any_goals go_quiet ((go_at_call 62; exact qsame (rLetter_7 _ _ _ _ _ _ _ _)))
  all_goals first
    | (have e := Lib.hid (spl_10 c0 c1 c2 c3 c4 c5 c6 c7 ‹_›); go_ret3; exact ⟨ret3 (splitK_no e.out (by decide)).symm (splitN_no e.out (by decide)).symm e.out.symm, Below.refl _ _⟩)
    | (have e := Lib.hid (spl_51 c0 c1 c2 c3 c4 c5 c6 c7 ‹_› ‹_›); go_ret3; exact ⟨ret3 (splitK_no e.out (by decide)).symm (splitN_no e.out (by decide)).symm e.out.symm, Below.refl _ _⟩)
    | (have e := Lib.hid (spl_52 c0 c1 c2 c3 c4 c5 c6 c7 ‹_› ‹_› ‹_›); go_ret3; exact ⟨ret3 (splitK_no e.out (by decide)).symm (splitN_no e.out (by decide)).symm e.out.symm, Below.refl _ _⟩)
    | (have e := Lib.hid (spl_53 c0 c1 c2 c3 c4 c5 c6 c7 ‹_› ‹_› ‹_› ‹_›); go_ret3; exact ⟨ret3 (splitK_no e.out (by decide)).symm (splitN_no e.out (by decide)).symm e.out.symm, Below.refl _ _⟩)
    | (have e := Lib.hid (spl_54 c0 c1 c2 c3 c4 c5 c6 c7 ‹_› ‹_› ‹_› ‹_› ‹_›); go_ret3; exact ⟨ret3 (splitK_no e.out (by decide)).symm (splitN_no e.out (by decide)).symm e.out.symm, Below.refl _ _⟩)
    | (have e := Lib.hid (spl_55 c0 c1 c2 c3 c4 c5 c6 c7 ‹_› ‹_› ‹_› ‹_› ‹_› ‹_›); go_ret3; exact ⟨ret3 (splitK_no e.out (by decide)).symm (splitN_no e.out (by decide)).symm e.out.symm, Below.refl _ _⟩)
    | (have e := Lib.hid (spl_56 c0 c1 c2 c3 c4 c5 c6 c7 ‹_› ‹_› ‹_› ‹_› ‹_› ‹_› ‹_›); go_ret3; exact ⟨ret3 (splitK_no e.out (by decide)).symm (splitN_no e.out (by decide)).symm e.out.symm, Below.refl _ _⟩)
    | skip
  go_wp2
  · have e := Lib.hid (spl_16 c0 c1 c2 c3 c4 c5 c6 c7 ‹_› ‹_› ‹_› ‹_› ‹_› ‹_› ‹_› ‹_›)
    go_ret3
    exact ⟨ret3 (splitK_no e.out (by decide)).symm (splitN_no e.out (by decide)).symm e.out.symm, ⟨rfl, rfl, rfl, Nat.le_refl _, fun _ _ => rfl⟩⟩
  · have e := Lib.hid (spl_0 c0 c1 c2 c3 c4 c5 c6 c7 ‹_› ‹_› ‹_› ‹_› ‹_› ‹_› ‹_› ‹_›)
    have f := Lib.hid (spl_num c1 c2 c3 c4 c5 c6 ‹_› ‹_› ‹_› ‹_› ‹_› ‹_›)
    go_ret3
    exact ⟨ret3 (splitK_yes e.out).symm (f.out.trans (splitN_yes e.out).symm) e.out.symm, ⟨rfl, rfl, rfl, Nat.le_refl _, fun _ _ => rfl⟩⟩

set_option maxHeartbeats 1000000 in
set_option maxRecDepth 100000 in
theorem rSplit_any (s : ByteArray) (w : World) (hs : s.size ≤ 140737488355328) :
    Calls Tryd.prog 51 #[.string s] w fun e w' => e = .returned (.tuple #[.int .u8 (splitK s.data.toList), .int .i64 (splitN s.data.toList), .int .i64 (splitE s.data.toList)]) ∧ Below w.heap.size w w' := by
  by_cases h8 : s.size = 8
  · obtain ⟨c0, c1, c2, c3, c4, c5, c6, c7, rfl⟩ := eight h8
    exact rSplit_8 c0 c1 c2 c3 c4 c5 c6 c7 w
  · have e1 := Lib.hid (splitE_short h8)
    have h8' : ((s.size : Int) != 8) = true := by simp; omega
    have h8'' : (s.size != 8) = true := by simp; omega
    go_enter Tryd.func51, Tryd.ntmps51
    go_wp2
    go_ret3
    exact ⟨ret3 (by simp [splitK, e1.out]) (by simp [splitN, e1.out]) e1.out.symm, Below.refl _ _⟩
end Go.Proofs.YtgonghmihghhnaaDoor.Id
