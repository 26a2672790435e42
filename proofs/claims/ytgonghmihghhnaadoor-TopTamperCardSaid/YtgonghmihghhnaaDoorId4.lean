/- Codes: split, by the program. -/
import Derived.Test.YtgonghmihghhnaaDoorId3
import Derived.Laws.EntriesVeiled
import Derived.Test.YtgonghmihghhnaaDoorShelf
import Derived.Lib.AtoiErrMem
namespace Go.Proofs.YtgonghmihghhnaaDoor.Id
open Go.RowKit

theorem form_any (w : World) : Calls Tryd.prog 54 #[] w fun e w' => ∃ b, e = .returned (.slice (some ⟨b, 0, none⟩) 2 2) ∧ b < w'.heap.size ∧ Below w.heap.size w w' ∧
    (w'.cell? ⟨b, 0, none⟩ = some (.int .i64 0) ∧ w'.cell? ⟨b, 1, none⟩ = some (.int .i64 1) ∧ w'.cell? ⟨b, 2, none⟩ = some (.func (Fn.func 63) #[] #[]) ∧ w'.cell? ⟨b, 3, none⟩ = some (.int .i64 10)) ∧
    (w'.cell? ⟨b, 4, none⟩ = some (.int .i64 1) ∧ w'.cell? ⟨b, 5, none⟩ = some (.int .i64 7) ∧ w'.cell? ⟨b, 6, none⟩ = some (.func (Fn.func 53) #[] #[]) ∧ w'.cell? ⟨b, 7, none⟩ = some (.int .i64 5)) := by
  have hb := Below.refl w.heap.size w
  go_enter Tryd.func54, Tryd.ntmps54
  go_wp2
  go_ret
  refine ⟨w.heap.size, rfl, by simp, hb.alloc (Nat.le_refl _) _, ⟨?_, ?_, ?_, ?_⟩, ⟨?_, ?_, ?_, ?_⟩⟩ <;> (simp only [World.cell?, heap_alloc_new]; rfl)

set_option maxHeartbeats 2000000 in
set_option maxRecDepth 100000 in
theorem Split_8 (c0 c1 c2 c3 c4 c5 c6 c7 : UInt8) (w : World) :
    Calls Tryd.prog 46 #[.string ⟨#[c0, c1, c2, c3, c4, c5, c6, c7]⟩] w fun e w' => e = .returned (.tuple #[.int .u8 (splitK [c0, c1, c2, c3, c4, c5, c6, c7]), .int .i64 (splitN [c0, c1, c2, c3, c4, c5, c6, c7]), .int .i64 (splitE [c0, c1, c2, c3, c4, c5, c6, c7])]) ∧ Below w.heap.size w w' := by
  have hc := (⟨by have := c1.toNat_lt; omega, by have := c2.toNat_lt; omega, by have := c3.toNat_lt; omega, by have := c4.toNat_lt; omega, by have := c5.toNat_lt; omega, by have := c6.toNat_lt; omega⟩ : (c1.toNat : Int) < 256 ∧ (c2.toNat : Int) < 256 ∧ (c3.toNat : Int) < 256 ∧ (c4.toNat : Int) < 256 ∧ (c5.toNat : Int) < 256 ∧ (c6.toNat : Int) < 256)
  obtain ⟨hc1, hc2, hc3, hc4, hc5, hc6⟩ := hc
  have g0 : ∀ h, (⟨#[c0, c1, c2, c3, c4, c5, c6, c7]⟩ : ByteArray)[0]'h = c0 := fun _ => rfl
  have g1 : ∀ h, (⟨#[c0, c1, c2, c3, c4, c5, c6, c7]⟩ : ByteArray)[1]'h = c1 := fun _ => rfl
  have g2 : ∀ h, (⟨#[c0, c1, c2, c3, c4, c5, c6, c7]⟩ : ByteArray)[2]'h = c2 := fun _ => rfl
  have g3 : ∀ h, (⟨#[c0, c1, c2, c3, c4, c5, c6, c7]⟩ : ByteArray)[3]'h = c3 := fun _ => rfl
  have g4 : ∀ h, (⟨#[c0, c1, c2, c3, c4, c5, c6, c7]⟩ : ByteArray)[4]'h = c4 := fun _ => rfl
  have g5 : ∀ h, (⟨#[c0, c1, c2, c3, c4, c5, c6, c7]⟩ : ByteArray)[5]'h = c5 := fun _ => rfl
  have g6 : ∀ h, (⟨#[c0, c1, c2, c3, c4, c5, c6, c7]⟩ : ByteArray)[6]'h = c6 := fun _ => rfl
  have g7 : ∀ h, (⟨#[c0, c1, c2, c3, c4, c5, c6, c7]⟩ : ByteArray)[7]'h = c7 := fun _ => rfl
  go_enter Tryd.func46, Tryd.ntmps46
  go_wp2_with (go_at_call 54; refine (form_any _).mono ?_; rintro e W ⟨b, rfl, hbW, HB, ⟨k0, k1, k2, k3⟩, ⟨k4, k5, k6, k7⟩⟩)
  repeat any_goals (first
    | (rw [rounds_succ]; go_wp2)
    | (refine wp_loop_rounds 8 ?_; rw [rounds_succ]; go_wp2)
    | (go_quiet ((first | (go_at_call 63; first | exact qsame (fun W => capital_any _ W) | exact qsame2 (fun W => capital_any _ W)) | (go_at_call 53; first | exact qsame (fun W => digit_any _ W) | exact qsame2 (fun W => digit_any _ W)) | (go_at_call 55; first | exact qsame (fun W => Letter_7 _ _ _ _ _ _ _ _ W) | exact qsame2 (fun W => Letter_7 _ _ _ _ _ _ _ _ W)))); go_wp2_with fail))
  all_goals first
    | (have e := Lib.hid (spl_10 c0 c1 c2 c3 c4 c5 c6 c7 ‹_›); go_ret3; exact ⟨ret3 (splitK_no e.out (by decide)).symm (splitN_no e.out (by decide)).symm e.out.symm, (by repeat (first | exact HB | apply bA | apply bD | apply bd))⟩)
    | (have e := Lib.hid (spl_51 c0 c1 c2 c3 c4 c5 c6 c7 ‹_› ‹_›); go_ret3; exact ⟨ret3 (splitK_no e.out (by decide)).symm (splitN_no e.out (by decide)).symm e.out.symm, (by repeat (first | exact HB | apply bA | apply bD | apply bd))⟩)
    | (have e := Lib.hid (spl_52 c0 c1 c2 c3 c4 c5 c6 c7 ‹_› ‹_› ‹_›); go_ret3; exact ⟨ret3 (splitK_no e.out (by decide)).symm (splitN_no e.out (by decide)).symm e.out.symm, (by repeat (first | exact HB | apply bA | apply bD | apply bd))⟩)
    | (have e := Lib.hid (spl_53 c0 c1 c2 c3 c4 c5 c6 c7 ‹_› ‹_› ‹_› ‹_›); go_ret3; exact ⟨ret3 (splitK_no e.out (by decide)).symm (splitN_no e.out (by decide)).symm e.out.symm, (by repeat (first | exact HB | apply bA | apply bD | apply bd))⟩)
    | (have e := Lib.hid (spl_54 c0 c1 c2 c3 c4 c5 c6 c7 ‹_› ‹_› ‹_› ‹_› ‹_›); go_ret3; exact ⟨ret3 (splitK_no e.out (by decide)).symm (splitN_no e.out (by decide)).symm e.out.symm, (by repeat (first | exact HB | apply bA | apply bD | apply bd))⟩)
    | (have e := Lib.hid (spl_55 c0 c1 c2 c3 c4 c5 c6 c7 ‹_› ‹_› ‹_› ‹_› ‹_› ‹_›); go_ret3; exact ⟨ret3 (splitK_no e.out (by decide)).symm (splitN_no e.out (by decide)).symm e.out.symm, (by repeat (first | exact HB | apply bA | apply bD | apply bd))⟩)
    | (have e := Lib.hid (spl_56 c0 c1 c2 c3 c4 c5 c6 c7 ‹_› ‹_› ‹_› ‹_› ‹_› ‹_› ‹_›); go_ret3; exact ⟨ret3 (splitK_no e.out (by decide)).symm (splitN_no e.out (by decide)).symm e.out.symm, (by repeat (first | exact HB | apply bA | apply bD | apply bd))⟩)
    | (have e := Lib.hid (spl_16 c0 c1 c2 c3 c4 c5 c6 c7 ‹_› ‹_› ‹_› ‹_› ‹_› ‹_› ‹_› (by rw [bne_comm]; assumption)); go_ret3; exact ⟨ret3 (splitK_no e.out (by decide)).symm (splitN_no e.out (by decide)).symm e.out.symm, (by repeat (first | exact HB | apply bA | apply bD | apply bd))⟩)
    | skip
  have e := Lib.hid (spl_0 c0 c1 c2 c3 c4 c5 c6 c7 ‹_› ‹_› ‹_› ‹_› ‹_› ‹_› ‹_› (by rw [bne_comm]; assumption))
  have f := Lib.hid (atoi6 c1 c2 c3 c4 c5 c6 ‹_› ‹_› ‹_› ‹_› ‹_› ‹_›)
  have hx : ((⟨#[c0, c1, c2, c3, c4, c5, c6, c7]⟩ : ByteArray).extract 1 7).data.toList = [c1, c2, c3, c4, c5, c6] := by rw [Lib.extract_data]; rfl
  refine (Tryd.strconv_Atoi _ (numL [c1, c2, c3, c4, c5, c6]) (by rw [ByteArray.size_extract]; omega) (by rw [hx]; exact f.out) _).mono ?_
  rintro e1 w1 ⟨rfl, t, rfl⟩
  go_wp2
  go_ret3
  refine ⟨ret3 (splitK_yes e.out).symm (splitN_yes e.out).symm e.out.symm, bT ?_ (Lib.bytesWorld_below _ _ _)⟩
  repeat (first | exact HB | apply bA | apply bD | apply bd)

theorem Split_any (s : ByteArray) (w : World) (hs : s.size ≤ 140737488355328) :
    Calls Tryd.prog 46 #[.string s] w fun e w' => e = .returned (.tuple #[.int .u8 (splitK s.data.toList), .int .i64 (splitN s.data.toList), .int .i64 (splitE s.data.toList)]) ∧ Below w.heap.size w w' := by
  by_cases h8 : s.size = 8
  · obtain ⟨c0, c1, c2, c3, c4, c5, c6, c7, rfl⟩ := eight h8
    exact Split_8 c0 c1 c2 c3 c4 c5 c6 c7 w
  · have e1 := Lib.hid (splitE_short h8)
    have h8' : ((s.size : Int) != 8) = true := by simp; omega
    have h8'' : (s.size != 8) = true := by simp; omega
    go_enter Tryd.func46, Tryd.ntmps46
    go_wp2
    go_ret3
    exact ⟨ret3 (by simp [splitK, e1.out]) (by simp [splitN, e1.out]) e1.out.symm, Below.refl _ _⟩
end Go.Proofs.YtgonghmihghhnaaDoor.Id
