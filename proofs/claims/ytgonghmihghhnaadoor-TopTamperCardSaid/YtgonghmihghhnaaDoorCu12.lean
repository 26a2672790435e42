/- custody: Verify, walked. -/
import Derived.Test.YtgonghmihghhnaaDoorCu11
namespace Go.Proofs.YtgonghmihghhnaaDoor.Cu
open Go.RowKit Go.Proofs.YtgonghmihghhnaaDoor.Id Go.Maps

/-- the first link that is not sound behind those before it, and why -/
def verF : List Lk → List Lk → Int × Int
  | _, [] => (-1, 0)
  | pre, x :: r => if canE pre x ≠ 0 then (pre.length, canE pre x) else if afterH pre x ≠ x.ha then (pre.length, 29) else verF (pre ++ [x]) r
theorem withH_same {ls : List Lk} {x : Lk} (h : afterH ls x = x.ha) : withH x (afterH ls x) = x := by rw [h]; rfl
theorem take_snoc {xs : List Lk} {k : Nat} {x : Lk} (h : xs[k]? = some x) : xs.take (k + 1) = xs.take k ++ [x] := by rw [List.take_add_one, h]; rfl
theorem drop_cons {xs : List Lk} {k : Nat} {x : Lk} (h : xs[k]? = some x) : xs.drop k = x :: xs.drop (k + 1) := by
  obtain ⟨hk, e⟩ := List.getElem?_eq_some_iff.1 h
  rw [List.drop_eq_getElem_cons hk, e]
set_option maxHeartbeats 8000000 in
set_option maxRecDepth 100000 in
set_option linter.all false in
theorem Verify_any (v : Value) (xs : List Lk) (w : World) (hs : SliceIs w 6 v xs.length (kcells xs)) (htab : Tab w) (hq : ∀ (i : Nat) (x : Lk), xs[i]? = some x → x.it.size ≤ 1000 ∧ x.pa.size ≤ 1000 ∧ x.sp.size ≤ 1000) :
    Calls Tryd.prog 16 #[v] w fun e w' => e = .returned (.tuple #[.int .i64 (verF [] xs).1, .int .i64 (verF [] xs).2]) ∧ Below w.heap.size w w' := by
  have HS := Lib.hid hs
  have HT := Lib.hid htab
  have HQ := Lib.hid hq
  obtain ⟨A, c, rfl⟩ := slice_shape hs
  have hl2 : xs.length ≤ 9223372036854775807 := hs.2.1
  have hll : ∀ W, (Builtin.len_ #[33] 3 #[.slice A xs.length c]).run Tryd.prog W = .ok (.int .i64 xs.length) W := fun W => by simp [Builtin.len_, run_underlying und_links]; rfl
  clear hs htab hq
  go_enter Tryd.func16, Tryd.ntmps16
  go_wp2_with fail
  refine (New_live w).mono ?_
  rintro e w1 ⟨b, rfl, hL⟩
  have HL : Hid (CLive w w1 b (xs.take 0)) := hL
  clear hL
  go_wp2_with fail
  go_loopw [12] (fun i wr => ∃ k : Nat, k ≤ xs.length ∧ i = .int .i64 k ∧ Hid (CLive w wr b (xs.take k)) ∧ Hid (verF [] xs = verF (xs.take k) (xs.drop k))) (fun i _ => xs.length - (intOf i).toNat)
  case atStart => exact ⟨0, Nat.zero_le _, rfl, HL, rfl⟩
  case round =>
    obtain ⟨k, hk, rfl, HK, HV⟩ := hrel
    by_cases hlt : k < xs.length
    · obtain ⟨x, hx⟩ : ∃ x, xs[k]? = some x := ⟨_, List.getElem?_eq_getElem hlt⟩
      obtain ⟨g, off, rfl, hc, hg, hcx⟩ := slice_addr HS.out (by omega)
      have d : ∀ j, j < 6 → wr.cell? ⟨g, off + (k * 6 + j), none⟩ = x.cells[j]? := fun j hj => by
        have h1 := kcells_at hx hj
        have h2 : x.cells[j]? = some (x.cells[j]'hj) := List.getElem?_eq_getElem hj
        rw [h2] at h1 ⊢
        exact (HK.out.wb.cell hg).trans (hcx _ _ h1)
      have d0 : wr.cell? ⟨g, off + k * 6, none⟩ = some (.string x.it) := d 0 (by omega)
      have d1 : wr.cell? ⟨g, off + k * 6 + 1, none⟩ = some (.string x.pa) := d 1 (by omega)
      have d2 : wr.cell? ⟨g, off + k * 6 + 2, none⟩ = some (.int .i64 x.t) := d 2 (by omega)
      have d3 : wr.cell? ⟨g, off + k * 6 + 3, none⟩ = some (.int .i64 x.vo) := d 3 (by omega)
      have d4 : wr.cell? ⟨g, off + k * 6 + 4, none⟩ = some (.string x.sp) := d 4 (by omega)
      have d5 : wr.cell? ⟨g, off + k * 6 + 5, none⟩ = some (.int .u64 x.ha) := d 5 (by omega)
      obtain ⟨q1, q2, q3⟩ := HQ.out k x hx
      have HX := Lib.hid hx
      have hpl : Hid ((xs.take k).length = k) := Lib.hid (by rw [List.length_take]; omega)
      have HVS : Hid (verF [] xs = if canE (xs.take k) x ≠ 0 then ((k : Int), canE (xs.take k) x) else if afterH (xs.take k) x ≠ x.ha then ((k : Int), 29) else verF (xs.take (k + 1)) (xs.drop (k + 1))) := by
        unfold Hid
        rw [HV.out, drop_cons hx, verF, hpl.out, take_snoc hx]
      have HTS := Lib.hid (take_snoc hx)
      have HCK := Lib.hid ((HK.out.below (bA (Below.refl _ wr) (.cells #[.string x.it, .string x.pa, .int .i64 x.t, .int .i64 x.vo, .string x.sp, .int .u64 x.ha] 36))).check x (HT.out.on (bA HK.out.wb _)) q1 q2 q3)
      have HK1 := Lib.hid (HK.out.below (bA (Below.refl _ wr) (.cells #[.string x.it, .string x.pa, .int .i64 x.t, .int .i64 x.vo, .string x.sp, .int .u64 x.ha] 36)))
      have hbx := Lib.hid (heap_alloc_new wr (.cells #[.string x.it, .string x.pa, .int .i64 x.t, .int .i64 x.vo, .string x.sp, .int .u64 x.ha] 36))
      unfold Lk.val at HCK
      generalize xs.take k = pre at HK HCK HK1 HVS HTS hpl
      clear d hx hcx HV
      go_wp2_with fail
      refine HCK.out.mono ?_
      rintro e w3 ⟨rfl, b3⟩
      have HK3 := Lib.hid (HK1.out.below b3)
      have X3 := Lib.hid ((b3.block wr.heap.size (by simp)).trans hbx.out)
      obtain ⟨z0, z1, z2, z3, z4, z5, z6⟩ := cells6 X3.out
      clear d0 d1 d2 d3 d4 d5 b3 z6
      by_cases e0 : canE pre x = 0
      · have hch : chkH pre x = afterH pre x := if_pos e0
        rw [hch, e0]
        by_cases e1 : afterH pre x = x.ha
        · have hbe : (afterH pre x != x.ha) = false := by simp [e1]
          have HW : Hid (withH x (afterH pre x) = x) := Lib.hid (withH_same e1)
          have hP := HK3.out.put x (canE_zero e0).2.1 (by have := HK3.out.inv.add e0; rw [HW.out] at this; exact this)
          unfold Lk.val at hP
          have HP := Lib.hid hP
          have HV2 : Hid (verF [] xs = verF (xs.take (k + 1)) (xs.drop (k + 1))) := by
            unfold Hid; rw [HVS.out, if_neg (by simp [e0]), if_neg (by simp [e1])]
          clear e0 e1 hch hP HVS
          generalize afterH pre x = hh at hbe ⊢
          go_wp2_with fail
          refine HP.out.mono ?_
          rintro e w4 ⟨rfl, hL⟩
          have HL4 : Hid (CLive w w4 b (xs.take (k + 1))) := by unfold Hid; rw [HTS.out]; exact hL
          clear hL
          go_wp2_with fail
          go_roundw
          case rel => exact ⟨k + 1, by omega, by go_num, HL4, HV2⟩
          case measure => simp [intOf]; omega
        · have hbe : (afterH pre x != x.ha) = true := by simpa using e1
          have HV2 : Hid (verF [] xs = ((k : Int), 29)) := by
            unfold Hid; rw [HVS.out, if_neg (by simp [e0]), if_pos e1]
          clear e0 e1 hch HVS
          generalize afterH pre x = hh at hbe ⊢
          go_wp2_with fail
          go_ret2
          exact ⟨by rw [HV2.out]; rfl, HK3.out.wb⟩
      · have hce : (canE pre x != 0) = true := by simpa using e0
        have hce2 : (canE pre x == 0) = false := by simpa using e0
        have hch : chkH pre x = 0 := if_neg e0
        have HV2 : Hid (verF [] xs = ((k : Int), canE pre x)) := by
          unfold Hid; rw [HVS.out, if_pos e0]
        rw [hch]
        clear e0 hch HVS
        generalize canE pre x = cc at hce hce2 HV2 ⊢
        go_wp2_with fail
        go_ret2
        exact ⟨by rw [HV2.out]; rfl, HK3.out.wb⟩
    · obtain rfl : k = xs.length := by omega
      have HV2 : Hid (verF [] xs = (-1, 0)) := by
        unfold Hid; rw [HV.out, List.drop_length]; rfl
      go_wp2_with fail
      go_ret2
      exact ⟨by rw [HV2.out]; rfl, HK.out.wb⟩
end Go.Proofs.YtgonghmihghhnaaDoor.Cu
