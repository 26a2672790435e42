/- custody's reference: Verify, walked. -/
import Derived.Test.YtmgegffcgmcclaaDoorRh10
import Derived.Test.YtmgegffcgmcclaaDoorCp1
namespace Go.Proofs.YtmgegffcgmcclaaDoor.Cu
open Go.RowKit Go.Proofs.YtmgegffcgmcclaaDoor.Id Go.Maps

theorem canE_ranges {ls : List Lk} {x : Lk} (h : canE ls x = 0) : (-9223372036854775808 ≤ x.t ∧ x.t ≤ 9223372036854775807) ∧ (-9223372036854775808 ≤ x.vo ∧ x.vo ≤ 9223372036854775807) := by
  obtain ⟨_, _, u, _, hc⟩ := canE_zero h
  obtain ⟨_, c2, c3, _, _, c6, c7, _⟩ := canU_zero hc
  omega
set_option maxHeartbeats 8000000 in
set_option maxRecDepth 100000 in
set_option linter.all false in
theorem rVerify_any (v : Value) (xs : List Lk) (w : World) (hs : SliceIs w 6 v xs.length (kcells xs)) (hq : ∀ (i : Nat) (x : Lk), xs[i]? = some x → x.it.size ≤ 1000 ∧ x.pa.size ≤ 1000 ∧ x.sp.size ≤ 1000) :
    Calls Tryd.prog 20 #[v] w fun e w' => e = .returned (.tuple #[.int .i64 (verF [] xs).1, .int .i64 (verF [] xs).2]) ∧ Below w.heap.size w w' := by
  have HS := Lib.hid hs
  have HQ := Lib.hid hq
  obtain ⟨A, c, rfl⟩ := slice_shape hs
  have hl2 : xs.length ≤ 9223372036854775807 := hs.2.1
  have hll : ∀ W, (Builtin.len_ #[27] 3 #[.slice A xs.length c]).run Tryd.prog W = .ok (.int .i64 xs.length) W := fun W => by simp [Builtin.len_, run_underlying und_links]; rfl
  clear hs hq
  go_enter Tryd.func20, Tryd.ntmps20
  go_wp2_with fail
  go_loopw [4] (fun i wr => ∃ k : Nat, k ≤ xs.length ∧ i = .int .i64 k ∧ Hid (Below w.heap.size w wr) ∧ Hid (CInv (xs.take k)) ∧ Hid (verF [] xs = verF (xs.take k) (xs.drop k))) (fun i _ => xs.length - (intOf i).toNat)
  case atStart => exact ⟨0, Nat.zero_le _, rfl, Below.refl _ _, CInv.nil, rfl⟩
  case round =>
    obtain ⟨k, hk, rfl, HB, HI, HV⟩ := hrel
    by_cases hlt : k < xs.length
    · obtain ⟨x, hx⟩ : ∃ x, xs[k]? = some x := ⟨_, List.getElem?_eq_getElem hlt⟩
      obtain ⟨g, off, rfl, hc, _, hg, _⟩ := slice_cells HS.out hx rfl
      have SC := Lib.hid (fun (W : World) (hW : Below w.heap.size w W) => slice_cells2 HS.out hx rfl hW)
      obtain ⟨q1, q2, q3⟩ := HQ.out k x hx
      have hpl : Hid ((xs.take k).length = k) := Lib.hid (by rw [List.length_take]; omega)
      have HVS : Hid (verF [] xs = if canE (xs.take k) x ≠ 0 then ((k : Int), canE (xs.take k) x) else if afterH (xs.take k) x ≠ x.ha then ((k : Int), 29) else verF (xs.take (k + 1)) (xs.drop (k + 1))) := by
        unfold Hid
        rw [HV.out, drop_cons hx, verF, hpl.out, take_snoc hx]
      have HTS := Lib.hid (take_snoc hx)
      have HST := Lib.hid (fun (W : World) (hW : Below w.heap.size w W) => SliceIs.take rfl (HS.out.below hW) (k := k) (by omega))
      generalize xs.take k = pre at HI HVS HTS hpl HST
      have HCAN := Lib.hid (fun (W : World) (hW : Below w.heap.size w W) => rCan_any _ pre x W (HST.out W hW) HI.out q1 q2 q3)
      have HAFT := Lib.hid (fun (W : World) (hW : Below w.heap.size w W) (t0) (v0) => rAfter_any _ pre x W (HST.out W hW) (fun i u h => (HI.out.each i u h).2.2.2.2.2.2.2.1) q1 q2 q3 t0 v0)
      unfold Lk.val at HCAN HAFT
      obtain ⟨ι, hne, f, i0, hi0, hF, hCC⟩ := below_class wr
      have FF := Lib.hid hF
      have FC := Lib.hid hCC
      have x0 := fun n => (SC.out _ (bT HB.out (FF.out n))).1
      have x1 := fun n => (SC.out _ (bT HB.out (FF.out n))).2.1
      have x2 := fun n => (SC.out _ (bT HB.out (FF.out n))).2.2.1
      have x3 := fun n => (SC.out _ (bT HB.out (FF.out n))).2.2.2.1
      have x4 := fun n => (SC.out _ (bT HB.out (FF.out n))).2.2.2.2.1
      have x5 := fun n => (SC.out _ (bT HB.out (FF.out n))).2.2.2.2.2
      have hkc : k ≤ c := by omega
      have hk0 : (0 : Int) ≤ (k : Int) := by omega
      have hk1 : (k : Int) ≤ (c : Int) := by omega
      have hk2 : (k : Int) < (xs.length : Int) := by omega
      clear hx HV hF hCC q1 q2 q3
      go_wp2_with fail
      refine wp_region_class f i0 hi0 (by kernel_rfl) (by kernel_rfl) ?_
      repeat (first
        | go_big_quiet_step ((first
            | (go_at_call 35; exact class_call FC.out (HCAN.out _ (bT HB.out (FF.out _)))))))
      refine wpQuiet_nil ?_
      rintro _ ⟨nq, rfl⟩
      have B1 := Lib.hid (bT HB.out (FF.out nq))
      clear x0 x1 x2 x3 x4 x5 hi0
      generalize f nq = w1 at B1 ⊢
      clear FF FC
      by_cases e0 : canE pre x = 0
      · have HR := Lib.hid (canE_ranges e0)
        have HE0 := Lib.hid e0
        rw [e0]
        obtain ⟨ι, hne, f, i0, hi0, hF, hCC⟩ := below_class w1
        have FF := Lib.hid hF
        have FC := Lib.hid hCC
        have x0 := fun n => (SC.out _ (bT B1.out (FF.out n))).1
        have x1 := fun n => (SC.out _ (bT B1.out (FF.out n))).2.1
        have x2 := fun n => (SC.out _ (bT B1.out (FF.out n))).2.2.1
        have x3 := fun n => (SC.out _ (bT B1.out (FF.out n))).2.2.2.1
        have x4 := fun n => (SC.out _ (bT B1.out (FF.out n))).2.2.2.2.1
        have x5 := fun n => (SC.out _ (bT B1.out (FF.out n))).2.2.2.2.2
        clear e0 hF hCC
        go_wp2_with fail
        refine wp_region_class f i0 hi0 (by kernel_rfl) (by kernel_rfl) ?_
        repeat (first
          | go_big_quiet_step ((first
              | (go_at_call 23; exact class_call FC.out (HAFT.out _ (bT B1.out (FF.out _)) HR.out.1 HR.out.2)))))
        refine wpQuiet_nil ?_
        rintro _ ⟨nq2, rfl⟩
        have B2 := Lib.hid (bT B1.out (FF.out nq2))
        clear x0 x1 x2 x3 x4 x5 hi0
        generalize f nq2 = w2 at B2 ⊢
        clear FF FC
        by_cases e1 : afterH pre x = x.ha
        · have hbe : (x.ha != afterH pre x) = false := by simp [e1]
          have HW : Hid (withH x (afterH pre x) = x) := Lib.hid (withH_same e1)
          have HI2 : Hid (CInv (xs.take (k + 1))) := by
            unfold Hid
            have := HI.out.add HE0.out
            rw [HW.out] at this
            rw [HTS.out]; exact this
          have HV2 : Hid (verF [] xs = verF (xs.take (k + 1)) (xs.drop (k + 1))) := by
            unfold Hid; rw [HVS.out, if_neg (by simp [HE0.out]), if_neg (by simp [e1])]
          clear e1 HVS
          generalize afterH pre x = hh at hbe ⊢
          go_wp2_with fail
          go_roundw
          case rel => exact ⟨k + 1, by omega, by go_num, B2, HI2, HV2⟩
          case measure => simp [intOf]; omega
        · have hbe : (x.ha != afterH pre x) = true := by simp; exact fun h => e1 h.symm
          have HV2 : Hid (verF [] xs = ((k : Int), 29)) := by
            unfold Hid; rw [HVS.out, if_neg (by simp [HE0.out]), if_pos e1]
          clear e1 HVS
          generalize afterH pre x = hh at hbe ⊢
          go_wp2_with fail
          go_ret2
          exact ⟨by rw [HV2.out]; rfl, B2.out⟩
      · have hce : (canE pre x != 0) = true := by simpa using e0
        have HV2 : Hid (verF [] xs = ((k : Int), canE pre x)) := by
          unfold Hid; rw [HVS.out, if_pos e0]
        clear e0 HVS
        generalize canE pre x = cc at hce HV2 ⊢
        go_wp2_with fail
        go_ret2
        exact ⟨by rw [HV2.out]; rfl, B1.out⟩
    · obtain rfl : k = xs.length := by omega
      have HV2 : Hid (verF [] xs = (-1, 0)) := by
        unfold Hid; rw [HV.out, List.drop_length]; rfl
      go_wp2_with fail
      go_ret2
      exact ⟨by rw [HV2.out]; rfl, HB.out⟩
end Go.Proofs.YtmgegffcgmcclaaDoor.Cu
