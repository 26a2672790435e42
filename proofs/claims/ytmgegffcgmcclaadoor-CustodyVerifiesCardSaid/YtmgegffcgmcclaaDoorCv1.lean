/- the law CustodyVerifies, walked. -/
import Derived.Test.YtmgegffcgmcclaaDoorRh11
namespace Go.Proofs.YtmgegffcgmcclaaDoor.Cu
open Go.RowKit Go.Proofs.YtmgegffcgmcclaaDoor.Id Go.Maps

set_option maxHeartbeats 4000000 in
set_option maxRecDepth 100000 in
set_option linter.all false in
theorem CustodyVerifies_any (v : Value) (os : List Lk) (w : World) (htab : Tab w) (hs : SliceIs w 6 v os.length (kcells os)) :
    Calls Tryd.prog 4 #[v] w fun e w' => e = .returned (.bool true) ∧ Below w.heap.size w w' := by
  have HT := Lib.hid htab
  have HS := Lib.hid hs
  obtain ⟨A, c, rfl⟩ := slice_shape hs
  clear hs htab
  go_enter Tryd.func4, Tryd.ntmps4
  go_wp2_with fail
  refine (few_any _ os w HS.out).mono ?_
  rintro e w1 ⟨bb, rfl, b1, hb⟩
  have HB := Lib.hid hb
  clear hb
  cases bb with
  | false =>
    go_wp2_with fail
    refine (awake_any _ (HT.out.on b1)).mono ?_
    rintro e w2 ⟨rfl, b2⟩
    go_wp2_with fail
    go_ret
    exact ⟨rfl, bT b1 b2⟩
  | true =>
    have HOK := (HB.out (by simp)).2
    have HQ := Lib.hid (fun (i : Nat) (x : Lk) (h : os[i]? = some x) => (show x.it.size ≤ 1000 ∧ x.pa.size ≤ 1000 ∧ x.sp.size ≤ 1000 from by
      have := HOK i x h
      unfold okK at this
      omega))
    clear HB HOK
    have HV1 := Lib.hid (fun (W : World) (hW : Below w.heap.size w W) => Verify_any _ os W (HS.out.below hW) (HT.out.on hW) HQ.out)
    have HV2 := Lib.hid (fun (W : World) (hW : Below w.heap.size w W) => rVerify_any _ os W (HS.out.below hW) HQ.out)
    generalize verF [] os = q at HV1 HV2
    obtain ⟨n, m⟩ := q
    have HV1' : Hid (∀ (W : World) (_ : Below w.heap.size w W), Calls Tryd.prog 19 #[.slice A os.length c] W fun e w' => e = .returned (.tuple #[.int .i64 n, .int .i64 m]) ∧ Below W.heap.size W w') := HV1
    have HV2' : Hid (∀ (W : World) (_ : Below w.heap.size w W), Calls Tryd.prog 20 #[.slice A os.length c] W fun e w' => e = .returned (.tuple #[.int .i64 n, .int .i64 m]) ∧ Below W.heap.size W w') := HV2
    clear HV1 HV2
    go_wp2_with fail
    refine (HV1'.out _ b1).mono ?_
    rintro e w2 ⟨rfl, b2⟩
    have B2 := Lib.hid (bT b1 b2)
    clear b1 b2
    go_wp2_with fail
    refine (HV2'.out _ B2.out).mono ?_
    rintro e w3 ⟨rfl, b3⟩
    have B3 := Lib.hid (bT B2.out b3)
    clear b3
    go_wp2_with fail
    refine (awake_any _ (HT.out.on B3.out)).mono ?_
    rintro e w4 ⟨rfl, b4⟩
    go_wp2_with fail
    go_ret
    exact ⟨rfl, bT B3.out b4⟩
end Go.Proofs.YtmgegffcgmcclaaDoor.Cu
