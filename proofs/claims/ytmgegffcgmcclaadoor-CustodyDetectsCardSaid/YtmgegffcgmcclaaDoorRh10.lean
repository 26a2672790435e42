/- custody's reference: After, walked. -/
import Derived.Test.YtmgegffcgmcclaaDoorRh9
namespace Go.Proofs.YtmgegffcgmcclaaDoor.Cu
open Go.RowKit Go.Proofs.YtmgegffcgmcclaaDoor.Id Go.Maps

theorem upH_root {ls : List Lk} {x : Lk} (h : x.pa = emptyB) : afterH ls x = hashL 0 x := by simp [afterH, upH, upO, h]
theorem upH_none {ls : List Lk} {x : Lk} (h : atI ls x.pa < 0) : afterH ls x = hashL 0 x := by
  unfold afterH upH upO
  by_cases e : x.pa = emptyB <;> simp [e, h]
theorem upH_some {ls : List Lk} {x u : Lk} {k : Nat} (h : x.pa ≠ emptyB) (h2 : atI ls x.pa = k) (h3 : ls[k]? = some u) : afterH ls x = hashL u.ha x := by
  have h0 : ¬ ((k : Int) < 0) := by omega
  simp [afterH, upH, upO, h, h2, h3, h0]
set_option maxHeartbeats 4000000 in
set_option maxRecDepth 100000 in
set_option linter.all false in
theorem rAfter_any (v : Value) (ls : List Lk) (x : Lk) (w : World) (hs : SliceIs w 6 v ls.length (kcells ls)) (hu : ∀ (i : Nat) (u : Lk), ls[i]? = some u → 0 ≤ u.ha) (q1 : x.it.size ≤ 1000) (q2 : x.pa.size ≤ 1000) (q3 : x.sp.size ≤ 1000) (t0 : -9223372036854775808 ≤ x.t ∧ x.t ≤ 9223372036854775807) (v0 : -9223372036854775808 ≤ x.vo ∧ x.vo ≤ 9223372036854775807) :
    Calls Tryd.prog 23 #[v, x.val] w fun e w' => e = .returned (.int .u64 (afterH ls x)) ∧ Below w.heap.size w w' := by
  have HS := Lib.hid hs
  have HU := Lib.hid hu
  obtain ⟨A, c, rfl⟩ := slice_shape hs
  have HW := Lib.hid (bA (Below.refl w.heap.size w) (.cells #[.string x.it, .string x.pa, .int .i64 x.t, .int .i64 x.vo, .string x.sp, .int .u64 x.ha] 44))
  have XC := Lib.hid (fun (W : World) (hW : Below (w.alloc (.cells #[.string x.it, .string x.pa, .int .i64 x.t, .int .i64 x.vo, .string x.sp, .int .u64 x.ha] 44)).heap.size (w.alloc (.cells #[.string x.it, .string x.pa, .int .i64 x.t, .int .i64 x.vo, .string x.sp, .int .u64 x.ha] 44)) W) => cells6 ((hW.block w.heap.size (by simp)).trans (heap_alloc_new w _)))
  have HSA := Lib.hid (HS.out.below HW.out)
  have HH := Lib.hid (fun (n : Int) (W : World) (h : 0 ≤ n) => rLHash_any n x W h q1 q2 q3 t0 v0)
  have hl := hs.2.1
  unfold Lk.val at HH ⊢
  clear hs hu q1 q2 q3 t0 v0
  by_cases he : x.pa = emptyB
  · have he' : x.pa.toList.isEmpty = true := by rw [pa_empty]; simpa using he
    have hE := Lib.hid (upH_root (ls := ls) he)
    clear he
    go_enter Tryd.func23, Tryd.ntmps23
    go_wp2_with fail
    refine (rat_any _ ls x.pa _ HSA.out).mono ?_
    rintro e w2 ⟨rfl, rfl⟩
    generalize atI ls x.pa = ai
    go_wp2_with fail
    refine (HH.out 0 _ (by omega)).mono ?_
    rintro e w3 ⟨rfl, b3⟩
    go_wp2_with fail
    go_ret
    exact ⟨by rw [hE.out]; rfl, HW.out.trans (b3.mono HW.out.size)⟩
  have he' : x.pa.toList.isEmpty = false := by rw [pa_empty]; simpa using he
  rcases atI_cases ls x.pa with ⟨h1, _⟩ | ⟨k, u, h1, h2, _, _⟩
  · have hE := Lib.hid (upH_none (ls := ls) (x := x) (by omega))
    clear he
    go_enter Tryd.func23, Tryd.ntmps23
    go_wp2_with fail
    refine (rat_any _ ls x.pa _ HSA.out).mono ?_
    rintro e w2 ⟨rfl, rfl⟩
    rw [h1]
    clear h1
    go_wp2_with fail
    refine (HH.out 0 _ (by omega)).mono ?_
    rintro e w3 ⟨rfl, b3⟩
    go_wp2_with fail
    go_ret
    exact ⟨by rw [hE.out]; rfl, HW.out.trans (b3.mono HW.out.size)⟩
  · have hE := Lib.hid (upH_some (ls := ls) (x := x) he h2 h1)
    have hua := Lib.hid (HU.out k u h1)
    obtain ⟨g, off, rfl, hc, hk, hg, d0, d1, d2, d3, d4, d5⟩ := slice_cells HSA.out h1 rfl
    have H2 := Lib.hid h2
    have L5 := Lib.hid d5
    obtain ⟨ι, hne, f, i0, hi0, hF, hCC⟩ := below_class (w.alloc (.cells #[.string x.it, .string x.pa, .int .i64 x.t, .int .i64 x.vo, .string x.sp, .int .u64 x.ha] 44))
    have FF := Lib.hid hF
    have FC := Lib.hid hCC
    have x0 := fun n => (XC.out _ (FF.out n)).1
    have x1 := fun n => (XC.out _ (FF.out n)).2.1
    have x2 := fun n => (XC.out _ (FF.out n)).2.2.1
    have x3 := fun n => (XC.out _ (FF.out n)).2.2.2.1
    have x4 := fun n => (XC.out _ (FF.out n)).2.2.2.2.1
    have x5 := fun n => (XC.out _ (FF.out n)).2.2.2.2.2.1
    have u5 := fun n => ((FF.out n).cell (p := ⟨g, off + k * 6 + 5, none⟩) hg).trans L5.out
    clear he h1 h2 d0 d1 d2 d3 d4 d5 hF hCC
    go_enter Tryd.func23, Tryd.ntmps23
    go_wp2_with fail
    refine (rat_any _ ls x.pa _ HSA.out).mono ?_
    rintro e w2 ⟨rfl, rfl⟩
    rw [H2.out]
    go_wp2_with fail
    refine wp_region_class f i0 hi0 (by kernel_rfl) (by kernel_rfl) ?_
    repeat (first
      | go_big_quiet_step ((first
          | (go_at_call 37; exact class_call FC.out (HH.out u.ha _ hua.out)))))
    refine wpQuiet_nil ?_
    rintro _ ⟨nq, rfl⟩
    go_wp2_with fail
    go_ret
    exact ⟨by rw [hE.out]; rfl, HW.out.trans ((FF.out nq).mono HW.out.size)⟩
end Go.Proofs.YtmgegffcgmcclaaDoor.Cu
