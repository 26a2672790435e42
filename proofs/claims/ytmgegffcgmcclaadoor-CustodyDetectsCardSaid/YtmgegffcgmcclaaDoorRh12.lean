/- custody's reference: Add, walked. -/
import Derived.Test.YtmgegffcgmcclaaDoorRh11
namespace Go.Proofs.YtmgegffcgmcclaaDoor.Cu
open Go.RowKit Go.Proofs.YtmgegffcgmcclaaDoor.Id Go.Maps

theorem own_empty {W : World} {base k : Nat} {ty : TypeId} {sz : Nat} (h : W.heap[k]? = some (.cells #[] ty (0, 0))) (hb : base ≤ k) : W.ownsRow base ty sz (.slice (some ⟨k, 0, none⟩) 0 0) 0 [] :=
  ⟨by simp, .inr ⟨k, 0, #[], rfl, hb, h, Nat.le_refl _, Nat.zero_le _, by simp, by simp⟩⟩
theorem step_append_src {P : Program} {w : World} {ops : Array Oper} {o : Oper} {a : Act} {K : Act → World → Prop} {Q : Exit → Act → World → Prop} {E : Prop} (hgd : o.guard = none) (s x : Operand) (t : TypeId)
    (ho : o.op = .call { callee := .builtin .append, args := #[s, x], argTypes := #[t, t] })
    (base : Nat) (e : TypeId) (i : TypeInfo) (z : Value) (size bytes : Nat) (ht : P.underlying t = some (.slice e)) (hi : P.info? e = some i) (hz : i.zero = some z)
    (hsize : i.size = size) (hby : i.bytes = bytes) (hzs : z.cells.size = size) (hsz : 0 < size)
    (v : Value) (n : Nat) (xs : List Value) (hown : w.ownsRow base e size v n xs) (hs : a.eval s = v)
    (sv : Value) (m : Nat) (news : List Value) (hx : a.eval x = sv) (hr : SliceIs w size sv m news) (h1 : ∀ u ∈ news, u.oneCell' = true)
    (h63 : n + m ≤ maxLen) (hbytes : (n + m) * bytes ≤ 140737488355328) (hbase : base ≤ w.heap.size)
    (h : ∀ v' w', w'.ownsRow base e size v' (n + m) (xs ++ news) → w.grownBy w' v.ownBlock → (v'.ownBlock = v.ownBlock ∨ v'.ownBlock = some w.heap.size) → K (a.put o.dst v') w') :
    if Region.wanted o (yielded ops a.tmps) = true then Oper.wp P o a w K Q else E := by
  have hw : Region.wanted o (yielded ops a.tmps) = true := by simp [Region.wanted, hgd]
  rw [if_pos hw]
  exact wp_append_src w s x t ho base e i z size bytes ht hi hz hsize hby hzs hsz v n xs hs hown sv m news hx hr h1 h63 hbytes hbase h
theorem below_set {n : Nat} {A W : World} {g j : Nat} {u : Value} (h : Below n A W) (hg : n ≤ g) (hs : n ≤ W.heap.size) : Below n A (W.setCell ⟨g, j, none⟩ u) :=
  h.trans ((Keeps.setCell (fun k => k = g) W (p := ⟨g, j, none⟩) rfl u).below (fun k e => by rw [e]; exact hg) hs)
theorem own_lt {w : World} {base n size : Nat} {v : Value} {xs : List Value} {e : TypeId} (h : w.ownsRow base e size v n xs) : ∀ k, v.ownBlock = some k → base ≤ k := fun k e => (h.lt k e).1
set_option maxHeartbeats 16000000 in
set_option maxRecDepth 100000 in
set_option linter.all false in
theorem rAdd_any (v : Value) (ls : List Lk) (x : Lk) (hx0 : x.ha = 0) (w : World) (hs : SliceIs w 6 v ls.length (kcells ls)) (hI : CInv ls) (q1 : x.it.size ≤ 1000) (q2 : x.pa.size ≤ 1000) (q3 : x.sp.size ≤ 1000) :
    Calls Tryd.prog 15 #[v, .string x.it, .string x.pa, .string x.sp, .int .i64 x.t, .int .i64 x.vo] w fun e w' => ∃ v', e = .returned (.tuple #[v', .int .u64 (chkH ls x), .int .i64 (canE ls x)]) ∧ SliceIs w' 6 v' (addK ls x).length (kcells (addK ls x)) ∧ (v' = v ∨ ∀ k, v'.ownBlock = some k → w.heap.size ≤ k ∧ k < w'.heap.size) ∧ Below w.heap.size w w' := by
  have HS := Lib.hid hs
  have HI := Lib.hid hI
  obtain ⟨A, c, rfl⟩ := slice_shape hs
  have HW := Lib.hid (bA (Below.refl w.heap.size w) (.cells #[.string x.it, .string x.pa, .int .i64 x.t, .int .i64 x.vo, .string x.sp, .int .u64 0] 44))
  have XC := Lib.hid (fun (W : World) (hW : Below (w.alloc (.cells #[.string x.it, .string x.pa, .int .i64 x.t, .int .i64 x.vo, .string x.sp, .int .u64 0] 44)).heap.size (w.alloc (.cells #[.string x.it, .string x.pa, .int .i64 x.t, .int .i64 x.vo, .string x.sp, .int .u64 0] 44)) W) => (hW.block w.heap.size (by simp)).trans (heap_alloc_new w _))
  have HCAN := Lib.hid (fun (W : World) (hW : Below w.heap.size w W) => rCan_any _ ls x W (HS.out.below hW) HI.out q1 q2 q3)
  have HAFT := Lib.hid (fun (W : World) (hW : Below w.heap.size w W) (t0) (v0) => rAfter_any _ ls x W (HS.out.below hW) (fun i u h => (HI.out.each i u h).2.2.2.2.2.2.2.1) q1 q2 q3 t0 v0)
  unfold Lk.val at HCAN HAFT
  rw [hx0] at HCAN HAFT
  clear hs hI q1 q2 q3
  go_enter Tryd.func15, Tryd.ntmps15
  go_wp2_with fail
  refine (HCAN.out _ HW.out).mono ?_
  rintro e w1 ⟨rfl, b1⟩
  have XR := Lib.hid (XC.out w1 b1)
  have B1 := Lib.hid (HW.out.trans (b1.mono HW.out.size))
  obtain ⟨z0, z1, z2, z3, z4, z5, z6⟩ := cells6 XR.out
  clear b1
  by_cases e0 : canE ls x = 0
  · have HR := Lib.hid (canE_ranges e0)
    have HE0 := Lib.hid e0
    have HCH : Hid (chkH ls x = afterH ls x) := if_pos e0
    have HAK : Hid (addK ls x = ls ++ [withH x (afterH ls x)]) := if_pos e0
    have hlen := HI.out.len
    rw [e0]
    clear e0
    go_wp2_with fail
    refine (HAFT.out _ B1.out HR.out.1 HR.out.2).mono ?_
    rintro e w2 ⟨rfl, b2⟩
    have XR2 := Lib.hid ((b2.block w.heap.size (Array.getElem?_eq_some_iff.1 XR.out).1).trans XR.out)
    have B2 := Lib.hid (bT B1.out b2)
    clear z0 z1 z2 z3 z4 z5 z6 b2
    obtain ⟨z0, z1, z2, z3, z4, z5, z6⟩ := cells6 XR2.out
    go_upto_region 6 with fail
    obtain ⟨hh, hhe⟩ : ∃ hh, Hid (afterH ls x = hh) := ⟨_, rfl⟩
    rw [hhe.out]
    rw [hhe.out] at HCH HAK
    have XR3 := Lib.hid (heap_setCell_same w2 w.heap.size 5 _ _ (.int .u64 hh) XR2.out)
    have B3 := Lib.hid (below_set (j := 5) (u := .int .u64 hh) B2.out (Nat.le_refl _) B2.out.size)
    clear z0 z1 z2 z3 z4 z5 z6
    generalize w2.setCell ⟨w.heap.size, 5, none⟩ (.int .u64 hh) = w3 at XR3 B3 ⊢
    have XR3' : Hid (w3.heap[w.heap.size]? = some (.cells #[.string x.it, .string x.pa, .int .i64 x.t, .int .i64 x.vo, .string x.sp, .int .u64 hh] 44 (0, 0))) := XR3
    have HS3 := Lib.hid (HS.out.below B3.out)
    have HB0 := Lib.hid B3.out.size
    have SC := Lib.hid (fun (W : World) (hW : Below w3.heap.size w3 W) =>
      have k := cells6 ((hW.block w.heap.size (Array.getElem?_eq_some_iff.1 XR3'.out).1).trans XR3'.out)
      And.intro k.1 (And.intro k.2.1 (And.intro k.2.2.1 (And.intro k.2.2.2.1 (And.intro k.2.2.2.2.1 k.2.2.2.2.2.1)))))
    obtain ⟨i0, hi, hz0, hz1, hz2⟩ := info_parts infoLink
    have LA := Lib.hid (show Below w3.heap.size w3 ((w3.alloc (.cells #[] 44)).drew) from bd (bA (Below.refl _ _) _))
    have LB := Lib.hid (show Below w3.heap.size w3 (((w3.alloc (.cells #[] 44)).alloc (.cells #[.string x.it, .string x.pa, .int .i64 x.t, .int .i64 x.vo, .string x.sp, .int .u64 hh] 44)).drew) from bd (bA (bA (Below.refl _ _) _) _))
    have LC := Lib.hid (show Below w3.heap.size w3 (((w3.alloc (.cells #[.string x.it, .string x.pa, .int .i64 x.t, .int .i64 x.vo, .string x.sp, .int .u64 hh] 44)).alloc (.cells #[] 44)).drew) from bd (bA (bA (Below.refl _ _) _) _))
    have ea : (w3.alloc (.cells #[] 44)).heap[w3.heap.size]? = some (.cells #[] 44 (0, 0)) := heap_alloc_new w3 _
    have eb : ((w3.alloc (.cells #[] 44)).alloc (.cells #[.string x.it, .string x.pa, .int .i64 x.t, .int .i64 x.vo, .string x.sp, .int .u64 hh] 44)).heap[w3.heap.size]? = some (.cells #[] 44 (0, 0)) := (heap_alloc_old _ _ (by simp)).trans ea
    have xb : ((w3.alloc (.cells #[] 44)).alloc (.cells #[.string x.it, .string x.pa, .int .i64 x.t, .int .i64 x.vo, .string x.sp, .int .u64 hh] 44)).heap[w3.heap.size + 1]? = some (.cells #[.string x.it, .string x.pa, .int .i64 x.t, .int .i64 x.vo, .string x.sp, .int .u64 hh] 44 (0, 0)) := by
      have h := heap_alloc_new (w3.alloc (.cells #[] 44)) (.cells #[.string x.it, .string x.pa, .int .i64 x.t, .int .i64 x.vo, .string x.sp, .int .u64 hh] 44)
      rw [show (w3.alloc (.cells #[] 44)).heap.size = w3.heap.size + 1 by simp] at h
      exact h
    have xc0 : (w3.alloc (.cells #[.string x.it, .string x.pa, .int .i64 x.t, .int .i64 x.vo, .string x.sp, .int .u64 hh] 44)).heap[w3.heap.size]? = some (.cells #[.string x.it, .string x.pa, .int .i64 x.t, .int .i64 x.vo, .string x.sp, .int .u64 hh] 44 (0, 0)) := heap_alloc_new w3 _
    have xc : ((w3.alloc (.cells #[.string x.it, .string x.pa, .int .i64 x.t, .int .i64 x.vo, .string x.sp, .int .u64 hh] 44)).alloc (.cells #[] 44)).heap[w3.heap.size]? = some (.cells #[.string x.it, .string x.pa, .int .i64 x.t, .int .i64 x.vo, .string x.sp, .int .u64 hh] 44 (0, 0)) := (heap_alloc_old _ _ (by simp)).trans xc0
    have ec : ((w3.alloc (.cells #[.string x.it, .string x.pa, .int .i64 x.t, .int .i64 x.vo, .string x.sp, .int .u64 hh] 44)).alloc (.cells #[] 44)).heap[w3.heap.size + 1]? = some (.cells #[] 44 (0, 0)) := by
      have h := heap_alloc_new (w3.alloc (.cells #[.string x.it, .string x.pa, .int .i64 x.t, .int .i64 x.vo, .string x.sp, .int .u64 hh] 44)) (.cells #[] 44)
      rw [show (w3.alloc (.cells #[.string x.it, .string x.pa, .int .i64 x.t, .int .i64 x.vo, .string x.sp, .int .u64 hh] 44)).heap.size = w3.heap.size + 1 by simp] at h
      exact h
    have OA := Lib.hid (show ((w3.alloc (.cells #[] 44)).drew).ownsRow w3.heap.size 44 6 (.slice (some ⟨w3.heap.size, 0, none⟩) 0 0) 0 [] from own_empty ea (Nat.le_refl _))
    have OB := Lib.hid (show (((w3.alloc (.cells #[] 44)).alloc (.cells #[.string x.it, .string x.pa, .int .i64 x.t, .int .i64 x.vo, .string x.sp, .int .u64 hh] 44)).drew).ownsRow w3.heap.size 44 6 (.slice (some ⟨w3.heap.size, 0, none⟩) 0 0) 0 [] from own_empty eb (Nat.le_refl _))
    have OC := Lib.hid (show (((w3.alloc (.cells #[.string x.it, .string x.pa, .int .i64 x.t, .int .i64 x.vo, .string x.sp, .int .u64 hh] 44)).alloc (.cells #[] 44)).drew).ownsRow w3.heap.size 44 6 (.slice (some ⟨w3.heap.size + 1, 0, none⟩) 0 0) 0 [] from own_empty ec (Nat.le_succ _))
    have XB := Lib.hid (show (((w3.alloc (.cells #[] 44)).alloc (.cells #[.string x.it, .string x.pa, .int .i64 x.t, .int .i64 x.vo, .string x.sp, .int .u64 hh] 44)).drew).heap[w3.heap.size + 1]? = some (.cells #[.string x.it, .string x.pa, .int .i64 x.t, .int .i64 x.vo, .string x.sp, .int .u64 hh] 44 (0, 0)) from xb)
    have XD := Lib.hid (show (((w3.alloc (.cells #[.string x.it, .string x.pa, .int .i64 x.t, .int .i64 x.vo, .string x.sp, .int .u64 hh] 44)).alloc (.cells #[] 44)).drew).heap[w3.heap.size]? = some (.cells #[.string x.it, .string x.pa, .int .i64 x.t, .int .i64 x.vo, .string x.sp, .int .u64 hh] 44 (0, 0)) from xc)
    clear ea eb xb xc0 xc ec
    go_region_held3 (fun w' => w'.cell? ⟨w.heap.size, 0, none⟩ = some (.string x.it) ∧ w'.cell? ⟨w.heap.size, 1, none⟩ = some (.string x.pa) ∧ w'.cell? ⟨w.heap.size, 2, none⟩ = some (.int .i64 x.t) ∧ w'.cell? ⟨w.heap.size, 3, none⟩ = some (.int .i64 x.vo) ∧ w'.cell? ⟨w.heap.size, 4, none⟩ = some (.string x.sp) ∧ w'.cell? ⟨w.heap.size, 5, none⟩ = some (.int .u64 hh))
      (first | exact SC.out _ B5.out | exact SC.out _ B4.out | exact SC.out _ (bA B4.out _) | exact SC.out _ (bd (Below.refl _ _)) | exact SC.out _ (bA (bd (Below.refl _ _)) _) | exact SC.out _ (bA (bA (bd (Below.refl _ _)) _) _))
      (first
        | (refine step_append_src rfl (.tmp 34) (.tmp 35) 27 rfl w3.heap.size 44 i0 _ 6 72 und_links hi hz0 hz1 hz2 rfl (by omega) _ 0 [] OA.out (by rfl) (.slice A ls.length c) ls.length (kcells ls) (by rfl) (HS3.out.below LA.out) (kcells_one ls) (by unfold maxLen; omega) (by omega) LA.out.size ?_; intro v4 w4 own4 grow4 hat4; have H4 : Hid (w4.ownsRow w3.heap.size 44 6 v4 ls.length (kcells ls)) := (by unfold Hid; simpa using own4); have B4 := Lib.hid (below_of_grown LA.out grow4 (own_lt OA.out)); clear own4 grow4 hat4)
        | (refine step_append_src rfl (.tmp 34) (.tmp 35) 27 rfl w3.heap.size 44 i0 _ 6 72 und_links hi hz0 hz1 hz2 rfl (by omega) _ 0 [] OB.out (by rfl) (.slice A ls.length c) ls.length (kcells ls) (by rfl) (HS3.out.below LB.out) (kcells_one ls) (by unfold maxLen; omega) (by omega) LB.out.size ?_; intro v4 w4 own4 grow4 hat4; have H4 : Hid (w4.ownsRow w3.heap.size 44 6 v4 ls.length (kcells ls)) := (by unfold Hid; simpa using own4); have B4 := Lib.hid (below_of_grown LB.out grow4 (own_lt OB.out)); have X4 := Lib.hid ((grow4.block _ (Array.getElem?_eq_some_iff.1 XB.out).1 (by simp [Value.ownBlock])).trans XB.out); clear own4 grow4 hat4)
        | (refine step_append_src rfl (.tmp 34) (.tmp 35) 27 rfl w3.heap.size 44 i0 _ 6 72 und_links hi hz0 hz1 hz2 rfl (by omega) _ 0 [] OC.out (by rfl) (.slice A ls.length c) ls.length (kcells ls) (by rfl) (HS3.out.below LC.out) (kcells_one ls) (by unfold maxLen; omega) (by omega) LC.out.size ?_; intro v4 w4 own4 grow4 hat4; have H4 : Hid (w4.ownsRow w3.heap.size 44 6 v4 ls.length (kcells ls)) := (by unfold Hid; simpa using own4); have B4 := Lib.hid (below_of_grown LC.out grow4 (own_lt OC.out)); have X4 := Lib.hid ((grow4.block _ (Array.getElem?_eq_some_iff.1 XD.out).1 (by simp [Value.ownBlock])).trans XD.out); clear own4 grow4 hat4)
        | (refine step_append_lies _ rfl (.tmp 36) (.tmp 38) 27 rfl w3.heap.size 44 i0 _ 6 72 und_links hi hz0 hz1 hz2 rfl (by omega) v4 ls.length (kcells ls) (by rfl) (own_below H4.out (bA (Below.refl _ _) _)) _ 1 1 (withH x hh).cells (by rfl) rfl (World.news_of_block (heap_alloc_new w4 _)) (lk_one _) (by omega) (by unfold maxLen; omega) (by omega) ((bA B4.out _)).size _ rfl ?_; intro g5 c5 w5 own5 grow5 hat5 hlt5; have H5 := Lib.hid own5; have B5 := Lib.hid (below_of_grown (bA B4.out _) grow5 (own_lt H4.out)); clear own5 grow5 hat5 hlt5)
        | (refine step_append_lies _ rfl (.tmp 36) (.tmp 38) 27 rfl w3.heap.size 44 i0 _ 6 72 und_links hi hz0 hz1 hz2 rfl (by omega) v4 ls.length (kcells ls) (by rfl) H4.out _ 1 1 (withH x hh).cells (by rfl) rfl (World.news_of_block X4.out) (lk_one _) (by omega) (by unfold maxLen; omega) (by omega) (B4.out).size _ rfl ?_; intro g5 c5 w5 own5 grow5 hat5 hlt5; have H5 := Lib.hid own5; have B5 := Lib.hid (below_of_grown B4.out grow5 (own_lt H4.out)); clear own5 grow5 hat5 hlt5))
    all_goals
      have HF : Hid (SliceIs w5 6 (.slice (some ⟨g5, 0, none⟩) (ls.length + 1) c5) (addK ls x).length (kcells (addK ls x))) := by
        unfold Hid
        rw [HAK.out, kcells_snoc, List.length_append]
        exact SliceIs.of_own H5.out
      have HK : Hid (∀ k, (Value.slice (some ⟨g5, 0, none⟩) (ls.length + 1) c5).ownBlock = some k → w.heap.size ≤ k ∧ k < w5.heap.size) := Lib.hid (fun k e => ⟨Nat.le_trans HB0.out (H5.out.lt k e).1, (H5.out.lt k e).2⟩)
      go_wp2_with fail
      go_ret3
      exact ⟨_, by rw [HCH.out, HE0.out]; rfl, HF.out, .inr HK.out, B3.out.trans (B5.out.mono HB0.out)⟩
  · have hce : (canE ls x != 0) = true := by simpa using e0
    have HCH : Hid (chkH ls x = 0) := if_neg e0
    have HAK : Hid (addK ls x = ls) := if_neg e0
    clear e0
    obtain ⟨cc, hcc⟩ : ∃ cc, Hid (canE ls x = cc) := ⟨_, rfl⟩
    rw [hcc.out] at hce ⊢
    go_wp2_with fail
    go_ret3
    exact ⟨_, by rw [HCH.out, hcc.out]; rfl, by rw [HAK.out]; exact HS.out.below B1.out, .inl rfl, B1.out⟩
end Go.Proofs.YtmgegffcgmcclaaDoor.Cu
