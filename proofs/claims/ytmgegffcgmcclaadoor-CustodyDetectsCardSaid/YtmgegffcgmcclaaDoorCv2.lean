/- the law CustodyAdds, walked. -/
import Derived.Test.YtmgegffcgmcclaaDoorRh12
namespace Go.Proofs.YtmgegffcgmcclaaDoor.Cu
open Go.RowKit Go.Proofs.YtmgegffcgmcclaaDoor.Id Go.Maps

/-- the register at b and a slice of links that is no part of it; the blocks from E on are no part of it either -/
def CB (w0 W : World) (b : Nat) (lr lt : List Lk) (v : Value) (E : Nat) : Prop := ∃ F, CReg W F b lr ∧ (∀ k, F k → w0.heap.size ≤ k ∧ k < E) ∧ Below w0.heap.size w0 W ∧ SliceIs W 6 v lt.length (kcells lt) ∧ (∀ k, v.ownBlock = some k → ¬ F k ∧ k < W.heap.size) ∧ E ≤ W.heap.size
theorem CLive.cb {w W : World} {b : Nat} {ls : List Lk} (h : CLive w W b ls) {v : Value} {lt : List Lk} (hs : SliceIs W 6 v lt.length (kcells lt)) (hv : v.ownBlock = none) : CB w W b ls lt v W.heap.size := by
  obtain ⟨F, h1, h2, h3⟩ := h
  obtain ⟨F0, k1, k2⟩ := h1.tight
  exact ⟨F0, k1, fun k hk => ⟨h2 k (k2 k hk).1, (k2 k hk).2⟩, h3, hs, fun k e => (by rw [hv] at e; cases e), Nat.le_refl _⟩
section
variable {w0 W : World} {b E : Nat} {lr lt : List Lk} {v : Value}
theorem CB.live (h : CB w0 W b lr lt v E) : CLive w0 W b lr := by
  obtain ⟨F, h1, h2, h3, _⟩ := h
  exact ⟨F, h1, fun k hk => (h2 k hk).1, h3⟩
theorem CB.slice (h : CB w0 W b lr lt v E) : SliceIs W 6 v lt.length (kcells lt) := by obtain ⟨_, _, _, _, h, _⟩ := h; exact h
theorem CB.inv (h : CB w0 W b lr lt v E) : CInv lr := h.live.inv
theorem CB.wb (h : CB w0 W b lr lt v E) : Below w0.heap.size w0 W := h.live.wb
theorem CB.below {W' : World} (h : CB w0 W b lr lt v E) (hb : Below W.heap.size W W') : CB w0 W' b lr lt v E := by
  obtain ⟨F, h1, h2, h3, h4, h5, h6⟩ := h
  exact ⟨F, h1.below hb, h2, bT h3 hb, h4.below hb, fun k e => ⟨(h5 k e).1, Nat.lt_of_lt_of_le (h5 k e).2 hb.size⟩, Nat.le_trans h6 hb.size⟩
theorem CB.now (h : CB w0 W b lr lt v E) : CB w0 W b lr lt v W.heap.size := by
  obtain ⟨F, h1, h2, h3, h4, h5, h6⟩ := h
  exact ⟨F, h1, fun k hk => ⟨(h2 k hk).1, Nat.lt_of_lt_of_le (h2 k hk).2 h6⟩, h3, h4, h5, Nat.le_refl _⟩
theorem CB.add (h : CB w0 W b lr lt v E) (x : Lk) (hx0 : x.ha = 0) (htab : Tab W) (q1 : x.it.size ≤ 1000) (q2 : x.pa.size ≤ 1000) (q3 : x.sp.size ≤ 1000) :
    Calls Tryd.prog 14 #[.pointer (some ⟨b, 0, none⟩), .string x.it, .string x.pa, .string x.sp, .int .i64 x.t, .int .i64 x.vo] W fun e w' => e = .returned (.tuple #[.int .u64 (chkH lr x), .int .i64 (canE lr x)]) ∧ CB w0 w' b (addK lr x) lt v w'.heap.size ∧ ∀ k, E ≤ k → k < W.heap.size → w'.heap[k]? = W.heap[k]? := by
  obtain ⟨F, h1, h2, h3, h4, h5, h6⟩ := h
  refine (Add_any b F lr x hx0 W h1 htab q1 q2 q3).mono ?_
  rintro e w' ⟨rfl, hA⟩
  have hl := CLive.added (fun k hk => (h2 k hk).1) h3 hA
  obtain ⟨F', k1, k2, k3, k4⟩ := hA
  obtain ⟨F0, m1, m2⟩ := k1.tight
  refine ⟨rfl, ⟨F0, m1, fun k hk => ⟨?_, (m2 k hk).2⟩, hl.wb, h4.keeps k4 (fun k e => (h5 k e).1), fun k e => ⟨fun hk => ?_, Nat.lt_of_lt_of_le (h5 k e).2 k4.size⟩, Nat.le_refl _⟩, fun k hk hE => k4.block k hE (fun hf => by have := (h2 k hf).2; omega)⟩
  · rcases k3 k (m2 k hk).1 with h | h
    · exact (h2 k h).1
    · have := h3.size; omega
  · rcases k3 k (m2 k hk).1 with h | h
    · exact (h5 k e).1 h
    · have := (h5 k e).2; omega
theorem CB.rad {W' : World} {lt' : List Lk} {v' : Value} (h : CB w0 W b lr lt v E) (hb : Below W.heap.size W W') (hs : SliceIs W' 6 v' lt'.length (kcells lt')) (hv : v' = v ∨ ∀ k, v'.ownBlock = some k → W.heap.size ≤ k ∧ k < W'.heap.size) : CB w0 W' b lr lt' v' W'.heap.size := by
  obtain ⟨F, h1, h2, h3, h4, h5, h6⟩ := h.now
  have hsz := hb.size
  refine ⟨F, h1.below hb, fun k hk => ⟨(h2 k hk).1, by have := (h2 k hk).2; omega⟩, bT h3 hb, hs, fun k e => ?_, Nat.le_refl _⟩
  rcases hv with rfl | hv
  · exact ⟨(h5 k e).1, by have := (h5 k e).2; omega⟩
  · exact ⟨fun hf => by have := (h2 k hf).2; have := (hv k e).1; omega, (hv k e).2⟩
end
set_option maxHeartbeats 8000000 in
set_option maxRecDepth 100000 in
set_option linter.all false in
theorem CustodyAdds_any (v : Value) (os : List COp) (w : World) (htab : Tab w) (hs : SliceIs w 5 v os.length (opcells os)) :
    Calls Tryd.prog 3 #[v] w fun e w' => e = .returned (.bool true) ∧ Below w.heap.size w w' := by
  have HT := Lib.hid htab
  have HS := Lib.hid hs
  have hl := hs.2.1
  obtain ⟨A, c, rfl⟩ := slice_shape hs
  clear hs htab
  have hll : ∀ W, (Builtin.len_ #[22] 3 #[.slice A os.length c]).run Tryd.prog W = .ok (.int .i64 os.length) W := fun W => by simp [Builtin.len_, run_underlying undOps]; rfl
  go_enter Tryd.func3, Tryd.ntmps3
  go_wp2_with fail
  refine (small_any _ os w HS.out).mono ?_
  rintro e w1 ⟨bb, rfl, b1, hb⟩
  have HB := Lib.hid hb
  clear hb
  cases bb with
  | false =>
    go_wp2_with fail
    refine (awake_any _ (HT.out.on b1)).mono ?_
    rintro e w2 ⟨rfl, b2⟩
    go_wp2_with fail
    go_ret
    exact ⟨rfl, bT b1 b2⟩
  | true =>
    have HOK := Lib.hid (HB.out (by simp)).2
    clear HB
    have B1 := Lib.hid b1
    clear b1
    go_wp2_with fail
    refine (New_live w1).mono ?_
    rintro e w2 ⟨b, rfl, hL⟩
    have HL : Hid (CB w1 w2 b (regL (os.take 0)) (regL (os.take 0)) (.slice none 0 0) w2.heap.size) := Lib.hid (CLive.cb (lt := []) hL ⟨rfl, by simp, .inl ⟨rfl, none, 0, rfl⟩⟩ rfl)
    clear hL
    go_wp2_with fail
    go_loopw [4, 5] (fun u i wr => ∃ k : Nat, k ≤ os.length ∧ i = .int .i64 k ∧ Hid (CB w1 wr b (regL (os.take k)) (regL (os.take k)) u wr.heap.size)) (fun _ i _ => os.length - (intOf i).toNat)
    case atStart => exact ⟨0, Nat.zero_le _, rfl, HL⟩
    case round =>
      obtain ⟨k, hk, rfl, HK⟩ := hrel
      obtain ⟨A4, c4, rfl⟩ := slice_shape HK.out.slice
      have BW := Lib.hid (bT B1.out HK.out.wb)
      by_cases hlt : k < os.length
      · obtain ⟨o, ho⟩ : ∃ o, os[k]? = some o := ⟨_, List.getElem?_eq_getElem hlt⟩
        obtain ⟨g, off, rfl, hc, hg, hcx⟩ := slice_addr HS.out (by omega)
        have d := fun (j : Nat) (u : Value) (h : (opcells os)[j]? = some u) => (BW.out.cell (p := ⟨g, off + j, none⟩) hg).trans (hcx j u h)
        have d0 : wr.cell? ⟨g, off + k * 5, none⟩ = some (.string o.it) := d (k * 5) _ (opcells_at ho (j := 0) (by omega))
        have d1 : wr.cell? ⟨g, off + k * 5 + 1, none⟩ = some (.string o.pa) := d (k * 5 + 1) _ (opcells_at ho (j := 1) (by omega))
        have d2 : wr.cell? ⟨g, off + k * 5 + 2, none⟩ = some (.string o.sp) := d (k * 5 + 2) _ (opcells_at ho (j := 2) (by omega))
        have d3 : wr.cell? ⟨g, off + k * 5 + 3, none⟩ = some (.int .i64 o.t) := d (k * 5 + 3) _ (opcells_at ho (j := 3) (by omega))
        have d4 : wr.cell? ⟨g, off + k * 5 + 4, none⟩ = some (.int .i64 o.vo) := d (k * 5 + 4) _ (opcells_at ho (j := 4) (by omega))
        obtain ⟨s1, s2, s3⟩ := HOK.out k o ho
        have HN := Lib.hid (regL_succ ho)
        have HQ : Hid (o.it.size ≤ 1000 ∧ o.pa.size ≤ 1000 ∧ o.sp.size ≤ 1000) := Lib.hid ⟨by omega, by omega, by omega⟩
        have HKd := Lib.hid (HK.out.below (bA (Below.refl _ wr) (.cells #[.string o.it, .string o.pa, .string o.sp, .int .i64 o.t, .int .i64 o.vo] 29)))
        have HOB := Lib.hid (heap_alloc_new wr (.cells #[.string o.it, .string o.pa, .string o.sp, .int .i64 o.t, .int .i64 o.vo] 29))
        have HAD := Lib.hid (HKd.out.add o.lk rfl (HT.out.on (bT B1.out HKd.out.wb)) HQ.out.1 HQ.out.2.1 HQ.out.2.2)
        have HI := Lib.hid HK.out.inv
        clear d ho hcx s1 s2 s3
        generalize regL (os.take k) = ls at HK HN HKd HAD HI ⊢
        go_wp2_with fail
        refine HAD.out.mono ?_
        rintro e w4 ⟨rfl, hB4, hkeep⟩
        have HB4 := Lib.hid hB4
        have HO4 := Lib.hid ((hkeep wr.heap.size (Nat.le_refl _) (by simp)).trans HOB.out)
        have x0 : w4.cell? ⟨wr.heap.size, 0, none⟩ = some (.string o.it) := cell_of_row _ _ 0 _ _ _ HO4.out
        have x1 : w4.cell? ⟨wr.heap.size, 1, none⟩ = some (.string o.pa) := cell_of_row _ _ 1 _ _ _ HO4.out
        have x2 : w4.cell? ⟨wr.heap.size, 2, none⟩ = some (.string o.sp) := cell_of_row _ _ 2 _ _ _ HO4.out
        have x3 : w4.cell? ⟨wr.heap.size, 3, none⟩ = some (.int .i64 o.t) := cell_of_row _ _ 3 _ _ _ HO4.out
        have x4 : w4.cell? ⟨wr.heap.size, 4, none⟩ = some (.int .i64 o.vo) := cell_of_row _ _ 4 _ _ _ HO4.out
        have HRD := Lib.hid (rAdd_any _ ls o.lk rfl w4 hB4.slice HI.out HQ.out.1 HQ.out.2.1 HQ.out.2.2)
        clear hB4 hkeep d0 d1 d2 d3 d4
        go_wp2_with fail
        refine HRD.out.mono ?_
        rintro e w5 ⟨v5, rfl, hs5, hv5, b5⟩
        have HB5 : Hid (CB w1 w5 b (regL (os.take (k + 1))) (regL (os.take (k + 1))) v5 w5.heap.size) := by
          unfold Hid
          rw [HN.out]
          exact HB4.out.rad b5 hs5 hv5
        obtain ⟨A5, c5, rfl⟩ := slice_shape hs5
        clear hs5 hv5 b5 x0 x1 x2 x3 x4
        generalize (addK ls o.lk).length = n5 at HB5 ⊢
        generalize chkH ls o.lk = hh
        generalize canE ls o.lk = cc
        go_wp2_with fail
        go_roundw
        case rel => exact ⟨k + 1, by omega, by go_num, HB5⟩
        case measure => simp [intOf]; omega
      · obtain rfl : k = os.length := by omega
        generalize regL (os.take os.length) = ls at HK ⊢
        have HLV := Lib.hid HK.out.live
        go_wp2_with fail
        refine HLV.out.links.mono ?_
        rintro e w3 ⟨v3, rfl, hf, b3⟩
        have HS3 := Lib.hid (HK.out.slice.below b3)
        have HF3 := Lib.hid hf.slice
        have B3 := Lib.hid (bT BW.out b3)
        clear hf b3
        go_wp2_with fail
        refine (SameLinks_any _ _ _ _ HF3.out HS3.out).mono ?_
        rintro e w4 ⟨rfl, b4⟩
        have B4 := Lib.hid (bT B3.out b4)
        clear b4
        go_wp2_with fail
        refine (awake_any _ (HT.out.on B4.out)).mono ?_
        rintro e w5 ⟨rfl, b5⟩
        go_wp2_with fail
        go_ret
        exact ⟨rfl, bT B4.out b5⟩
end Go.Proofs.YtmgegffcgmcclaaDoor.Cu
