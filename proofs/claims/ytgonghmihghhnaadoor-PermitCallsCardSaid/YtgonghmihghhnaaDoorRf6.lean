/- the reference of permits: Add, walked: acceptance. -/
import Derived.Test.YtgonghmihghhnaaDoorRf5
namespace Go.Proofs.YtgonghmihghhnaaDoor.Pe
open Go.RowKit Go.Proofs.YtgonghmihghhnaaDoor.Id

set_option maxHeartbeats 8000000 in
set_option maxRecDepth 100000 in
theorem rAdd_ok (G : Nat → Prop) (v1 v2 : Value) (ps : List Perm) (ls : List Int) (p : Perm) (w : World) (hR : RReg w G v1 v2 ps ls) (hs1 : p.pid.size ≤ 140737488355328) (hs2 : p.psp.size ≤ 140737488355328) (he : addE ps p = 0) :
    Calls Tryd.prog 20 #[.agg #[v1, v2], p.val] w (RNext G 0 (ps ++ [p]) (ls ++ [p.pqu]) w) := by
  have HI : Hid (Inv (ps ++ [p]) (ls ++ [p.pqu])) := by
    have := hR.2.2.1.add p
    rw [addP, addL, if_pos he, if_pos he] at this
    exact this
  obtain ⟨A1, c1, rfl⟩ := slice_shape hR.1
  obtain ⟨A2, c2, rfl⟩ := slice_shape hR.2.1
  have HR := Lib.hid hR
  clear hR
  have hres := Lib.hid (show Tryd.f20.results = #[.cell 4 48, .tmp 5] from rfl)
  unfold Perm.val
  obtain ⟨q1, q2, q3, t1, t2, t3, r1, r2, r3⟩ : isB p.pid.data.toList 80 = true ∧ nameB p.psp.data.toList = true ∧ findI ps p.pid < 0 ∧ 0 ≤ p.pfr ∧ p.pun ≤ 10000000 ∧ p.pfr < p.pun ∧ 1 ≤ p.pqu ∧ p.pqu ≤ 1125899906842624 ∧ ps.length < 16 := by
    unfold addE at he
    split at he
    · omega
    rename_i h1
    split at he
    · omega
    split at he
    · omega
    split at he
    · omega
    split at he
    · omega
    simp only [not_or, Bool.not_eq_false] at h1
    exact ⟨h1.1, h1.2, by omega, by omega, by omega, by omega, by omega, by omega, by omega⟩
  have q3' : decide (0 ≤ findI ps p.pid) = false := by simp; omega
  have t1' : decide (p.pfr < 0) = false := by simp; omega
  have t2' : decide (10000000 < p.pun) = false := by simp; omega
  have t3' : decide (p.pun ≤ p.pfr) = false := by simp; omega
  have r1' : decide (p.pqu < 1) = false := by simp; omega
  have r2' : decide (1125899906842624 < p.pqu) = false := by simp; omega
  have r3' : decide ((16 : Int) ≤ ps.length) = false := by simp; omega
  have hll : ls.length < 16 := by have := HR.out.2.2.1.1; omega
  have hE := Lib.hid he
  clear he
  obtain ⟨i0, hi, hz0, hz1, hz2⟩ := info_parts infoPermit
  obtain ⟨i1, hi1, hy0, hy1, hy2⟩ := info_parts infoInt
  go_enter Tryd.func20, Tryd.ntmps20
  go_wp2_with fail
  refine (rIs_any _ _ _ hs1).mono ?_
  rintro e w1 ⟨rfl, b1⟩
  have B1 := boxes3 b1
  obtain ⟨y1, y2, _⟩ := two_cells B1.1
  obtain ⟨z1, z2, z3, z4⟩ := two_cells B1.2.2.1
  obtain ⟨x0, x1, x2, x3, x4⟩ := perm_cells (p := p) B1.2.1
  have hB1 := Lib.hid B1
  clear B1
  go_wp2_with fail
  refine (rIsName_any _ _ hs2).mono ?_
  rintro e w2 ⟨rfl, rfl⟩
  go_wp2_with fail
  refine (rfind_any _ _ ps _ _ (HR.out.1.below hB1.out.2.2.2.2)).mono ?_
  rintro e w2 ⟨rfl, b2⟩
  have B2 := boxes3 (bT b1 b2)
  obtain ⟨Y1, Y2, _⟩ := two_cells B2.1
  obtain ⟨Z1, Z2, Z3, Z4⟩ := two_cells B2.2.2.1
  obtain ⟨X0, X1, X2, X3, X4⟩ := perm_cells (p := p) B2.2.1
  have hB2 := Lib.hid B2
  clear B2
  have St2 := Lib.hid (rows3 (p := p) hB2.out)
  obtain ⟨u1, u2⟩ := St2.out.base
  obtain ⟨U0, U1, U2, U3, U4⟩ := St2.out.perm
  go_wp2_with (at_builtin; refine wpList_append_src _ rfl (.tmp 55) (.tmp 57) 45 (by rfl) w.heap.size 50 i0 _ 5 56 undPermits hi hz0 hz1 hz2 rfl (by omega) (.slice none 0 0) 0 [] (by rfl) (World.ownsRow_nil _ _ _ _) (.slice A1 ps.length c1) ps.length (pcells ps) (by rfl) (HR.out.1.below St2.out.below) (pcells_one ps) (by unfold maxLen; omega) (by omega) St2.out.below.size ?_)
  intro v3 w3 own3 grow3 hat3
  have H3 : ∀ k, v3.ownBlock = some k → w2.heap.size < k := fun k e => by
    rcases hat3 with h | h
    · rw [h] at e; exact nomatch e
    · rw [h] at e; have := Option.some.inj e; omega
  obtain ⟨A3, c3, rfl⟩ := own_shape own3
  have St3 := Lib.hid (St2.out.grown (Below.refl _ _) grow3 (fun k h => nomatch h))
  have St3p := Lib.hid (St3.out.put0 (.slice A3 ps.length c3))
  have O3 := Lib.hid (own_set own3 H3 0 (.slice A3 ps.length c3))
  have HH3 := Lib.hid H3
  obtain ⟨m1, m2, m3, m4⟩ := two_cells St3.out.r9
  obtain ⟨n1, n2, n3, n4⟩ := two_cells St3p.out.r9
  obtain ⟨V0, V1, V2, V3, V4⟩ := St3p.out.perm
  clear own3 grow3 hat3 H3 m4
  go_wp2_with (at_builtin; refine wpList_append_own_at _ rfl (.tmp 61) (.tmp 63) 45 (by rfl) w.heap.size 50 i0 _ 5 56 undPermits hi hz0 hz1 hz2 rfl (by omega) (.slice A3 ps.length c3) ps.length (pcells ps) (by rfl) (own_below O3.out (bA (Below.refl _ _) _)) ⟨w3.heap.size, 0, none⟩ 1 1 p.cells (by rfl) rfl (World.news_of_block (heap_new' (size_set w3 _ _) _)) (perm_one p) (by unfold maxLen; omega) (by omega) (bA St3p.out.below _).size ?_)
  intro v4 w4 own4 grow4 _ hat4
  have hsz3 := (Array.getElem?_eq_some_iff.1 St3.out.r9).1
  have H4 : ∀ k, v4.ownBlock = some k → w2.heap.size < k := fun k e => by
    rcases hat4 with h | h
    · rw [h] at e; exact HH3.out k e
    · rw [h] at e; have := Option.some.inj e; omega
  obtain ⟨A4, c4, rfl⟩ := own_shape own4
  have St4 := Lib.hid (St3p.out.grown (bA (Below.refl _ _) _) grow4 (fun k h => HH3.out k h))
  have St4p := Lib.hid (St4.out.put0 (.slice A4 (ps.length + 1) c4))
  have O4 := Lib.hid (own_set own4 H4 0 (.slice A4 (ps.length + 1) c4))
  have HH4 := Lib.hid H4
  obtain ⟨m1', m2', m3', m4'⟩ := two_cells St4.out.r9
  obtain ⟨n1', n2', n3', n4'⟩ := two_cells St4p.out.r9
  obtain ⟨u1', u2'⟩ := St4p.out.base
  have hsz4 := (Array.getElem?_eq_some_iff.1 St4.out.r9).1
  clear own4 grow4 hat4 H4 m4' V0 V1 V2 V3 V4 n1 n2 n3 n4 m1 m2 m3
  go_wp2_with (at_builtin; refine wpList_append_src _ rfl (.tmp 67) (.tmp 69) 46 (by rfl) w.heap.size 3 i1 _ 1 8 undInts hi1 hy0 hy1 hy2 rfl (by omega) (.slice none 0 0) 0 [] (by rfl) (World.ownsRow_nil _ _ _ _) (.slice A2 ls.length c2) ls.length (lcells ls) (by rfl) (HR.out.2.1.below St4p.out.below) (lcells_one ls) (by unfold maxLen; omega) (by omega) St4p.out.below.size ?_)
  intro v5 w5 own5 grow5 hat5
  have H5 : ∀ k, v5.ownBlock = some k → w2.heap.size < k := fun k e => by
    rcases hat5 with h | h
    · rw [h] at e; exact nomatch e
    · rw [h] at e; have := Option.some.inj e; omega
  obtain ⟨A5, c5, rfl⟩ := own_shape own5
  have St5 := Lib.hid (St4p.out.grown (Below.refl _ _) grow5 (fun k h => nomatch h))
  have St5p := Lib.hid (St5.out.put1 (.slice A5 ls.length c5))
  have O5 := Lib.hid (own_set own5 H5 1 (.slice A5 ls.length c5))
  have O45 := Lib.hid (own_set (own_grow O4.out grow5 (fun k _ => fun e => nomatch e)) HH4.out 1 (.slice A5 ls.length c5))
  have HH5 := Lib.hid H5
  obtain ⟨m1, m2, m3, m4⟩ := two_cells St5.out.r9
  obtain ⟨n1, n2, n3, n4⟩ := two_cells St5p.out.r9
  obtain ⟨V0, V1, V2, V3, V4⟩ := St5p.out.perm
  have hsz5 := (Array.getElem?_eq_some_iff.1 St5.out.r9).1
  clear own5 grow5 hat5 H5 m1' m2' m3' n1' n2' n3' n4' u1' u2'
  go_wp2_with (at_builtin; refine wpList_append_own_at _ rfl (.tmp 73) (.tmp 76) 46 (by rfl) w.heap.size 3 i1 _ 1 8 undInts hi1 hy0 hy1 hy2 rfl (by omega) (.slice A5 ls.length c5) ls.length (lcells ls) (by rfl) (own_below O5.out (bA (Below.refl _ _) _)) ⟨w5.heap.size, 0, none⟩ 1 1 [.int .i64 p.pqu] (by rfl) rfl (World.news_of_block (heap_new' (size_set w5 _ _) _)) (by intro u hu; simp at hu; subst hu; rfl) (by unfold maxLen; omega) (by omega) (bA St5p.out.below _).size ?_)
  intro v6 w6 own6 grow6 _ hat6
  have H6 : ∀ k, v6.ownBlock = some k → w2.heap.size < k := fun k e => by
    rcases hat6 with h | h
    · rw [h] at e; exact HH5.out k e
    · rw [h] at e; have := Option.some.inj e; omega
  obtain ⟨A6, c6, rfl⟩ := own_shape own6
  have St6 := Lib.hid (St5p.out.grown (bA (Below.refl _ _) _) grow6 (fun k h => HH5.out k h))
  have St6p := Lib.hid (St6.out.put1 (.slice A6 (ls.length + 1) c6))
  have O6 := Lib.hid (own_set own6 H6 1 (.slice A6 (ls.length + 1) c6))
  have O46 := Lib.hid (own_set (own_grow (own_below O45.out (bA (Below.refl _ _) _)) grow6 (fun k e1 e2 => own_apart O45.out O5.out (by decide) k e1 e2)) HH4.out 1 (.slice A6 (ls.length + 1) c6))
  have HH6 := Lib.hid H6
  obtain ⟨m1', m2', m3', m4'⟩ := two_cells St6.out.r9
  obtain ⟨n1', n2', n3', n4'⟩ := two_cells St6p.out.r9
  obtain ⟨Z1', Z2', Z3', Z4'⟩ := two_cells St6p.out.r2
  clear own6 grow6 hat6 H6 m1 m2 m3 m4 n1 n2 n3 n4 V0 V1 V2 V3 V4
  go_wp2_with fail
  refine bodyPost_ret (results_reg hres.out rfl (put_two St6p.out.r2 _ _)) rfl ?_
  have lt := hB2.out.2.2.2.1
  have hb := bS (bS St6p.out.below (p := ⟨w.heap.size + 2, 0, none⟩) (Nat.le_add_right _ _) (.slice A4 (ps.length + 1) c4)) (p := ⟨w.heap.size + 2, 1, none⟩) (Nat.le_add_right _ _) (.slice A6 (ls.length + 1) c6)
  have fin : ∀ {e : TypeId} {sz n : Nat} {v : Value} {xs : List Value}, (w6.setCell ⟨w2.heap.size, 1, none⟩ (.slice A6 (ls.length + 1) c6)).ownsRow w.heap.size e sz v n xs → (∀ k, v.ownBlock = some k → w2.heap.size < k) →
      (((w6.setCell ⟨w2.heap.size, 1, none⟩ (.slice A6 (ls.length + 1) c6)).setCell ⟨w.heap.size + 2, 0, none⟩ (.slice A4 (ps.length + 1) c4)).setCell ⟨w.heap.size + 2, 1, none⟩ (.slice A6 (ls.length + 1) c6)).ownsRow w.heap.size e sz v n xs := fun ho hv =>
    own_set (own_set ho (fun k e => by have := hv k e; omega) 0 _) (fun k e => by have := hv k e; omega) 1 _
  refine ⟨_, _, _, rfl, ⟨?_, ?_, HI.out, fun k e => .inr ⟨?_, own_block_lt (fin O46.out HH4.out) k e⟩, fun k e => .inr ⟨?_, own_block_lt (fin O6.out HH6.out) k e⟩⟩, fun _ h => h, hb⟩
  · rw [pcells_snoc, show (ps ++ [p]).length = ps.length + 1 by simp]
    exact SliceIs.of_own (fin O46.out HH4.out)
  · rw [show lcells (ls ++ [p.pqu]) = lcells ls ++ [.int .i64 p.pqu] by simp [lcells], show (ls ++ [p.pqu]).length = ls.length + 1 by simp]
    exact SliceIs.of_own (fin O6.out HH6.out)
  · have := HH4.out k e; omega
  · have := HH6.out k e; omega
theorem rAdd_any (G : Nat → Prop) (v1 v2 : Value) (ps : List Perm) (ls : List Int) (p : Perm) (w : World) (hR : RReg w G v1 v2 ps ls) (hs1 : p.pid.size ≤ 140737488355328) (hs2 : p.psp.size ≤ 140737488355328) :
    Calls Tryd.prog 20 #[.agg #[v1, v2], p.val] w (RNext G (addE ps p) (addP ps p) (addL ps ls p) w) := by
  by_cases he : addE ps p = 0
  · rw [addP, addL, if_pos he, if_pos he, he]
    exact rAdd_ok G v1 v2 ps ls p w hR hs1 hs2 he
  · obtain ⟨e1, e2⟩ := addE_bad (ls := ls) rfl he
    rw [e1, e2]
    exact rAdd_bad G v1 v2 ps ls p w hR hs1 hs2 _ he rfl
end Go.Proofs.YtgonghmihghhnaaDoor.Pe
