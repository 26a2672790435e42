/- the reference of permits: Use, walked. -/
import Derived.Test.YtgonghmihghhnaaDoorRf2
import Derived.BigRegion
namespace Go.Proofs.YtgonghmihghhnaaDoor.Pe
open Go.RowKit Go.Proofs.YtgonghmihghhnaaDoor.Id

/-- what the reference's Add and Use return -/
def RNext (G : Nat → Prop) (x : Int) (ps : List Perm) (ls : List Int) (w : World) (e : Ending) (w' : World) : Prop :=
  ∃ v1 v2 G', e = .returned (.tuple #[.agg #[v1, v2], .int .i64 x]) ∧ RReg w' G' v1 v2 ps ls ∧ (∀ k, G' k → G k ∨ w.heap.size ≤ k ∧ k < w'.heap.size) ∧ Below w.heap.size w w'
theorem lcells_at {ls : List Int} {k : Nat} {l : Int} (h : ls[k]? = some l) : (lcells ls)[k]? = some (.int .i64 l) := by simp [lcells, h]
theorem lcells_set (ls : List Int) (k : Nat) (x : Int) : lcells (ls.set k x) = (lcells ls).set k (.int .i64 x) := by simp [lcells]
theorem lcells_one (ls : List Int) : ∀ u ∈ lcells ls, u.oneCell' = true := by
  intro u hu
  obtain ⟨a, _, rfl⟩ := List.mem_map.1 hu
  rfl
theorem bS {w w1 : World} (h : Below w.heap.size w w1) {p : Addr} (hp : w.heap.size ≤ p.block) (u : Value) : Below w.heap.size w (w1.setCell p u) :=
  (Keeps.below ((Keeps.of_below (fun k => w.heap.size ≤ k) h).trans (Keeps.setCell (fun k => w.heap.size ≤ k) w1 hp u) (fun _ h => .inl h)) (fun _ h => h) (Nat.le_refl _))

/-- the two boxes that Add and Use begin with -/
theorem boxes {w w1 : World} {v1 v2 : Value} (h : Below ((w.alloc (.cells #[v1, v2] 48)).alloc (.cells #[.slice none 0 0, .slice none 0 0] 48)).heap.size ((w.alloc (.cells #[v1, v2] 48)).alloc (.cells #[.slice none 0 0, .slice none 0 0] 48)) w1) :
    (w1.heap[w.heap.size]? = some (.cells #[v1, v2] 48 (0, 0)) ∧ w1.heap[w.heap.size + 1]? = some (.cells #[.slice none 0 0, .slice none 0 0] 48 (0, 0))) := by
  constructor
  · refine (h.block w.heap.size (by simp; omega)).trans ((heap_alloc_old _ _ (by simp)).trans (heap_alloc_new w _))
  · have e := heap_alloc_new (w.alloc (.cells #[v1, v2] 48)) (.cells #[.slice none 0 0, .slice none 0 0] 48)
    simp only [World.alloc, Array.size_push] at e
    exact (h.block (w.heap.size + 1) (by simp)).trans e
theorem cell_up {w1 : World} {a : Addr} {x : Value} (h : w1.cell? a = some x) (hb : a.block < w1.heap.size) (o : Obj) : (w1.alloc o).cell? a = some x := (World.cell?_of_block (heap_alloc_old w1 o hb)).trans h
theorem frozen_up {w1 : World} {a : Addr} {x : Bool} (h : w1.frozen? a = x) (hb : a.block < w1.heap.size) (o : Obj) : (w1.alloc o).frozen? a = x := (World.frozen?_of_block (heap_alloc_old w1 o hb)).trans h
theorem boxes_size {w w1 : World} {a b : Obj} (h : Below ((w.alloc a).alloc b).heap.size ((w.alloc a).alloc b) w1) : w.heap.size + 2 ≤ w1.heap.size := by
  have := h.size
  simp only [World.alloc, Array.size_push] at this
  exact this
theorem two_cells {w1 : World} {g : Nat} {v1 v2 : Value} {t : TypeId} (h : w1.heap[g]? = some (.cells #[v1, v2] t (0, 0))) : w1.cell? ⟨g, 0, none⟩ = some v1 ∧ w1.cell? ⟨g, 1, none⟩ = some v2 ∧ w1.frozen? ⟨g, 0, none⟩ = false ∧ w1.frozen? ⟨g, 1, none⟩ = false :=
  ⟨by rw [cell_of_row _ _ _ _ _ _ h]; rfl, by rw [cell_of_row _ _ _ _ _ _ h]; rfl, frozen_of_row _ _ _ _ _ h, frozen_of_row _ _ _ _ _ h⟩

theorem slice_shape {W : World} {sz n : Nat} {v : Value} {xs : List Value} (h : SliceIs W sz v n xs) : ∃ A c, v = .slice A n c := by
  rcases h.2.2 with ⟨rfl, A, c, rfl⟩ | ⟨g, off, c, rfl, _⟩
  · exact ⟨A, c, rfl⟩
  · exact ⟨_, c, rfl⟩
theorem put_two {w1 : World} {g : Nat} {a b : Value} {t : TypeId} (h : w1.heap[g]? = some (.cells #[a, b] t (0, 0))) (u1 u2 : Value) : ((w1.setCell ⟨g, 0, none⟩ u1).setCell ⟨g, 1, none⟩ u2).heap[g]? = some (.cells #[u1, u2] t (0, 0)) := by
  rw [heap_setCell_same _ g 1 _ _ _ (heap_setCell_same w1 g 0 _ _ u1 h)]; rfl
theorem results_reg {fn : Func} {a u g : Nat} {tmps : Array Value} {W : World} {u1 u2 : Value} (h : fn.results = #[.cell a 48, .tmp u]) (ha : tmps.getD a undef = .pointer (some ⟨g, 0, none⟩)) (hw : W.heap[g]? = some (.cells #[u1, u2] 48 (0, 0))) :
    (results fn tmps).run Tryd.prog W = .ok (.tuple #[.agg #[u1, u2], tmps.getD u undef]) W := by
  obtain ⟨q0, q1, _⟩ := two_cells hw
  have hl : (loadVar 48 ⟨g, 0, none⟩).run Tryd.prog W = .ok (.agg #[u1, u2]) W := by
    simp [loadVar, go_sem, q0, q1]
  simp only [Array.getD_eq_getD_getElem?] at ha
  simp [results, h, hl, ha, asAddr]
theorem use_end {w3 : World} {g9 g base n cap : Nat} {a b : Value} {t : TypeId} {xs : List Value} (hlt : g9 < g) (hr : w3.heap[g9]? = some (.cells #[a, b] t (0, 0))) (ho : w3.ownsRow base 3 1 (.slice (some ⟨g, 0, none⟩) n cap) n xs) (k : Nat) (x : Value) (hne : g9 ≠ g := by omega) :
    ((w3.setCell ⟨g9, 1, none⟩ (.slice (some ⟨g, 0, none⟩) n cap)).setCell ⟨g, k, none⟩ x).drew.heap[g9]? = some (.cells #[a, .slice (some ⟨g, 0, none⟩) n cap] t (0, 0)) ∧
    ((w3.setCell ⟨g9, 1, none⟩ (.slice (some ⟨g, 0, none⟩) n cap)).setCell ⟨g, k, none⟩ x).drew.ownsRow base 3 1 (.slice (some ⟨g, 0, none⟩) n cap) n (xs.set k x) ∧
    (∀ i, i < g9 → ((w3.setCell ⟨g9, 1, none⟩ (.slice (some ⟨g, 0, none⟩) n cap)).setCell ⟨g, k, none⟩ x).drew.heap[i]? = w3.heap[i]?) ∧
    Below g9 w3 ((w3.setCell ⟨g9, 1, none⟩ (.slice (some ⟨g, 0, none⟩) n cap)).setCell ⟨g, k, none⟩ x).drew := by
  have h1 : (w3.setCell ⟨g9, 1, none⟩ (.slice (some ⟨g, 0, none⟩) n cap)).heap[g9]? = some (.cells #[a, .slice (some ⟨g, 0, none⟩) n cap] t (0, 0)) := by
    rw [heap_setCell_same w3 g9 1 _ _ _ hr]; rfl
  have h2 : (w3.setCell ⟨g9, 1, none⟩ (.slice (some ⟨g, 0, none⟩) n cap)).ownsRow base 3 1 (.slice (some ⟨g, 0, none⟩) n cap) n xs :=
    own_keep ho (fun i e _ => heap_setCell_other w3 _ _ _ (fun e2 => by
      have e1 : g = i := by simpa [Value.ownBlock] using e
      have e3 : i = g9 := e2
      omega))
  have hb : ∀ i, i < g9 → ((w3.setCell ⟨g9, 1, none⟩ (.slice (some ⟨g, 0, none⟩) n cap)).setCell ⟨g, k, none⟩ x).drew.heap[i]? = w3.heap[i]? := fun i hi =>
    (heap_setCell_other _ ⟨g, k, none⟩ i _ (by show i ≠ g; omega)).trans (heap_setCell_other _ ⟨g9, 1, none⟩ i _ (by show i ≠ g9; omega))
  exact ⟨(heap_setCell_other _ ⟨g, k, none⟩ g9 _ hne).trans h1, (h2.stored k x).1, hb, ⟨rfl, rfl, rfl, by simp, hb⟩⟩
theorem RNext.same {G : Nat → Prop} {x : Int} {v1 v2 : Value} {ps : List Perm} {ls : List Int} {w w' : World} {e : Ending} (he : e = .returned (.tuple #[.agg #[v1, v2], .int .i64 x])) (h : RReg w G v1 v2 ps ls) (hb : Below w.heap.size w w') : RNext G x ps ls w e w' :=
  ⟨v1, v2, G, he, h.below hb, fun _ h => .inl h, hb⟩

set_option maxHeartbeats 4000000 in
set_option maxRecDepth 100000 in
theorem rUse_any (G : Nat → Prop) (v1 v2 : Value) (ps : List Perm) (ls : List Int) (s : ByteArray) (v : Int) (w : World) (hR : RReg w G v1 v2 ps ls) :
    Calls Tryd.prog 22 #[.agg #[v1, v2], .string s, .int .i64 v] w (RNext G (useE ps ls s v) ps (useL ps ls s v) w) := by
  obtain ⟨A1, c1, rfl⟩ := slice_shape hR.1
  obtain ⟨A2, c2, rfl⟩ := slice_shape hR.2.1
  have HR := Lib.hid hR
  clear hR
  have HW := Lib.hid (bA (bA (Below.refl w.heap.size w) (.cells #[.slice A1 ps.length c1, .slice A2 ls.length c2] 48)) (.cells #[.slice none 0 0, .slice none 0 0] 48))
  have c := rfind_any (.slice A1 ps.length c1) (.slice A2 ls.length c2) ps s _ (HR.out.1.below HW.out)
  have hres := Lib.hid (show Tryd.f22.results = #[.cell 6 48, .tmp 7] from rfl)
  rcases findI_cases ps s with ⟨h1, _⟩ | ⟨k, p, hp, h1, h2, _⟩
  · rw [h1] at c
    have HC := Lib.hid c
    have e0 : useE ps ls s v = 8 := by simp [useE, h1]
    rw [show useL ps ls s v = ls by simp [useL, e0], e0]
    clear c h1 e0
    go_enter Tryd.func22, Tryd.ntmps22
    go_wp2_with fail
    refine HC.out.mono ?_
    rintro e w1 ⟨rfl, b1⟩
    obtain ⟨x1, x2⟩ := boxes b1
    obtain ⟨y1, y2, y3, y4⟩ := two_cells x1
    obtain ⟨z1, z2, z3, z4⟩ := two_cells x2
    clear x1 y3 y4
    have X2 := Lib.hid x2
    clear x2
    go_wp2_with fail
    refine bodyPost_ret (results_reg hres.out rfl (put_two X2.out _ _)) rfl ?_
    exact RNext.same rfl HR.out (bS (bS (bT HW.out b1) (by simp) _) (by simp) _)
  · rw [h1] at c
    have HC := Lib.hid c
    obtain ⟨g1, o1, c1', g2, o2, c2', l, e1, e2, q1, q2, hl, hk, hk2, hn, hn2, d1, d2, d3, d4⟩ := HR.out.cells hp
    obtain ⟨l', hl', hl0, hl1, hl2⟩ := HR.out.2.2.1.left hp
    rw [hl] at hl'
    obtain rfl := Option.some.inj hl'
    simp only [Value.slice.injEq, true_and] at e1 e2
    obtain ⟨rfl, rfl⟩ := e1
    obtain ⟨rfl, rfl⟩ := e2
    have HE := useE_at (v := v) h1 hl
    have HL := fun he => useL_at (v := v) h1 hl he
    have HI := HR.out.2.2.1.use s v
    have HD := Lib.hid d4
    have HLL := Lib.hid hl
    clear d1 d2 d3 d4 hl' hl h2 c
    by_cases t1 : v < 1 ∨ 1125899906842624 < v
    · rw [if_pos t1] at HE
      rw [show useL ps ls s v = ls by simp [useL, HE], HE]
      clear HE HL HI h1 hp
      by_cases t2 : v < 1
      · clear t1
        go_enter Tryd.func22, Tryd.ntmps22
        go_wp2_with fail
        refine HC.out.mono ?_
        rintro e w1 ⟨rfl, b1⟩
        obtain ⟨x1, x2⟩ := boxes b1
        obtain ⟨y1, y2, y3, y4⟩ := two_cells x1
        obtain ⟨z1, z2, z3, z4⟩ := two_cells x2
        clear x1 y3 y4
        have X2 := Lib.hid x2
        clear x2
        go_wp2_with fail
        refine bodyPost_ret (results_reg hres.out rfl (put_two X2.out _ _)) rfl ?_
        exact RNext.same rfl HR.out (bS (bS (bT HW.out b1) (by simp) _) (by simp) _)
      · have t3 : 1125899906842624 < v := by omega
        clear t1
        go_enter Tryd.func22, Tryd.ntmps22
        go_wp2_with fail
        refine HC.out.mono ?_
        rintro e w1 ⟨rfl, b1⟩
        obtain ⟨x1, x2⟩ := boxes b1
        obtain ⟨y1, y2, y3, y4⟩ := two_cells x1
        obtain ⟨z1, z2, z3, z4⟩ := two_cells x2
        clear x1 y3 y4
        have X2 := Lib.hid x2
        clear x2
        go_wp2_with fail
        refine bodyPost_ret (results_reg hres.out rfl (put_two X2.out _ _)) rfl ?_
        exact RNext.same rfl HR.out (bS (bS (bT HW.out b1) (by simp) _) (by simp) _)
    · rw [if_neg t1] at HE
      have t2 : 1 ≤ v := by omega
      have t3 : v ≤ 1125899906842624 := by omega
      clear t1
      by_cases t4 : l < v
      · rw [if_pos t4] at HE
        rw [show useL ps ls s v = ls by simp [useL, HE], HE]
        clear HE HL HI h1 hp
        go_enter Tryd.func22, Tryd.ntmps22
        go_wp2_with fail
        refine HC.out.mono ?_
        rintro e w1 ⟨rfl, b1⟩
        obtain ⟨x1, x2⟩ := boxes b1
        obtain ⟨y1, y2, y3, y4⟩ := two_cells x1
        obtain ⟨z1, z2, z3, z4⟩ := two_cells x2
        clear x1 y3 y4
        have X2 := Lib.hid x2
        clear x2
        have d4 := ((bT HW.out b1).cell (p := ⟨g2, o2 + k, none⟩) q2).trans HD.out
        go_wp2_with fail
        refine bodyPost_ret (results_reg hres.out rfl (put_two X2.out _ _)) rfl ?_
        exact RNext.same rfl HR.out (bS (bS (bT HW.out b1) (by simp) _) (by simp) _)
      · rw [if_neg t4] at HE
        rw [HL HE] at HI ⊢
        rw [HE]
        have HI := Lib.hid HI
        clear HE HL h1 hp
        go_enter Tryd.func22, Tryd.ntmps22
        go_wp2_with fail
        refine HC.out.mono ?_
        rintro e w1 ⟨rfl, b1⟩
        obtain ⟨x1, x2⟩ := boxes b1
        obtain ⟨y1, y2, y3, y4⟩ := two_cells x1
        obtain ⟨z1, z2, z3, z4⟩ := two_cells x2
        clear x1 y3 y4
        have X2 := Lib.hid x2
        clear x2
        have d4 := ((bT HW.out b1).cell (p := ⟨g2, o2 + k, none⟩) q2).trans HD.out
        have hs := boxes_size b1
        obtain ⟨i1, hi1, hy0, hy1, hy2⟩ := info_parts infoInt
        have t4' : decide (l < v) = false := by simp; omega
        have y1' := cell_up y1 (by show w.heap.size < _; omega)
        have y2' := cell_up y2 (by show w.heap.size < _; omega)
        go_wp2_with (at_builtin; refine wpList_append_src _ rfl (.tmp 35) (.tmp 37) 46 (by rfl) w.heap.size 3 i1 _ 1 8 undInts hi1 hy0 hy1 hy2 rfl (by omega) (.slice none 0 0) 0 [] (by rfl) (World.ownsRow_nil _ _ _ _) (.slice (some ⟨g2, o2, none⟩) ls.length c2) ls.length (lcells ls) (by rfl) (HR.out.2.1.below (by repeat (first | exact bT HW.out b1 | refine bS ?_ (by first | omega | (simp; omega)) _ | apply bA))) (lcells_one ls) (by unfold maxLen; omega) (by omega) (by first | omega | (simp; omega)) ?_)
        intro v' w3 hown hgrow hat
        obtain ⟨g, cap, rfl, hbg, hgl⟩ := hown.form (by omega)
        obtain rfl : g = w1.heap.size + 1 := by
          simp only [Value.ownBlock, Option.some.injEq, reduceCtorEq, false_or] at hat
          exact hat
        have r9 := (hgrow.block w1.heap.size (by simp only [World.alloc, Array.size_push]; exact Nat.lt_succ_self _) (by simp only [Value.ownBlock]; exact fun e => nomatch e)).trans (heap_alloc_new w1 _)
        have b13 : Below w1.heap.size w1 w3 := below_of_grown (bA (Below.refl _ _) _) hgrow (fun k h => nomatch h)
        obtain ⟨n1, n2, n3, n4⟩ := two_cells r9
        have m1 : w3.cell? ⟨w1.heap.size + 1, k, none⟩ = some (.int .i64 l) := (hown.cellAt k (by omega)).trans (lcells_at HLL.out)
        have m2 := hown.frozenAt k
        have R9 := Lib.hid r9
        have HO := Lib.hid hown
        have HB := Lib.hid b13
        clear r9 b13 hown hgrow hat n3
        go_wp2
        go_region
        have HE := Lib.hid (use_end (Nat.lt_succ_self _) R9.out HO.out k (.int .i64 (l - v)))
        generalize ((w3.setCell ⟨w1.heap.size, 1, none⟩ (.slice (some ⟨w1.heap.size + 1, 0, none⟩) ls.length cap)).setCell ⟨w1.heap.size + 1, k, none⟩ (.int .i64 (l - v))).drew = w5 at HE ⊢
        have r5 : w5.heap[w.heap.size + 1]? = some (.cells #[.slice none 0 0, .slice none 0 0] 48 (0, 0)) := (HE.out.2.2.1 _ (by omega)).trans ((HB.out.block _ (by omega)).trans X2.out)
        obtain ⟨j1, j2, j3, j4⟩ := two_cells r5
        obtain ⟨k1, k2, k3, k4⟩ := two_cells HE.out.1
        have R5 := Lib.hid r5
        clear r5 n1 n2 n4 m1 m2
        go_wp2_with fail
        refine bodyPost_ret (results_reg hres.out rfl (put_two R5.out _ _)) rfl ?_
        have hb5 : Below w.heap.size w w5 := (bT HW.out b1).trans ((HB.out.trans HE.out.2.2.2).mono (by omega))
        have hb6 := bS (bS hb5 (p := ⟨w.heap.size + 1, 0, none⟩) (by show w.heap.size ≤ w.heap.size + 1; omega) (.slice (some ⟨g1, o1, none⟩) ps.length c1)) (p := ⟨w.heap.size + 1, 1, none⟩) (by show w.heap.size ≤ w.heap.size + 1; omega) (.slice (some ⟨w1.heap.size + 1, 0, none⟩) ls.length cap)
        have hlen : (ls.set k (l - v)).length = ls.length := List.length_set
        refine ⟨_, _, fun i => G i ∨ i = w1.heap.size + 1, rfl, ⟨HR.out.1.below hb6, ?_, HI.out, fun i e => .inl (HR.out.2.2.2.1 i e), fun i e => ?_⟩, fun i h => ?_, hb6⟩
        · rw [hlen, lcells_set]
          refine SliceIs.of_own (own_keep HE.out.2.1 (fun i e _ => ?_))
          obtain rfl : w1.heap.size + 1 = i := by simpa [Value.ownBlock] using e
          rw [heap_setCell_other _ _ _ _ (by show w1.heap.size + 1 ≠ w.heap.size + 1; omega), heap_setCell_other _ _ _ _ (by show w1.heap.size + 1 ≠ w.heap.size + 1; omega)]
        · right; simpa [Value.ownBlock] using e.symm
        · rcases h with h | h
          · exact .inl h
          · refine .inr ⟨by omega, ?_⟩
            subst h
            have := own_block_lt HE.out.2.1 _ rfl
            simpa [World.setCell] using this
end Go.Proofs.YtgonghmihghhnaaDoor.Pe
