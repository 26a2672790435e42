/- the law PermitTwice, walked. -/
import Derived.Test.YtgonghmihghhnaaDoorPl7
import Derived.Deep.RegionHeld3
namespace Go.Proofs.YtgonghmihghhnaaDoor.Pe
open Go.RowKit Go.Proofs.YtgonghmihghhnaaDoor.Id

theorem Both.box {w W : World} {a b g : Nat} {ps : List Perm} {la lb : List Int} {x y : Value} {t : TypeId} (h : Both w W a b ps la lb g (.cells #[x, y] t)) : W.cell? ⟨g, 0, none⟩ = some x ∧ W.cell? ⟨g, 1, none⟩ = some y := by
  obtain ⟨_, _, _, _, _, _, _, _, _, _, h⟩ := h
  exact ⟨(two_cells h).1, (two_cells h).2.1⟩
/-- two volumes one after the other, and their sum -/
theorem twice_plain {ps : List Perm} {ls : List Int} (hI : Inv ps ls) (s : ByteArray) {n0 n1 : Int} (a0 : 1 ≤ n0) (a1 : 1 ≤ n1) (a2 : n0 ≤ 562949953421312) (a3 : n1 ≤ 562949953421312) :
    (leftB ps s = false ∧ useE ps ls s n0 = 8 ∧ useE ps (useL ps ls s n0) s n1 = 8 ∧ useE ps ls s (n0 + n1) = 8) ∨
    ∃ l, leftB ps s = true ∧ leftN ps ls s = l ∧ 0 ≤ l ∧ l ≤ 1125899906842624 ∧
      ((n0 + n1 ≤ l ∧ useE ps ls s n0 = 0 ∧ useE ps (useL ps ls s n0) s n1 = 0 ∧ useE ps ls s (n0 + n1) = 0 ∧ leftN ps (useL ps (useL ps ls s n0) s n1) s = l - n0 - n1 ∧ leftN ps (useL ps ls s (n0 + n1)) s = l - n0 - n1) ∨
       (l < n0 + n1 ∧ useE ps ls s (n0 + n1) = 23 ∧ leftN ps (useL ps ls s (n0 + n1)) s = l ∧
        ((useE ps ls s n0 = 23 ∧ (useE ps (useL ps ls s n0) s n1 = 23 ∨ useE ps (useL ps ls s n0) s n1 = 0)) ∨ (useE ps ls s n0 = 0 ∧ useE ps (useL ps ls s n0) s n1 = 23)))) := by
  rcases findI_cases ps s with ⟨f, _⟩ | ⟨k, p, hp, f, _, _⟩
  · have c := fun x y => twice_none f x y
    exact Or.inl ⟨(c ls 0).2.2, (c ls n0).1, (c _ n1).1, (c ls _).1⟩
  · obtain ⟨l, hl, h0, h1, h2⟩ := hI.left hp
    refine Or.inr ⟨l, by simp [leftB, f], leftN_at f hl, h0, by omega, ?_⟩
    by_cases hc : n0 + n1 ≤ l
    · obtain ⟨u1, u2, u3⟩ := use_yes (v := n0) f hl a0 (by omega) (by omega)
      obtain ⟨v1, v2, v3⟩ := use_yes (v := n1) f u3 a1 (by omega) (by omega)
      obtain ⟨x1, x2, x3⟩ := use_yes (v := n0 + n1) f hl (by omega) (by omega) hc
      refine Or.inl ⟨hc, u1, ?_, x1, ?_, ?_⟩
      · rw [u2]; exact v1
      · rw [u2, v2]; exact leftN_at f v3
      · rw [x2, leftN_at f x3]; omega
    · obtain ⟨x1, x2⟩ := use_no (v := n0 + n1) f hl (by omega) (by omega) (by omega)
      refine Or.inr ⟨by omega, x1, by rw [x2]; exact leftN_at f hl, ?_⟩
      by_cases hd : n0 ≤ l
      · obtain ⟨u1, u2, u3⟩ := use_yes (v := n0) f hl a0 (by omega) hd
        refine Or.inr ⟨u1, ?_⟩
        rw [u2]
        exact (use_no f u3 a1 (by omega) (by omega)).1
      · obtain ⟨u1, u2⟩ := use_no (v := n0) f hl a0 (by omega) (by omega)
        refine Or.inl ⟨u1, ?_⟩
        rw [u2]
        by_cases he : n1 ≤ l
        · exact Or.inr (use_yes f hl a1 (by omega) he).1
        · exact Or.inl (use_no f hl a1 (by omega) (by omega)).1
set_option maxHeartbeats 16000000 in
set_option maxRecDepth 100000 in
theorem PermitTwice_any (v : Value) (os : List OpP) (s : ByteArray) (n0 n1 : Int) (w : World) (hs : SliceIs w 7 v os.length (ocells os)) (hss : s.size ≤ 140737488355328) :
    Calls Tryd.prog 7 #[v, .string s, .agg #[.int .i64 n0, .int .i64 n1]] w fun e w' => e = .returned (.bool true) ∧ Below w.heap.size w w' := by
  have HS := Lib.hid hs
  obtain ⟨A, c0, rfl⟩ := slice_shape hs
  clear hs
  have HW := Lib.hid (bA (Below.refl w.heap.size w) (.cells #[.int .i64 n0, .int .i64 n1] 72))
  go_enter Tryd.func7, Tryd.ntmps7
  go_wp2_with fail
  refine (short_any _ os _ (HS.out.below HW.out)).mono ?_
  rintro e w1 ⟨bb, rfl, b1, hb⟩
  have HB := Lib.hid hb
  clear hb
  have r1 := (b1.block w.heap.size (by simp)).trans (heap_alloc_new w _)
  obtain ⟨x0, x1, _⟩ := two_cells r1
  have R1 := Lib.hid r1
  clear r1
  have B1 := Lib.hid (bT HW.out b1)
  clear b1
  cases bb with
  | false =>
    go_wp2_with fail
    refine (awake_any _).mono ?_
    rintro e w2 ⟨rfl, b2⟩
    go_wp2_with fail
    go_ret
    exact ⟨rfl, bT B1.out b2⟩
  | true =>
    by_cases h40 : s.size ≤ 40
    · have h40' : decide ((40 : Int) < s.size) = false := by simp; omega
      by_cases a0 : n0 < 1
      · have a0' : decide (n0 < 1) = true := by simpa using a0
        go_wp2_with fail
        refine (awake_any _).mono ?_
        rintro e w2 ⟨rfl, b2⟩
        go_wp2_with fail
        go_ret
        exact ⟨rfl, bT B1.out b2⟩
      · have a0' : decide (n0 < 1) = false := by simpa using a0
        by_cases a1 : n1 < 1
        · have a1' : decide (n1 < 1) = true := by simpa using a1
          go_wp2_with fail
          refine (awake_any _).mono ?_
          rintro e w2 ⟨rfl, b2⟩
          go_wp2_with fail
          go_ret
          exact ⟨rfl, bT B1.out b2⟩
        · have a1' : decide (n1 < 1) = false := by simpa using a1
          by_cases a2 : 562949953421312 < n0
          · have a2' : decide (562949953421312 < n0) = true := by simpa using a2
            go_wp2_with fail
            refine (awake_any _).mono ?_
            rintro e w2 ⟨rfl, b2⟩
            go_wp2_with fail
            go_ret
            exact ⟨rfl, bT B1.out b2⟩
          · have a2' : decide (562949953421312 < n0) = false := by simpa using a2
            by_cases a3 : 562949953421312 < n1
            · have a3' : decide (562949953421312 < n1) = true := by simpa using a3
              go_wp2_with fail
              refine (awake_any _).mono ?_
              rintro e w2 ⟨rfl, b2⟩
              go_wp2_with fail
              go_ret
              exact ⟨rfl, bT B1.out b2⟩
            · have a3' : decide (562949953421312 < n1) = false := by simpa using a3
              go_wp2_with fail
              refine (play_any _ os _ (HS.out.below B1.out) (HB.out (by simp)).2).mono ?_
              rintro e w2 ⟨rfl, hL⟩
              have hL2 : Below w1.heap.size w1 w2 := by obtain ⟨_, _, _, h⟩ := hL; exact h
              have HL := Lib.hid hL
              clear hL
              go_wp2_with fail
              refine (play_any _ os _ (HS.out.below (bT B1.out hL2)) (HB.out (by simp)).2).mono ?_
              rintro e w3 ⟨rfl, hM⟩
              obtain ⟨ps, ls, hst⟩ : ∃ ps ls, pst os os.length = (ps, ls) := ⟨_, _, rfl⟩
              rw [hst] at hM
              have HL' : Hid (Live w1 w2 w1.heap.size (ps, ls)) := by have := HL.out; rw [hst] at this; exact this
              have HBo := Lib.hid (Both.mk' HL'.out R1.out hM)
              clear hM hst HL
              have HInv : Hid (Inv ps ls) := by obtain ⟨_, _, h, _⟩ := HBo.out; exact h.inv
              generalize w2.heap.size = hb at HBo ⊢
              go_wp2_with fail
              refine (HBo.out.leftA _).mono ?_
              rintro e w4 ⟨rfl, b4⟩
              have HB4 := Lib.hid (HBo.out.below b4)
              have r4 : w4.heap[w.heap.size]? = some (.cells #[.int .i64 n0, .int .i64 n1] 72 (0, 0)) := by obtain ⟨_, _, _, _, _, _, _, _, _, _, h⟩ := HB4.out; exact h
              obtain ⟨y0, y1, _⟩ := two_cells r4
              clear r4
              go_wp2_with fail
              obtain ⟨e0, l1, he0, hl1⟩ : ∃ e0 l1, Hid (useE ps ls s n0 = e0) ∧ Hid (useL ps ls s n0 = l1) := ⟨_, _, rfl, rfl⟩
              obtain ⟨e1, l2, he1, hl2⟩ : ∃ e1 l2, Hid (useE ps l1 s n1 = e1) ∧ Hid (useL ps l1 s n1 = l2) := ⟨_, _, rfl, rfl⟩
              have U1 := Lib.hid (fun W (h : Both w1 W w1.heap.size hb ps ls ls w.heap.size (.cells #[.int .i64 n0, .int .i64 n1] 72)) => by have c := h.useA s n0; rw [he0.out, hl1.out] at c; exact c)
              have U2 := Lib.hid (fun W (h : Both w1 W w1.heap.size hb ps l1 ls w.heap.size (.cells #[.int .i64 n0, .int .i64 n1] 72)) => by have c := h.useA s n1; rw [he1.out, hl2.out] at c; exact c)
              have HB4d := Lib.hid (HB4.out.below (bd (Below.refl w4.heap.size w4)))
              have S0 : w4.drew.cell? ⟨w.heap.size, 0, none⟩ = some (.int .i64 n0) ∧ w4.drew.cell? ⟨w.heap.size, 1, none⟩ = some (.int .i64 n1) := ⟨y0, y1⟩
              have BB := Lib.hid (bT B1.out hL2)
              have HP := Lib.hid (twice_plain HInv.out s a0 a1 a2 a3)
              rw [hl1.out, he0.out, he1.out, hl2.out] at HP
              clear HBo HL' HInv HB4 HW HS R1 HB hL2 b4 x0 x1
              go_region_held3 (fun w' => w'.cell? ⟨w.heap.size, 0, none⟩ = some (.int .i64 n0) ∧ w'.cell? ⟨w.heap.size, 1, none⟩ = some (.int .i64 n1)) (first | exact HB6.out.box | exact HB5.out.box | exact S0)
                (first
                  | (go_at_call_of 23 n0; refine (U1.out w4.drew HB4d.out).mono ?_; rintro e w5 ⟨rfl, hA⟩; have HB5 := Lib.hid hA; clear hA)
                  | (go_at_call_of 23 n1; refine (U2.out w5 HB5.out).mono ?_; rintro e w6 ⟨rfl, hA⟩; have HB6 := Lib.hid hA; clear hA))
              clear S0 y0 y1 U1 U2 HB5 HB4d
              obtain ⟨z0, z1⟩ := HB6.out.box
              have hwr : IntKind.i64.wrap (n0 + n1) = n0 + n1 := by rw [IntKind.wrap_i64]; omega
              go_wp2_with fail
              refine (HB6.out.useB _ _).mono ?_
              rintro e w7 ⟨rfl, hA⟩
              have HB7 := Lib.hid hA
              clear hA
              go_wp2_with fail
              refine (HB7.out.leftA _).mono ?_
              rintro e w8 ⟨rfl, b8⟩
              have HB8 := Lib.hid (HB7.out.below b8)
              go_wp2_with fail
              refine (HB8.out.leftB _).mono ?_
              rintro e w9 ⟨rfl, b9⟩
              have HB9 := Lib.hid (HB8.out.below b9)
              obtain ⟨z2, z3⟩ := HB9.out.box
              have B9 : Hid (Below w.heap.size w w9) := Lib.hid (by obtain ⟨_, _, _, _, _, _, _, h, _⟩ := HB9.out; exact bT B1.out h)
              clear HB7 HB8 HB6 z0 z1 b8 b9
              have AW : Hid (∀ W, Below w9.heap.size w9 W → Calls Tryd.prog 18 #[] W fun e w' => e = .returned (.bool true) ∧ Below w.heap.size w w') := Lib.hid (fun W hW => (awake_any W).mono fun e w' h => ⟨h.1, bT (bT B9.out hW) h.2⟩)
              clear HB9 he0 hl1 he1 hl2
              rcases HP.out with ⟨q0, q1, q2, q3⟩ | ⟨l, q0, q1, l0, l1', hc | hc⟩
              · subst q1 q2
                rw [q0, q3]
                clear HP a0' a1' a2' a3' h40' h40
                go_wp2_with fail
                refine (AW.out _ (by first | exact Below.refl _ _ | exact bD (Below.refl _ _))).mono ?_
                rintro e w10 ⟨rfl, b10⟩
                go_wp2_with fail
                go_ret
                exact ⟨rfl, b10⟩
              · obtain ⟨c0, c1, c2, c3, c4, c5⟩ := hc
                subst c1 c2
                rw [q0, q1, c3, c4, c5]
                have wr1 : IntKind.i64.wrap (l - n0) = l - n0 := by rw [IntKind.wrap_i64]; omega
                have wr2 : IntKind.i64.wrap (l - n0 - n1) = l - n0 - n1 := by rw [IntKind.wrap_i64]; omega
                have d0 : decide (n0 + n1 ≤ l) = true := by simpa using c0
                clear HP a0' a1' a2' a3' h40' h40
                go_wp2_with fail
                refine (AW.out _ (by first | exact Below.refl _ _ | exact bD (Below.refl _ _))).mono ?_
                rintro e w10 ⟨rfl, b10⟩
                go_wp2_with fail
                go_ret
                exact ⟨rfl, b10⟩
              · obtain ⟨c0, c1, c2, ⟨c3, c4 | c4⟩ | ⟨c3, c4⟩⟩ := hc
                all_goals
                  subst c3 c4
                  rw [q0, q1, c1, c2]
                  have d0 : decide (n0 + n1 ≤ l) = false := by simp; omega
                  clear HP a0' a1' a2' a3' h40' h40 c0
                · go_wp2_with fail
                  refine (AW.out _ (by first | exact Below.refl _ _ | exact bD (Below.refl _ _))).mono ?_
                  rintro e w10 ⟨rfl, b10⟩
                  go_wp2_with fail
                  go_ret
                  exact ⟨rfl, b10⟩
                · go_wp2_with fail
                  refine (AW.out _ (by first | exact Below.refl _ _ | exact bD (Below.refl _ _))).mono ?_
                  rintro e w10 ⟨rfl, b10⟩
                  go_wp2_with fail
                  go_ret
                  exact ⟨rfl, b10⟩
                · go_wp2_with fail
                  refine (AW.out _ (by first | exact Below.refl _ _ | exact bD (Below.refl _ _))).mono ?_
                  rintro e w10 ⟨rfl, b10⟩
                  go_wp2_with fail
                  go_ret
                  exact ⟨rfl, b10⟩
    · have h40' : decide ((40 : Int) < s.size) = true := by simp; omega
      go_wp2_with fail
      refine (awake_any _).mono ?_
      rintro e w2 ⟨rfl, b2⟩
      go_wp2_with fail
      go_ret
      exact ⟨rfl, bT B1.out b2⟩
end Go.Proofs.YtgonghmihghhnaaDoor.Pe
