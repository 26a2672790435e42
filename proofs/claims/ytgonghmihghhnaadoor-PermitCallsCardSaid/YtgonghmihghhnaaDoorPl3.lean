/- the laws of permits: awake, walked. -/
import Derived.Test.YtgonghmihghhnaaDoorPl2
namespace Go.Proofs.YtgonghmihghhnaaDoor.Pe
open Go.RowKit Go.Proofs.YtgonghmihghhnaaDoor.Id

def pine : ByteArray := ⟨#[112, 105, 110, 101]⟩
def p0 : Perm := ⟨codeP, ⟨#[112, 105, 110, 101]⟩, 100, 200, 5000000000⟩
theorem a1 : addE [] p0 = 0 := by decide +kernel
theorem a2 : addE [p0] p0 = 7 := by decide +kernel
theorem u1 : useE [p0] [5000000000] codeP 2000000000 = 0 := by decide +kernel
theorem u2 : useE [p0] [3000000000] codeP 2000000000 = 0 := by decide +kernel
theorem u3 : useE [p0] [1000000000] codeP 2000000000 = 23 := by decide +kernel
theorem l1 : useL [p0] [5000000000] codeP 2000000000 = [3000000000] := by decide +kernel
theorem l2 : useL [p0] [3000000000] codeP 2000000000 = [1000000000] := by decide +kernel
theorem l3 : useL [p0] [1000000000] codeP 2000000000 = [1000000000] := by decide +kernel
theorem n1 : leftN [p0] [1000000000] codeP = 1000000000 := by decide +kernel
theorem n2 : leftB [p0] codeP = true := by decide +kernel
theorem f1 : fellE [p0] codeP ⟨#[112, 105, 110, 101]⟩ 199 = 0 := by decide +kernel
theorem f2 : fellE [p0] codeP ⟨#[112, 105, 110, 101]⟩ 200 = 15 := by decide +kernel
theorem f3 : fellE [p0] codeP ⟨#[111, 97, 107]⟩ 200 = 24 := by decide +kernel
theorem f4 : fellE [p0] ⟨#[]⟩ ⟨#[112, 105, 110, 101]⟩ 100 = 8 := by decide +kernel

abbrev pObj (c : ByteArray) : Obj := .cells #[.string c, .string ⟨#[112, 105, 110, 101]⟩, .int .i64 100, .int .i64 200, .int .i64 5000000000] 50
section
variable (w W : World) (b : Nat) (N : List (Nat × Obj))
theorem c_add1 (h : Stay w W b ([], []) N) : Calls Tryd.prog 21 #[.pointer (some ⟨b, 0, none⟩), .agg #[.string codeP, .string ⟨#[112, 105, 110, 101]⟩, .int .i64 100, .int .i64 200, .int .i64 5000000000]] W fun e w' => e = .returned (.int .i64 0) ∧ Stay w w' b ([p0], [5000000000]) N := by
  have c := h.add p0 (by decide) (by decide)
  simp only [a1, addP, addL, if_pos] at c
  exact c
theorem c_add2 (h : Stay w W b ([p0], [5000000000]) N) : Calls Tryd.prog 21 #[.pointer (some ⟨b, 0, none⟩), .agg #[.string codeP, .string ⟨#[112, 105, 110, 101]⟩, .int .i64 100, .int .i64 200, .int .i64 5000000000]] W fun e w' => e = .returned (.int .i64 7) ∧ Stay w w' b ([p0], [5000000000]) N := by
  have c := h.add p0 (by decide) (by decide)
  simp only [a2, addP, addL, if_neg (show ¬ ((7 : Int) = 0) by decide)] at c
  exact c
theorem c_use1 (h : Stay w W b ([p0], [5000000000]) N) : Calls Tryd.prog 23 #[.pointer (some ⟨b, 0, none⟩), .string codeP, .int .i64 2000000000] W fun e w' => e = .returned (.int .i64 0) ∧ Stay w w' b ([p0], [3000000000]) N := by
  have c := h.use codeP 2000000000
  simp only [u1, l1] at c
  exact c
theorem c_use2 (h : Stay w W b ([p0], [3000000000]) N) : Calls Tryd.prog 23 #[.pointer (some ⟨b, 0, none⟩), .string codeP, .int .i64 2000000000] W fun e w' => e = .returned (.int .i64 0) ∧ Stay w w' b ([p0], [1000000000]) N := by
  have c := h.use codeP 2000000000
  simp only [u2, l2] at c
  exact c
theorem c_use3 (h : Stay w W b ([p0], [1000000000]) N) : Calls Tryd.prog 23 #[.pointer (some ⟨b, 0, none⟩), .string codeP, .int .i64 2000000000] W fun e w' => e = .returned (.int .i64 23) ∧ Stay w w' b ([p0], [1000000000]) N := by
  have c := h.use codeP 2000000000
  simp only [u3, l3] at c
  exact c
theorem c_left (h : Stay w W b ([p0], [1000000000]) N) : Calls Tryd.prog 26 #[.pointer (some ⟨b, 0, none⟩), .string codeP] W fun e w' => e = .returned (.tuple #[.int .i64 1000000000, .bool true]) ∧ Below W.heap.size W w' := by
  have c := h.left codeP
  simp only [n1, n2] at c
  exact c
theorem c_list (h : Stay w W b ([p0], [1000000000]) N) : Calls Tryd.prog 29 #[.pointer (some ⟨b, 0, none⟩)] W fun e w' => ∃ g cap, e = .returned (.slice (some ⟨g, 0, none⟩) 1 cap) ∧ g < w'.heap.size ∧ (∀ j u, p0.cells[j]? = some u → w'.cell? ⟨g, j, none⟩ = some u) ∧ Below W.heap.size W w' := by
  refine h.list.mono ?_
  rintro e w' ⟨v, rfl, ho, hb⟩
  obtain ⟨g, cap, rfl, _, hg⟩ := ho.form (by decide)
  refine ⟨g, cap, rfl, hg, fun j u hu => ?_, hb⟩
  have hj : j < 5 := (List.getElem?_eq_some_iff.1 hu).1
  rw [ho.cellAt j (by show j < 1 * 5; omega)]
  exact hu
theorem c_fell (i sp : ByteArray) (t x : Int) (h : Stay w W b ([p0], [1000000000]) N) (e : fellE [p0] i sp t = x) : Calls Tryd.prog 24 #[.pointer (some ⟨b, 0, none⟩), .string i, .string sp, .int .i64 t] W fun e w' => e = .returned (.int .i64 x) ∧ Below W.heap.size W w' := by
  have c := h.fell i sp t
  simp only [e] at c
  exact c
end

theorem Stay.pcell {w W : World} {b g : Nat} {s : List Perm × List Int} {c : ByteArray} {N : List (Nat × Obj)} (h : Stay w W b s ((g, pObj c) :: N)) :
    W.cell? ⟨g, 0, none⟩ = some (.string c) ∧ W.cell? ⟨g, 1, none⟩ = some (.string ⟨#[112, 105, 110, 101]⟩) ∧ W.cell? ⟨g, 2, none⟩ = some (.int .i64 100) ∧ W.cell? ⟨g, 3, none⟩ = some (.int .i64 200) ∧ W.cell? ⟨g, 4, none⟩ = some (.int .i64 5000000000) := by
  obtain ⟨_, _, _, _, h4⟩ := h
  have h5 := (h4 _ (List.mem_cons_self)).2
  refine ⟨?_, ?_, ?_, ?_, ?_⟩ <;> (rw [cell_of_row _ _ _ _ _ _ h5]; rfl)
set_option maxHeartbeats 4000000 in
set_option maxRecDepth 100000 in
theorem awake_any (w : World) : Calls Tryd.prog 18 #[] w fun e w' => e = .returned (.bool true) ∧ Below w.heap.size w w' := by
  obtain ⟨c, hc⟩ : ∃ c : ByteArray, Hid (codeP = c) := ⟨_, rfl⟩
  have C1 := c_add1
  have C2 := c_add2
  have C3 := c_use1
  have C4 := c_use2
  have C5 := c_use3
  have C6 := c_left
  have C7 := c_list
  have C8 := code_any
  have G1 := f1
  have G2 := f2
  have G3 := f3
  have G4 := f4
  have GP : Hid (p0.cells = [.string c, .string ⟨#[112, 105, 110, 101]⟩, .int .i64 100, .int .i64 200, .int .i64 5000000000]) := by unfold Hid; rw [← hc.out]; rfl
  rw [hc.out] at C1 C2 C3 C4 C5 C6 C8 G1 G2 G3
  replace C1 := Lib.hid C1
  replace C2 := Lib.hid C2
  replace C3 := Lib.hid C3
  replace C4 := Lib.hid C4
  replace C5 := Lib.hid C5
  replace C6 := Lib.hid C6
  replace C7 := Lib.hid C7
  replace C8 := Lib.hid C8
  replace G1 := Lib.hid G1
  replace G2 := Lib.hid G2
  replace G3 := Lib.hid G3
  replace G4 := Lib.hid G4
  go_enter Tryd.func18, Tryd.ntmps18
  go_wp2_with fail
  refine (New_stay _).mono ?_
  rintro e w1 ⟨rfl, S1⟩
  have HS1 := Lib.hid S1
  clear S1
  go_wp2_with fail
  refine (C8.out _).mono ?_
  rintro e w2 ⟨rfl, b2⟩
  have HS2 := Lib.hid ((HS1.out.below b2).alloc (pObj c))
  go_wp2_with fail
  refine (C1.out _ _ _ _ HS2.out).mono ?_
  rintro e w3 ⟨rfl, S3⟩
  have HS3 := Lib.hid S3
  clear S3
  obtain ⟨d30, d31, d32, d33, d34⟩ := HS3.out.pcell
  go_wp2_with fail
  refine (C2.out _ _ _ _ HS3.out).mono ?_
  rintro e w4 ⟨rfl, S4⟩
  have HS4 := Lib.hid S4
  clear S4
  obtain ⟨d40, d41, d42, d43, d44⟩ := HS4.out.pcell
  go_wp2_with fail
  refine (C3.out _ _ _ _ HS4.out).mono ?_
  rintro e w5 ⟨rfl, S5⟩
  have HS5 := Lib.hid S5
  clear S5
  obtain ⟨d50, d51, d52, d53, d54⟩ := HS5.out.pcell
  go_wp2_with fail
  refine (C4.out _ _ _ _ HS5.out).mono ?_
  rintro e w6 ⟨rfl, S6⟩
  have HS6 := Lib.hid S6
  clear S6
  obtain ⟨d60, d61, d62, d63, d64⟩ := HS6.out.pcell
  go_wp2_with fail
  refine (C5.out _ _ _ _ HS6.out).mono ?_
  rintro e w7 ⟨rfl, S7⟩
  have HS7 := Lib.hid S7
  clear S7
  obtain ⟨d70, d71, d72, d73, d74⟩ := HS7.out.pcell
  go_wp2_with fail
  refine (C6.out _ _ _ _ HS7.out).mono ?_
  rintro e w8 ⟨rfl, b8⟩
  have HS8 := Lib.hid (HS7.out.below b8)
  obtain ⟨d80, d81, d82, d83, d84⟩ := HS8.out.pcell
  go_wp2_with fail
  refine (C7.out _ _ _ _ HS8.out).mono ?_
  rintro e w9 ⟨g, cap, rfl, hg, hx, b9⟩
  have HS9 := Lib.hid (HS8.out.below b9)
  rw [GP.out] at hx
  have HX := Lib.hid hx
  clear hx d30 d31 d32 d33 d34 d40 d41 d42 d43 d44 d50 d51 d52 d53 d54 d60 d61 d62 d63 d64 d70 d71 d72 d73 d74 d80 d81 d82 d83 d84
  go_wp2_with fail
  obtain ⟨ι, hne, f, i0, hi, hF, hCC⟩ := below_class w9
  have HH := Lib.hid hF
  have HC := Lib.hid hCC
  have e0 : ∀ n, (f n).cell? ⟨g, 0, none⟩ = some (.string c) := fun n => ((HH.out n).cell hg).trans (HX.out 0 _ rfl)
  have e1 : ∀ n, (f n).cell? ⟨g, 1, none⟩ = some (.string ⟨#[112, 105, 110, 101]⟩) := fun n => ((HH.out n).cell hg).trans (HX.out 1 _ rfl)
  have e2 : ∀ n, (f n).cell? ⟨g, 2, none⟩ = some (.int .i64 100) := fun n => ((HH.out n).cell hg).trans (HX.out 2 _ rfl)
  have e3 : ∀ n, (f n).cell? ⟨g, 3, none⟩ = some (.int .i64 200) := fun n => ((HH.out n).cell hg).trans (HX.out 3 _ rfl)
  have e4 : ∀ n, (f n).cell? ⟨g, 4, none⟩ = some (.int .i64 5000000000) := fun n => ((HH.out n).cell hg).trans (HX.out 4 _ rfl)
  have y0 := fun n => (HS9.out.below (HH.out n)).pcell.1
  have y1 := fun n => (HS9.out.below (HH.out n)).pcell.2.1
  have y2 := fun n => (HS9.out.below (HH.out n)).pcell.2.2.1
  have y3 := fun n => (HS9.out.below (HH.out n)).pcell.2.2.2.1
  have y4 := fun n => (HS9.out.below (HH.out n)).pcell.2.2.2.2
  clear hF hCC
  refine wp_region_class f i0 hi (by kernel_rfl) (by kernel_rfl) ?_
  repeat (first
    | go_big_quiet_step ((first
        | (go_at_call 24; exact class_call HC.out (c_fell _ _ _ _ _ _ _ _ (HS9.out.below (HH.out _)) G1.out))
        | (go_at_call 24; exact class_call HC.out (c_fell _ _ _ _ _ _ _ _ (HS9.out.below (HH.out _)) G2.out))
        | (go_at_call 24; exact class_call HC.out (c_fell _ _ _ _ _ _ _ _ (HS9.out.below (HH.out _)) G3.out))
        | (go_at_call 24; exact class_call HC.out (c_fell _ _ _ _ _ _ _ _ (HS9.out.below (HH.out _)) G4.out)))))
  refine wpQuiet_nil ?_
  rintro _ ⟨nq, rfl⟩
  go_wp2
  go_ret
  obtain ⟨_, _, _, hb, _⟩ := HS9.out.below (HH.out nq)
  exact ⟨rfl, hb⟩
end Go.Proofs.YtgonghmihghhnaaDoor.Pe
