/- permit: Left and Use, walked. -/
import Derived.Test.YtgonghmihghhnaaDoorPe2
import Derived.Deep.QuietTactic
import Derived.BigQuiet
namespace Go.Proofs.YtgonghmihghhnaaDoor.Pe
open Go.RowKit Go.Proofs.YtgonghmihghhnaaDoor.Id

theorem ret_ib {x y : Int} {b c : Bool} (h : x = y) (k : b = c) : Ending.returned (.tuple #[.int .i64 x, .bool b]) = .returned (.tuple #[.int .i64 y, .bool c]) := by rw [h, k]

set_option maxHeartbeats 1000000 in
theorem Left_any (b : Nat) (F : Nat → Prop) (ps : List Perm) (ls : List Int) (s : ByteArray) (w : World) (hR : Reg w F b ps ls) :
    Calls Tryd.prog 26 #[.pointer (some ⟨b, 0, none⟩), .string s] w fun e w' => e = .returned (.tuple #[.int .i64 (leftN ps ls s), .bool (leftB ps s)]) ∧ Below w.heap.size w w' := by
  have HR := Lib.hid hR
  clear hR
  have c := find_reg b F ps ls s w HR.out
  rcases findI_cases ps s with ⟨h1, _⟩ | ⟨k, p, hp, h1, h2, _⟩
  · rw [h1] at c
    have HC := Lib.hid c
    rw [show leftN ps ls s = 0 by simp [leftN, h1], show leftB ps s = false by simp [leftB, h1]]
    clear c h1
    go_enter Tryd.func26, Tryd.ntmps26
    go_wp2_with fail
    refine HC.out.mono ?_
    rintro e w1 ⟨rfl, b1⟩
    go_wp2
    go_ret2
    exact ⟨rfl, b1⟩
  · rw [h1] at c
    have HC := Lib.hid c
    obtain ⟨l, hl, _⟩ := HR.out.inv.left hp
    have HL := Lib.hid (leftN_at h1 hl)
    rw [show leftB ps s = true by simp [leftB, h1]]
    have HL2 := Lib.hid hl
    clear c h1 hl
    have HP := Lib.hid hp
    clear hp h2
    go_enter Tryd.func26, Tryd.ntmps26
    go_wp2_with fail
    refine HC.out.mono ?_
    rintro e w1 ⟨rfl, b1⟩
    obtain ⟨g1, c1, g2, c2, l', q0, q1, hl', _, _, _, hk, hn, d1, d2, d3, d4, d5⟩ := (HR.out.below b1).cells HP.out
    have HLL := Lib.hid hl'
    clear hl'
    go_wp2
    go_quiet (fail)
    go_wp2
    go_ret2
    refine ⟨ret_ib ?_ rfl, bD b1 _⟩
    rw [HL.out]
    have := HL2.out
    rw [HLL.out] at this
    have := Option.some.inj this
    omega

/-- the register behind a store into what was used -/
theorem Reg.used {W : World} {F : Nat → Prop} {b : Nat} {ps : List Perm} {ls : List Int} (h : Reg W F b ps ls) {k : Nat} {p : Perm} (hp : ps[k]? = some p) {g2 c2 : Nat}
    (hc : W.cell? ⟨b, 1, none⟩ = some (.slice (some ⟨g2, 0, none⟩) ps.length c2)) (x : Int) (hx : Inv ps (ls.set k x)) : F g2 ∧ W.frozen? ⟨g2, k, none⟩ = false ∧ Reg (W.setCell ⟨g2, k, none⟩ (.int .i64 (p.pqu - x))) F b ps (ls.set k x) := by
  obtain ⟨v1, v2, h1, h2, h3, h4, h5, h6, h7⟩ := h
  have e2 : v2 = .slice (some ⟨g2, 0, none⟩) ps.length c2 := by
    rw [cell_of_row W b 1 _ _ _ h1] at hc
    exact Option.some.inj hc
  subst e2
  have hF := h7 g2 rfl
  have hk := (List.getElem?_eq_some_iff.1 hp).1
  obtain ⟨cells2, hh2⟩ := own_type h3 g2 rfl
  have hb2 : b ≠ g2 := fun e => by
    subst e; rw [h1] at hh2
    simp at hh2
  obtain ⟨s1, s2⟩ := h3.stored k (.int .i64 (p.pqu - x))
  refine ⟨hF, h3.frozenAt k, v1, _, (heap_setCell_other W ⟨g2, k, none⟩ b _ hb2).trans h1, own_keep h2 (fun j hj hlt => ?_), by rw [ucells_set k p hp x]; exact s1, hx, h5, h6, h7⟩
  refine heap_setCell_other W ⟨g2, k, none⟩ j _ (fun e => ?_)
  replace e : j = g2 := e
  subst e
  obtain ⟨cells1, hh1⟩ := own_type h2 j hj
  rw [hh2] at hh1
  simp at hh1

set_option maxHeartbeats 1000000 in
theorem Use_any (b : Nat) (F : Nat → Prop) (ps : List Perm) (ls : List Int) (s : ByteArray) (v : Int) (w : World) (hR : Reg w F b ps ls) :
    Calls Tryd.prog 23 #[.pointer (some ⟨b, 0, none⟩), .string s, .int .i64 v] w fun e w' => e = .returned (.int .i64 (useE ps ls s v)) ∧ Reg w' F b ps (useL ps ls s v) ∧ Keeps F w w' := by
  have HR := Lib.hid hR
  clear hR
  have c := find_reg b F ps ls s w HR.out
  rcases findI_cases ps s with ⟨h1, _⟩ | ⟨k, p, hp, h1, h2, _⟩
  · rw [h1] at c
    have HC := Lib.hid c
    have e0 : useE ps ls s v = 8 := by simp [useE, h1]
    rw [show useL ps ls s v = ls by simp [useL, e0], e0]
    clear c h1 e0
    go_enter Tryd.func23, Tryd.ntmps23
    go_wp2_with fail
    refine HC.out.mono ?_
    rintro e w1 ⟨rfl, b1⟩
    go_wp2
    go_ret
    exact ⟨rfl, HR.out.below b1, Keeps.of_below _ b1⟩
  · rw [h1] at c
    have HC := Lib.hid c
    obtain ⟨l, hl, hl0, hl1, hl2⟩ := HR.out.inv.left hp
    have HE := useE_at (v := v) h1 hl
    have HL := fun he => useL_at (v := v) h1 hl he
    have HI := HR.out.inv.use s v
    by_cases c1 : v < 1 ∨ 1125899906842624 < v
    · rw [if_pos c1] at HE
      rw [show useL ps ls s v = ls by simp [useL, HE], HE]
      clear HE HL hl h2 h1 c HI
      have HP := Lib.hid hp
      clear hp
      by_cases c2 : v < 1
      · go_enter Tryd.func23, Tryd.ntmps23
        go_wp2_with fail
        refine HC.out.mono ?_
        rintro e w1 ⟨rfl, b1⟩
        go_wp2
        go_ret
        exact ⟨rfl, HR.out.below b1, Keeps.of_below _ b1⟩
      · have c3 : 1125899906842624 < v := by omega
        clear c1
        go_enter Tryd.func23, Tryd.ntmps23
        go_wp2_with fail
        refine HC.out.mono ?_
        rintro e w1 ⟨rfl, b1⟩
        go_wp2
        go_ret
        exact ⟨rfl, HR.out.below b1, Keeps.of_below _ b1⟩
    · rw [if_neg c1] at HE
      have c2 : 1 ≤ v := by omega
      have c3 : v ≤ 1125899906842624 := by omega
      clear c1
      by_cases c4 : l < v
      · rw [if_pos c4] at HE
        rw [show useL ps ls s v = ls by simp [useL, HE], HE]
        clear HE HL h2 h1 c HI
        have HP := Lib.hid hp
        have HL2 := Lib.hid hl
        clear hp hl
        go_enter Tryd.func23, Tryd.ntmps23
        go_wp2_with fail
        refine HC.out.mono ?_
        rintro e w1 ⟨rfl, b1⟩
        obtain ⟨g1, c1, g2, c2, l', q0, q1, hl', _, _, _, hk, hn, d1, d2, d3, d4, d5⟩ := (HR.out.below b1).cells HP.out
        have e := HL2.out.symm.trans hl'
        obtain rfl := Option.some.inj e
        clear hl' e
        have t1 : decide (v > p.pqu - (p.pqu - l)) = true := by simp; omega
        go_wp2
        go_quiet (fail)
        go_wp2
        go_ret
        exact ⟨rfl, HR.out.below (bD b1 _), Keeps.of_below _ (bD b1 _)⟩
      · rw [if_neg c4] at HE
        rw [HL HE] at HI ⊢
        rw [HE]
        have HI := Lib.hid HI
        clear HE HL h2 h1 c
        have HP := Lib.hid hp
        have HL2 := Lib.hid hl
        clear hp hl
        go_enter Tryd.func23, Tryd.ntmps23
        go_wp2_with fail
        refine HC.out.mono ?_
        rintro e w1 ⟨rfl, b1⟩
        obtain ⟨g1, c1, g2, c2, l', q0, q1, hl', _, _, _, hk, hn, d1, d2, d3, d4, d5⟩ := (HR.out.below b1).cells HP.out
        have e := HL2.out.symm.trans hl'
        obtain rfl := Option.some.inj e
        clear hl' e
        have hf := ((HR.out.below b1).used HP.out q1 (l - v) HI.out).2.1
        have t1 : decide (v > p.pqu - (p.pqu - l)) = false := by simp; omega
        have t2 : p.pqu - l + v = p.pqu - (l - v) := by omega
        go_wp2
        go_quiet (fail)
        go_wp2
        go_ret
        have HU := (HR.out.below (bD b1 _)).used HP.out (W := w1.drewN nq) q1 (l - v) HI.out
        exact ⟨rfl, HU.2.2, (Keeps.of_below _ (bD b1 _)).trans (Keeps.setCell F _ HU.1 _) (fun i h => .inl h)⟩
end Go.Proofs.YtgonghmihghhnaaDoor.Pe
