/- the laws of permits: play, walked. -/
import Derived.Test.YtgonghmihghhnaaDoorPl0
import Derived.StillTailTactics
namespace Go.Proofs.YtgonghmihghhnaaDoor.Pe
open Go.RowKit Go.Proofs.YtgonghmihghhnaaDoor.Id

def pstep (s : List Perm × List Int) (o : OpP) : List Perm × List Int := if o.knd = 0 then (addP s.1 o.per, addL s.1 s.2 o.per) else if o.knd = 1 then (s.1, useL s.1 s.2 o.per.pid o.num) else s
def pst (os : List OpP) (k : Nat) : List Perm × List Int := (os.take k).foldl pstep ([], [])
theorem pst_zero (os : List OpP) : pst os 0 = ([], []) := by simp [pst]
theorem pst_succ {os : List OpP} {k : Nat} {o : OpP} (h : os[k]? = some o) : pst os (k + 1) = pstep (pst os k) o := by
  unfold pst
  rw [List.take_add_one, h]
  simp
/-- the register behind a call, in a world of which only new blocks were changed -/
def Live (w W : World) (b : Nat) (s : List Perm × List Int) : Prop := ∃ F, Reg W F b s.1 s.2 ∧ (∀ k, F k → w.heap.size ≤ k) ∧ Below w.heap.size w W
theorem Live.below {w W W' : World} {b : Nat} {s : List Perm × List Int} (h : Live w W b s) (hb : Below W.heap.size W W') : Live w W' b s := by
  obtain ⟨F, h1, h2, h3⟩ := h
  exact ⟨F, h1.below hb, h2, bT h3 hb⟩
theorem Live.added {w W W' : World} {b : Nat} {s : List Perm × List Int} {F : Nat → Prop} {ps : List Perm} {ls : List Int} (h2 : ∀ k, F k → w.heap.size ≤ k) (h3 : Below w.heap.size w W) (ha : Added F b ps ls W W') (e : s = (ps, ls)) : Live w W' b s := by
  subst e
  obtain ⟨F', k1, _, k3, k4⟩ := ha
  have := h3.size
  exact ⟨F', k1, fun k hk => by rcases k3 k hk with h | h; exact h2 k h; omega, h3.trans (k4.below h2 h3.size)⟩
theorem Live.used {w W W' : World} {b : Nat} {s : List Perm × List Int} {F : Nat → Prop} {ps : List Perm} {ls : List Int} (h2 : ∀ k, F k → w.heap.size ≤ k) (h3 : Below w.heap.size w W) (hr : Reg W' F b ps ls) (hk : Keeps F W W') (e : s = (ps, ls)) : Live w W' b s := by
  subst e
  exact ⟨F, hr, h2, h3.trans (hk.below h2 h3.size)⟩

set_option maxHeartbeats 2000000 in
set_option maxRecDepth 100000 in
theorem play_any (v : Value) (os : List OpP) (w : World) (hs : SliceIs w 7 v os.length (ocells os)) (hok : ∀ (i : Nat) (o : OpP), os[i]? = some o → okOp o) :
    Calls Tryd.prog 33 #[v] w fun e w' => e = .returned (.pointer (some ⟨w.heap.size, 0, none⟩)) ∧ Live w w' w.heap.size (pst os os.length) := by
  rcases hs.2.2 with ⟨h0, A, c, rfl⟩ | ⟨g, off, c, rfl, hc, hg, hx⟩
  · have hE := Lib.hid h0
    rw [h0]
    clear hs h0 hok
    go_enter Tryd.func33, Tryd.ntmps33
    go_wp2_with fail
    refine (New_any _).mono ?_
    rintro e w1 ⟨rfl, hR, hB, hlt⟩
    have HR := Lib.hid hR
    clear hR
    go_wp2
    refine wp_loop_rounds 1 ?_
    rw [rounds_succ]
    go_wp2
    go_ret
    exact ⟨rfl, _, by rw [pst_zero]; exact HR.out, fun k h => by rw [h]; exact Nat.le_refl _, hB⟩
  · have hl := hs.2.1
    have hX := Lib.hid hx
    have hOK := Lib.hid hok
    clear hs hx hok
    go_enter Tryd.func33, Tryd.ntmps33
    go_wp2_with fail
    refine (New_any _).mono ?_
    rintro e w1 ⟨rfl, hR, hB1, hlt1⟩
    have HR : Hid (Live w w1 w.heap.size ([], [])) := ⟨_, hR, fun k h => by rw [h]; exact Nat.le_refl _, hB1⟩
    clear hR
    go_wp2
    go_loopw [4] (fun i wr => ∃ k : Nat, k ≤ os.length ∧ i = .int .i64 k ∧ Hid (Live w wr w.heap.size (pst os k))) (fun i _ => os.length - (intOf i).toNat)
    case atStart => exact ⟨0, Nat.zero_le _, rfl, by rw [pst_zero]; exact HR⟩
    case round =>
      obtain ⟨k, hk, rfl, HL⟩ := hrel
      obtain ⟨F, hr, hF, hB⟩ := HL.out
      by_cases hlt : k < os.length
      · obtain ⟨o, ho⟩ : ∃ o, os[k]? = some o := ⟨_, List.getElem?_eq_getElem hlt⟩
        obtain ⟨d0, d1, d2, d3, d4, d5, d6⟩ := op_cells (W := wr) (fun j u hu => (hB.cell hg).trans (hX.out j u hu)) ho
        have hS := Lib.hid (pst_succ ho)
        obtain ⟨ok1, ok2⟩ := hOK.out k o ho
        have s1 : o.per.pid.size ≤ 140737488355328 := by omega
        have s2 : o.per.psp.size ≤ 140737488355328 := by omega
        have HRR := Lib.hid hr
        clear ho hr
        by_cases k0 : o.knd = 0
        · have k0' : (o.knd == 0) = true := by simpa using k0
          have e0 : Hid (pst os (k + 1) = (addP (pst os k).1 o.per, addL (pst os k).1 (pst os k).2 o.per)) := by unfold Hid; rw [hS.out, pstep, if_pos k0]
          clear k0
          go_wp2_with fail
          refine (Add_any w.heap.size F (pst os k).1 (pst os k).2 o.per _ HRR.out s1 s2).mono ?_
          rintro e w2 ⟨rfl, hA⟩
          have HA := Lib.hid (Live.added hF hB hA e0.out)
          clear hA
          go_wp2
          go_roundw
          case rel => exact ⟨k + 1, by omega, by go_num, HA⟩
          case measure => simp [intOf]; omega
        · have k0' : (o.knd == 0) = false := by simpa using k0
          by_cases k1 : o.knd = 1
          · have k1' : (o.knd == 1) = true := by simpa using k1
            have e0 : Hid (pst os (k + 1) = ((pst os k).1, useL (pst os k).1 (pst os k).2 o.per.pid o.num)) := by unfold Hid; rw [hS.out, pstep, if_neg k0, if_pos k1]
            clear k0 k1
            go_wp2_with fail
            go_still_tail 12, (by kernel_rfl)
            go_wp2_with fail
            refine (Use_any w.heap.size F (pst os k).1 (pst os k).2 o.per.pid o.num _ (HRR.out.below (bd (Below.refl _ _)))).mono ?_
            rintro e w2 ⟨rfl, hA, hKK⟩
            have HA := Lib.hid (Live.used hF (bd hB) hA hKK e0.out)
            clear hA hKK
            go_wp2
            go_roundw
            case rel => exact ⟨k + 1, by omega, by go_num, HA⟩
            case measure => simp [intOf]; omega
          · have k1' : (o.knd == 1) = false := by simpa using k1
            have HA : Hid (Live w wr w.heap.size (pst os (k + 1))) := by unfold Hid; rw [hS.out, pstep, if_neg k0, if_neg k1]; exact HL.out
            clear k0 k1
            go_wp2
            go_roundw
            case rel => exact ⟨k + 1, by omega, by go_num, HA⟩
            case measure => simp [intOf]; omega
      · obtain rfl : k = os.length := by omega
        have HLL := HL
        go_wp2
        go_ret
        exact ⟨rfl, HLL.out⟩
end Go.Proofs.YtgonghmihghhnaaDoor.Pe
