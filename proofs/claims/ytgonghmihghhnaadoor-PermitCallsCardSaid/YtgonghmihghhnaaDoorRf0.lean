/- the reference of permits: what only reads, walked. -/
import Derived.Test.YtgonghmihghhnaaDoorPe4
import Derived.Test.YtgonghmihghhnaaDoorMem2
namespace Go.Proofs.YtgonghmihghhnaaDoor.Pe
open Go.RowKit Go.Proofs.YtgonghmihghhnaaDoor.Id

def lcells (ls : List Int) : List Value := ls.map (Value.int .i64)
theorem lcells_len (ls : List Int) : (lcells ls).length = ls.length := by simp [lcells]
/-- The reference's register r; G: its blocks. -/
def RReg (W : World) (G : Nat → Prop) (v1 v2 : Value) (ps : List Perm) (ls : List Int) : Prop :=
  SliceIs W 5 v1 ps.length (pcells ps) ∧ SliceIs W 1 v2 ls.length (lcells ls) ∧ Inv ps ls ∧ (∀ k, v1.ownBlock = some k → G k) ∧ (∀ k, v2.ownBlock = some k → G k)
theorem RReg.keep {W W' : World} {G F : Nat → Prop} {v1 v2 : Value} {ps : List Perm} {ls : List Int} (h : RReg W G v1 v2 ps ls) (hk : Keeps F W W') (hF : ∀ k, G k → ¬ F k) : RReg W' G v1 v2 ps ls :=
  ⟨h.1.keeps hk (fun k e => hF k (h.2.2.2.1 k e)), h.2.1.keeps hk (fun k e => hF k (h.2.2.2.2 k e)), h.2.2⟩
theorem RReg.below {W W' : World} {G : Nat → Prop} {v1 v2 : Value} {ps : List Perm} {ls : List Int} (h : RReg W G v1 v2 ps ls) (hk : Below W.heap.size W W') : RReg W' G v1 v2 ps ls :=
  ⟨h.1.below hk, h.2.1.below hk, h.2.2⟩
theorem RReg.nil (W : World) (G : Nat → Prop) : RReg W G (.slice none 0 0) (.slice none 0 0) [] [] :=
  ⟨⟨rfl, by simp, .inl ⟨rfl, _, _, rfl⟩⟩, ⟨rfl, by simp, .inl ⟨rfl, _, _, rfl⟩⟩, Inv.nil, fun k h => by simp [Value.ownBlock] at h, fun k h => by simp [Value.ownBlock] at h⟩

set_option maxHeartbeats 1000000 in
theorem rfind_any (v1 v2 : Value) (ps : List Perm) (s : ByteArray) (w : World) (hs : SliceIs w 5 v1 ps.length (pcells ps)) :
    Calls Tryd.prog 41 #[.agg #[v1, v2], .string s] w fun e w' => e = .returned (.int .i64 (findI ps s)) ∧ Below w.heap.size w w' := by
  rcases hs.2.2 with ⟨h0, A, c, rfl⟩ | ⟨g, off, c, rfl, hc, hg, hx⟩
  · have e := Lib.hid (show findI ps s = -1 by rw [List.eq_nil_of_length_eq_zero h0]; rfl)
    clear hs h0
    go_enter Tryd.func41, Tryd.ntmps41
    go_wp2
    refine wp_loop_rounds 1 ?_
    rw [rounds_succ]
    go_wp2
    go_ret
    exact ⟨ret_int e.out.symm, bA (Below.refl _ _) _⟩
  · have hl := hs.2.1
    have hX := Lib.hid hx
    clear hs hx
    go_enter Tryd.func41, Tryd.ntmps41
    go_wp2
    generalize hwa : w.alloc (.cells #[.slice (some ⟨g, off, none⟩) ps.length c, v2] 48) = wa
    have cb : wa.cell? ⟨w.heap.size, 0, none⟩ = some (.slice (some ⟨g, off, none⟩) ps.length c) := by rw [← hwa]; simp
    have hz : wa.heap.size = w.heap.size + 1 := by rw [← hwa]; simp
    have HZ := Lib.hid hz
    have HA := Lib.hid (show Below w.heap.size w wa by rw [← hwa]; exact bA (Below.refl _ _) _)
    have HC := Lib.hid cb
    clear hwa hz cb
    go_loopw [5] (fun i wr => ∃ k : Nat, k ≤ ps.length ∧ i = .int .i64 k ∧ Below wa.heap.size wa wr ∧ Hid (∀ (j : Nat) (q : Perm), j < k → ps[j]? = some q → q.pid ≠ s)) (fun i _ => ps.length - (intOf i).toNat)
    case atStart => exact ⟨0, Nat.zero_le _, rfl, Below.refl _ _, fun j q hj => by omega⟩
    case round =>
      obtain ⟨k, hk, rfl, hB, HN⟩ := hrel
      have hBB := Lib.hid (HA.out.trans (hB.mono (by rw [HZ.out]; omega)))
      have cb : wr.cell? ⟨w.heap.size, 0, none⟩ = some (.slice (some ⟨g, off, none⟩) ps.length c) := (hB.cell (by rw [HZ.out]; exact Nat.lt_succ_self _)).trans HC.out
      by_cases hlt : k < ps.length
      · obtain ⟨p, hp⟩ : ∃ p, ps[k]? = some p := ⟨_, List.getElem?_eq_getElem hlt⟩
        have d0 : wr.cell? ⟨g, off + k * 5, none⟩ = some (.string p.pid) := (hBB.out.cell hg).trans (hX.out (k * 5) _ (pcells_at hp (j := 0) (by omega)))
        have HP := Lib.hid hp
        clear hp
        by_cases he : p.pid = s
        · have he1 : (p.pid.toList == s.toList) = true := by rw [str_eq]; simpa using he
          have HF := Lib.hid (findI_hit HP.out HN.out he)
          clear he
          go_wp2
          go_ret
          exact ⟨ret_int HF.out.symm, hBB.out⟩
        · have he1 : (p.pid.toList == s.toList) = false := by rw [str_eq]; simpa using he
          have HN' : Hid (∀ (j : Nat) (q : Perm), j < k + 1 → ps[j]? = some q → q.pid ≠ s) := fun j q hj hq => by
            by_cases e : j = k
            · subst e
              rw [HP.out] at hq
              obtain rfl := Option.some.inj hq
              exact he
            · exact HN.out j q (by omega) hq
          clear he
          go_wp2
          go_roundw
          case rel => exact ⟨k + 1, by omega, by go_num, hB, HN'⟩
          case measure => simp [intOf]; omega
      · obtain rfl : k = ps.length := by omega
        have HF := Lib.hid (findI_none (fun j q hq => HN.out j q (List.getElem?_eq_some_iff.1 hq).1 hq))
        go_wp2
        go_ret
        exact ⟨ret_int HF.out.symm, hBB.out⟩
end Go.Proofs.YtgonghmihghhnaaDoor.Pe
