/- permit: find, walked. -/
import Derived.Test.YtgonghmihghhnaaDoorPe0
import Derived.Test.YtgonghmihghhnaaDoorId7
namespace Go.Proofs.YtgonghmihghhnaaDoor.Pe
open Go.RowKit Go.Proofs.YtgonghmihghhnaaDoor.Id

set_option maxHeartbeats 1000000 in
theorem find_any (b : Nat) (v1 v2 : Value) (ps : List Perm) (s : ByteArray) (w : World) (hb : w.heap[b]? = some (.cells #[v1, v2] 87 (0, 0))) (hs : SliceIs w 5 v1 ps.length (pcells ps)) :
    Calls Tryd.prog 44 #[.pointer (some ⟨b, 0, none⟩),  .string s] w fun e w' => e = .returned (.int .i64 (findI ps s)) ∧ Below w.heap.size w w' := by
  have c0 : w.cell? ⟨b, 0, none⟩ = some v1 := by rw [cell_of_row w b 0 _ _ _ hb]; rfl
  rcases hs.2.2 with ⟨h0, A, c, rfl⟩ | ⟨g, off, c, rfl, hc, hg, hx⟩
  · have e := Lib.hid (show findI ps s = -1 by rw [List.eq_nil_of_length_eq_zero h0]; rfl)
    clear hs h0
    go_enter Tryd.func44, Tryd.ntmps44
    go_wp2
    refine wp_loop_rounds 1 ?_
    rw [rounds_succ]
    go_wp2
    go_ret
    exact ⟨ret_int e.out.symm, Below.refl _ _⟩
  · have hl := hs.2.1
    have hX := Lib.hid hx
    clear hs hx
    go_enter Tryd.func44, Tryd.ntmps44
    go_wp2
    go_loopw [12] (fun i wr => ∃ k : Nat, k ≤ ps.length ∧ i = .int .i64 k ∧ Below w.heap.size w wr ∧ Hid (∀ (j : Nat) (q : Perm), j < k → ps[j]? = some q → q.pid ≠ s)) (fun i _ => ps.length - (intOf i).toNat)
    case atStart => exact ⟨0, Nat.zero_le _, rfl, Below.refl _ _, fun j q hj => by omega⟩
    case round =>
      obtain ⟨k, hk, rfl, hB, HN⟩ := hrel
      by_cases hlt : k < ps.length
      · obtain ⟨p, hp⟩ : ∃ p, ps[k]? = some p := ⟨_, List.getElem?_eq_getElem hlt⟩
        have d0 : wr.cell? ⟨g, off + k * 5, none⟩ = some (.string p.pid) := (hB.cell hg).trans (hX.out (k * 5) _ (pcells_at hp (j := 0) (by omega)))
        have d1 : wr.cell? ⟨g, off + k * 5 + 1, none⟩ = some (.string p.psp) := (hB.cell hg).trans (hX.out (k * 5 + 1) _ (pcells_at hp (j := 1) (by omega)))
        have d2 : wr.cell? ⟨g, off + k * 5 + 2, none⟩ = some (.int .i64 p.pfr) := (hB.cell hg).trans (hX.out (k * 5 + 2) _ (pcells_at hp (j := 2) (by omega)))
        have d3 : wr.cell? ⟨g, off + k * 5 + 3, none⟩ = some (.int .i64 p.pun) := (hB.cell hg).trans (hX.out (k * 5 + 3) _ (pcells_at hp (j := 3) (by omega)))
        have d4 : wr.cell? ⟨g, off + k * 5 + 4, none⟩ = some (.int .i64 p.pqu) := (hB.cell hg).trans (hX.out (k * 5 + 4) _ (pcells_at hp (j := 4) (by omega)))
        have HP := Lib.hid hp
        clear hp
        by_cases he : p.pid = s
        · have he1 : (p.pid.toList == s.toList) = true := by rw [str_eq]; simpa using he
          have HF := Lib.hid (findI_hit HP.out HN.out he)
          clear he
          go_wp2
          go_ret
          exact ⟨ret_int HF.out.symm, by repeat (first | exact hB | apply bA | apply bD | apply bd)⟩
        · have he1 : (p.pid.toList == s.toList) = false := by rw [str_eq]; simpa using he
          have HN' : Hid (∀ (j : Nat) (q : Perm), j < k + 1 → ps[j]? = some q → q.pid ≠ s) := fun j q hj hq => by
            by_cases e : j = k
            · subst e
              rw [HP.out] at hq
              obtain rfl := Option.some.inj hq
              exact he
            · exact HN.out j q (by omega) hq
          clear he
          go_wp2
          go_roundw
          case rel => exact ⟨k + 1, by omega, by go_num, by repeat (first | exact hB | apply bA | apply bD | apply bd), HN'⟩
          case measure => simp [intOf]; omega
      · obtain rfl : k = ps.length := by omega
        have HF := Lib.hid (findI_none (fun j q hq => HN.out j q (List.getElem?_eq_some_iff.1 hq).1 hq))
        go_wp2
        go_ret
        exact ⟨ret_int HF.out.symm, hB⟩
end Go.Proofs.YtgonghmihghhnaaDoor.Pe
