/- the reference of permits: Same on equal lists, walked. -/
import Derived.Test.YtgonghmihghhnaaDoorRf1
import Derived.Deep.QuietTactic
import Derived.BigQuiet
namespace Go.Proofs.YtgonghmihghhnaaDoor.Pe
open Go.RowKit Go.Proofs.YtgonghmihghhnaaDoor.Id

set_option maxHeartbeats 2000000 in
theorem Same_any (va vb : Value) (ps : List Perm) (w : World) (ha : SliceIs w 5 va ps.length (pcells ps)) (hb : SliceIs w 5 vb ps.length (pcells ps)) :
    Calls Tryd.prog 28 #[va, vb] w fun e w' => e = .returned (.bool true) ∧ Below w.heap.size w w' := by
  have hl := hb.2.1
  rcases ha.2.2 with ⟨h0, A, c, rfl⟩ | ⟨g, off, c, rfl, hc, hg, hx⟩
  · have hlb := fun W => run_len_is (P := Tryd.prog) (ty := 3) undPermits hb W
    rw [h0] at hlb
    clear ha hb h0 hl
    go_enter Tryd.func28, Tryd.ntmps28
    go_wp2
    refine wp_loop_rounds 1 ?_
    rw [rounds_succ]
    go_wp2
    go_ret
    exact ⟨rfl, Below.refl _ _⟩
  · rcases hb.2.2 with ⟨h0, A, c', rfl⟩ | ⟨g', off', c', rfl, hc', hg', hx'⟩
    · have hla := fun W => run_len_is (P := Tryd.prog) (ty := 3) undPermits ha W
      rw [h0] at hla ⊢
      clear ha hb h0 hl hx
      go_enter Tryd.func28, Tryd.ntmps28
      go_wp2
      refine wp_loop_rounds 1 ?_
      rw [rounds_succ]
      go_wp2
      go_ret
      exact ⟨rfl, Below.refl _ _⟩
    · have hX := Lib.hid hx
      have hY := Lib.hid hx'
      clear ha hb hx hx'
      go_enter Tryd.func28, Tryd.ntmps28
      go_wp2
      go_loopw [5] (fun i wr => ∃ k : Nat, k ≤ ps.length ∧ i = .int .i64 k ∧ Below w.heap.size w wr) (fun i _ => ps.length - (intOf i).toNat)
      case atStart => exact ⟨0, Nat.zero_le _, rfl, Below.refl _ _⟩
      case round =>
        obtain ⟨k, hk, rfl, hB⟩ := hrel
        by_cases hlt : k < ps.length
        · obtain ⟨p, hp⟩ : ∃ p, ps[k]? = some p := ⟨_, List.getElem?_eq_getElem hlt⟩
          have d0 : wr.cell? ⟨g, off + k * 5, none⟩ = some (.string p.pid) := (hB.cell hg).trans (hX.out (k * 5) _ (pcells_at hp (j := 0) (by omega)))
          have d1 : wr.cell? ⟨g, off + k * 5 + 1, none⟩ = some (.string p.psp) := (hB.cell hg).trans (hX.out (k * 5 + 1) _ (pcells_at hp (j := 1) (by omega)))
          have d2 : wr.cell? ⟨g, off + k * 5 + 2, none⟩ = some (.int .i64 p.pfr) := (hB.cell hg).trans (hX.out (k * 5 + 2) _ (pcells_at hp (j := 2) (by omega)))
          have d3 : wr.cell? ⟨g, off + k * 5 + 3, none⟩ = some (.int .i64 p.pun) := (hB.cell hg).trans (hX.out (k * 5 + 3) _ (pcells_at hp (j := 3) (by omega)))
          have d4 : wr.cell? ⟨g, off + k * 5 + 4, none⟩ = some (.int .i64 p.pqu) := (hB.cell hg).trans (hX.out (k * 5 + 4) _ (pcells_at hp (j := 4) (by omega)))
          have e0 : wr.cell? ⟨g', off' + k * 5, none⟩ = some (.string p.pid) := (hB.cell hg').trans (hY.out (k * 5) _ (pcells_at hp (j := 0) (by omega)))
          have e1 : wr.cell? ⟨g', off' + k * 5 + 1, none⟩ = some (.string p.psp) := (hB.cell hg').trans (hY.out (k * 5 + 1) _ (pcells_at hp (j := 1) (by omega)))
          have e2 : wr.cell? ⟨g', off' + k * 5 + 2, none⟩ = some (.int .i64 p.pfr) := (hB.cell hg').trans (hY.out (k * 5 + 2) _ (pcells_at hp (j := 2) (by omega)))
          have e3 : wr.cell? ⟨g', off' + k * 5 + 3, none⟩ = some (.int .i64 p.pun) := (hB.cell hg').trans (hY.out (k * 5 + 3) _ (pcells_at hp (j := 3) (by omega)))
          have e4 : wr.cell? ⟨g', off' + k * 5 + 4, none⟩ = some (.int .i64 p.pqu) := (hB.cell hg').trans (hY.out (k * 5 + 4) _ (pcells_at hp (j := 4) (by omega)))
          clear hp
          go_wp2
          go_quiet (fail)
          go_wp2
          go_roundw
          case rel => exact ⟨k + 1, by omega, by go_num, bD hB _⟩
          case measure => simp [intOf]; omega
        · obtain rfl : k = ps.length := by omega
          go_wp2
          go_ret
          exact ⟨rfl, hB⟩
end Go.Proofs.YtgonghmihghhnaaDoor.Pe
