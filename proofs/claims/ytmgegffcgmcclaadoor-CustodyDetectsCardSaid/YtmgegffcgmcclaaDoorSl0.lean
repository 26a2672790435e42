/- custody's reference: SameLinks, walked. -/
import Derived.Test.YtmgegffcgmcclaaDoorCl3
namespace Go.Proofs.YtmgegffcgmcclaaDoor.Cu
open Go.RowKit Go.Proofs.YtmgegffcgmcclaaDoor.Id Go.Maps

theorem kcells_nil {ls : List Lk} (h : kcells ls = []) : ls = [] := by
  have := kcells_len ls
  rw [h] at this
  simp at this
  exact List.eq_nil_of_length_eq_zero (by omega)
set_option maxHeartbeats 4000000 in
set_option maxRecDepth 100000 in
set_option linter.all false in
/-- two lists of the same links -/
theorem SameLinks_any (va vb : Value) (xs : List Lk) (w : World) (ha : SliceIs w 6 va xs.length (kcells xs)) (hb : SliceIs w 6 vb xs.length (kcells xs)) :
    Calls Tryd.prog 16 #[va, vb] w fun e w' => e = .returned (.bool true) ∧ Below w.heap.size w w' := by
  have hl := hb.2.1
  obtain ⟨A1, c1, rfl⟩ := slice_shape ha
  obtain ⟨A2, c2, rfl⟩ := slice_shape hb
  have HA := Lib.hid ha
  have HB := Lib.hid hb
  have hla : ∀ W, (Builtin.len_ #[27] 3 #[.slice A1 xs.length c1]).run Tryd.prog W = .ok (.int .i64 xs.length) W := fun W => by simp [Builtin.len_, run_underlying und_links]; rfl
  have hlb : ∀ W, (Builtin.len_ #[27] 3 #[.slice A2 xs.length c2]).run Tryd.prog W = .ok (.int .i64 xs.length) W := fun W => by simp [Builtin.len_, run_underlying und_links]; rfl
  clear ha hb
  go_enter Tryd.func16, Tryd.ntmps16
  go_wp2
  go_loopw [5] (fun i wr => ∃ k : Nat, k ≤ xs.length ∧ i = .int .i64 k ∧ Below w.heap.size w wr) (fun i _ => xs.length - (intOf i).toNat)
  case atStart => exact ⟨0, Nat.zero_le _, rfl, Below.refl _ _⟩
  case round =>
    obtain ⟨k, hk, rfl, hB⟩ := hrel
    by_cases hlt : k < xs.length
    · obtain ⟨x, hx⟩ : ∃ x, xs[k]? = some x := ⟨_, List.getElem?_eq_getElem hlt⟩
      obtain ⟨g, off, rfl, hc, hg, hcx⟩ := slice_addr HA.out (by omega)
      obtain ⟨g2, off2, rfl, hc2, hg2, hcx2⟩ := slice_addr HB.out (by omega)
      have a0 : wr.cell? ⟨g, off + k * 6, none⟩ = some (.string x.it) := (hB.cell hg).trans (hcx (k * 6) _ (kcells_at hx (j := 0) (by omega)))
      have a1 : wr.cell? ⟨g, off + k * 6 + 1, none⟩ = some (.string x.pa) := (hB.cell hg).trans (hcx (k * 6 + 1) _ (kcells_at hx (j := 1) (by omega)))
      have a2 : wr.cell? ⟨g, off + k * 6 + 2, none⟩ = some (.int .i64 x.t) := (hB.cell hg).trans (hcx (k * 6 + 2) _ (kcells_at hx (j := 2) (by omega)))
      have a3 : wr.cell? ⟨g, off + k * 6 + 3, none⟩ = some (.int .i64 x.vo) := (hB.cell hg).trans (hcx (k * 6 + 3) _ (kcells_at hx (j := 3) (by omega)))
      have a4 : wr.cell? ⟨g, off + k * 6 + 4, none⟩ = some (.string x.sp) := (hB.cell hg).trans (hcx (k * 6 + 4) _ (kcells_at hx (j := 4) (by omega)))
      have a5 : wr.cell? ⟨g, off + k * 6 + 5, none⟩ = some (.int .u64 x.ha) := (hB.cell hg).trans (hcx (k * 6 + 5) _ (kcells_at hx (j := 5) (by omega)))
      have b0 : wr.cell? ⟨g2, off2 + k * 6, none⟩ = some (.string x.it) := (hB.cell hg2).trans (hcx2 (k * 6) _ (kcells_at hx (j := 0) (by omega)))
      have b1 : wr.cell? ⟨g2, off2 + k * 6 + 1, none⟩ = some (.string x.pa) := (hB.cell hg2).trans (hcx2 (k * 6 + 1) _ (kcells_at hx (j := 1) (by omega)))
      have b2 : wr.cell? ⟨g2, off2 + k * 6 + 2, none⟩ = some (.int .i64 x.t) := (hB.cell hg2).trans (hcx2 (k * 6 + 2) _ (kcells_at hx (j := 2) (by omega)))
      have b3 : wr.cell? ⟨g2, off2 + k * 6 + 3, none⟩ = some (.int .i64 x.vo) := (hB.cell hg2).trans (hcx2 (k * 6 + 3) _ (kcells_at hx (j := 3) (by omega)))
      have b4 : wr.cell? ⟨g2, off2 + k * 6 + 4, none⟩ = some (.string x.sp) := (hB.cell hg2).trans (hcx2 (k * 6 + 4) _ (kcells_at hx (j := 4) (by omega)))
      have b5 : wr.cell? ⟨g2, off2 + k * 6 + 5, none⟩ = some (.int .u64 x.ha) := (hB.cell hg2).trans (hcx2 (k * 6 + 5) _ (kcells_at hx (j := 5) (by omega)))
      clear hx hcx hcx2
      go_wp2
      go_quiet (fail)
      go_wp2
      go_roundw
      case rel => exact ⟨k + 1, by omega, by go_num, bD hB _⟩
      case measure => simp [intOf]; omega
    · obtain rfl : k = xs.length := by omega
      go_wp2
      go_ret
      exact ⟨rfl, hB⟩
end Go.Proofs.YtmgegffcgmcclaaDoor.Cu
