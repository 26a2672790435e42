/- custody's reference: Root, Children, Same, walked. -/
import Derived.Test.YtmgegffcgmcclaaDoorRh13
namespace Go.Proofs.YtmgegffcgmcclaaDoor.Cu
open Go.RowKit Go.Proofs.YtmgegffcgmcclaaDoor.Id Go.Maps

set_option maxHeartbeats 4000000 in
set_option maxRecDepth 100000 in
set_option linter.all false in
theorem rRoot_any (v : Value) (ls : List Lk) (s : ByteArray) (w : World) (hs : SliceIs w 6 v ls.length (kcells ls)) (hI : CInv ls) :
    Calls Tryd.prog 27 #[v, .string s] w fun e w' => e = .returned (.tuple #[.string (rootS ls s), .bool (decide (0 ≤ atI ls s))]) ∧ Below w.heap.size w w' := by
  have HTRC := Lib.hid (rTrace_any v ls s w hs hI)
  have HI := Lib.hid hI
  clear hs hI
  go_enter Tryd.func27, Tryd.ntmps27
  go_wp2_with fail
  refine HTRC.out.mono ?_
  rintro e w1 ⟨v1, rfl, ho, b1⟩
  obtain ⟨A, c, rfl⟩ := own_shape ho
  by_cases h : atI ls s < 0
  · have HR : Hid (Ending.returned (.tuple #[.string ⟨#[]⟩, .bool false]) = .returned (.tuple #[.string (rootS ls s), .bool (decide (0 ≤ atI ls s))])) := by
      unfold Hid; rw [decide_eq_false (by omega), rootS, traceL_none h]; rfl
    rw [show trE ls s = 8 from if_pos h]
    have B1 := Lib.hid b1
    generalize (traceL ls s).length = n1
    clear ho b1 h
    go_wp2_with fail
    go_ret2
    exact ⟨HR.out, B1.out⟩
  · have hne := traceL_ne HI.out h
    rw [show trE ls s = 0 from if_neg h]
    generalize hT : traceL ls s = T at ho hne ⊢
    obtain ⟨x, hx⟩ : ∃ x, T[T.length - 1]? = some x := ⟨_, List.getElem?_eq_getElem (by omega)⟩
    have HR : Hid (Ending.returned (.tuple #[.string x.it, .bool true]) = .returned (.tuple #[.string (rootS ls s), .bool (decide (0 ≤ atI ls s))])) := by
      unfold Hid; rw [decide_eq_true (by omega), rootS, hT, List.getLast?_eq_getElem?, hx]
    obtain ⟨g, rfl⟩ := row_shape ho hne
    have hc : T.length ≤ c := by obtain ⟨_, _, _, h, _⟩ := slice_addr (SliceIs.of_own ho) hne; exact h
    have d0 : w1.cell? ⟨g, (T.length - 1) * 6, none⟩ = some (.string x.it) := (ho.cellAt ((T.length - 1) * 6) (by omega)).trans (kcells_at hx (j := 0) (by omega))
    have hl2 : T.length ≤ 9223372036854775807 := (SliceIs.of_own ho).2.1
    have hll : ∀ W, (Builtin.len_ #[27] 3 #[.slice (some ⟨g, 0, none⟩) T.length c]).run Tryd.prog W = .ok (.int .i64 T.length) W := fun W => by simp [Builtin.len_, run_underlying und_links]; rfl
    obtain ⟨m, hm⟩ : ∃ m, T.length = m + 1 := ⟨T.length - 1, by omega⟩
    have B1 := Lib.hid b1
    have hm2 : m + 1 ≤ 9223372036854775807 := by omega
    clear ho b1 h hx hT hne hl2
    rw [hm] at d0 hll hc ⊢
    clear hm
    have d0' : w1.cell? ⟨g, m * 6, none⟩ = some (.string x.it) := d0
    clear d0
    go_wp2_with fail
    go_ret2
    exact ⟨HR.out, B1.out⟩
set_option maxHeartbeats 4000000 in
set_option maxRecDepth 100000 in
set_option linter.all false in
theorem rChildren_any (v : Value) (ls : List Lk) (s : ByteArray) (w : World) (hs : SliceIs w 6 v ls.length (kcells ls)) (hlen : ls.length ≤ 1024) :
    Calls Tryd.prog 30 #[v, .string s] w fun e w' => ∃ v', e = .returned v' ∧ w'.ownsRow w.heap.size 9 1 v' (kidsR ls s).length (scells (kidsR ls s)) ∧ Below w.heap.size w w' := by
  have HS := Lib.hid hs
  have hl := hs.2.1
  obtain ⟨A, c, rfl⟩ := slice_shape hs
  have hll : ∀ W, (Builtin.len_ #[27] 3 #[.slice A ls.length c]).run Tryd.prog W = .ok (.int .i64 ls.length) W := fun W => by simp [Builtin.len_, run_underlying und_links]; rfl
  clear hs
  by_cases he : s = emptyB
  · have h1 : s.toList.isEmpty = true := by rw [pa_empty]; simpa using he
    have hk : Hid (kidsR ls s = []) := Lib.hid (if_pos he)
    clear he
    go_enter Tryd.func30, Tryd.ntmps30
    go_wp2
    go_loopw [5, 6] (fun u i wr => ∃ k : Nat, k ≤ ls.length ∧ i = .int .i64 k ∧ u = .slice none 0 0 ∧ w = wr) (fun _ i _ => ls.length - (intOf i).toNat)
    case atStart => exact ⟨0, Nat.zero_le _, rfl, rfl, rfl⟩
    case round =>
      obtain ⟨k, hk', rfl, rfl, rfl⟩ := hrel
      by_cases hlt : k < ls.length
      · go_wp2_with fail
        go_roundw
        case rel => exact ⟨k + 1, by omega, by go_num, rfl, trivial⟩
        case measure => simp [intOf]; omega
      · obtain rfl : k = ls.length := by omega
        go_wp2
        go_ret
        exact ⟨_, rfl, by rw [hk.out]; exact World.ownsRow_nil _ _ _ _, Below.refl _ _⟩
  · have h1 : s.toList.isEmpty = false := by rw [pa_empty]; simpa using he
    have hk : Hid (kidsR ls s = kids (ls.take ls.length) s) := Lib.hid (by rw [List.take_length]; exact if_neg he)
    clear he
    go_enter Tryd.func30, Tryd.ntmps30
    go_wp2
    go_loopw [5, 6] (fun v i wr => ∃ k : Nat, k ≤ ls.length ∧ i = .int .i64 k ∧ wr.ownsRow w.heap.size 9 1 v (kids (ls.take k) s).length (scells (kids (ls.take k) s)) ∧ Below w.heap.size w wr) (fun _ i _ => ls.length - (intOf i).toNat)
    case atStart => exact ⟨0, Nat.zero_le _, rfl, World.ownsRow_nil _ _ _ _, Below.refl _ _⟩
    case round =>
      obtain ⟨k, hk', rfl, ho, hB⟩ := hrel
      have HO := Lib.hid ho
      have HB := Lib.hid hB
      obtain ⟨A5, c5, rfl⟩ := own_shape ho
      clear ho hB
      by_cases hlt : k < ls.length
      · obtain ⟨x, hx⟩ : ∃ x, ls[k]? = some x := ⟨_, List.getElem?_eq_getElem hlt⟩
        obtain ⟨g, off, rfl, hc, _, hg, _⟩ := slice_cells HS.out hx rfl
        obtain ⟨d0, d1, d2, d3, d4, d5⟩ := slice_cells2 HS.out hx rfl HB.out
        have hS := Lib.hid (kids_succ hx s)
        have hkn := kids_len ls s k
        have hws := HB.out.size
        clear hx
        by_cases e : x.pa = s
        · have e' : (x.pa.toList == s.toList) = true := by rw [str_eq]; simpa using e
          have HS2 : Hid (kids (ls.take (k + 1)) s = kids (ls.take k) s ++ [x.it]) := Lib.hid (by rw [hS.out, if_pos e])
          clear e
          generalize kids (ls.take k) s = ks at HO HS2 hkn ⊢
          obtain ⟨i0, hi, hz0, hz1, hz2⟩ := info_parts infoStr
          go_wp2_with (at_builtin; refine wpList_append_lies _ rfl (.tmp 24) (.tmp 30) _ (by rfl) w.heap.size 9 i0 _ 1 16 und_strings hi hz0 hz1 hz2 rfl (by omega) (.slice A5 ks.length c5) ks.length (scells ks) (by rfl) (own_below HO.out (bA (Below.refl _ _) _)) ⟨wr.heap.size, 0, none⟩ 1 1 [.string x.it] (by rfl) rfl (World.news_of_block (heap_alloc_new wr _)) (by intro u hu; simp at hu; subst hu; rfl) (by omega) (by unfold maxLen; omega) (by omega) (by simp; omega) (wr.heap.size + 1) (by simp) ?_)
          intro g1 cap w4 hown hgrow hat hlt4
          have HN : Hid (w4.ownsRow w.heap.size 9 1 (.slice (some ⟨g1, 0, none⟩) (ks.length + 1) cap) (kids (ls.take (k + 1)) s).length (scells (kids (ls.take (k + 1)) s))) := by
            unfold Hid
            rw [HS2.out, scells_snoc, List.length_append]
            exact hown
          have HB4 := Lib.hid (below_of_grown (bA HB.out _) hgrow (fun k e => (HO.out.lt k e).1))
          clear hown hgrow hat hlt4
          go_wp2_with fail
          go_roundw
          case rel => exact ⟨k + 1, by omega, by go_num, HN.out, HB4.out⟩
          case measure => simp [intOf]; omega
        · have e' : (x.pa.toList == s.toList) = false := by rw [str_eq]; simpa using e
          have HS2 : Hid (kids (ls.take (k + 1)) s = kids (ls.take k) s) := Lib.hid (by rw [hS.out, if_neg e])
          clear e
          go_wp2_with fail
          go_roundw
          case rel => exact ⟨k + 1, by omega, by go_num, by rw [HS2.out]; exact HO.out, HB.out⟩
          case measure => simp [intOf]; omega
      · obtain rfl : k = ls.length := by omega
        go_wp2
        go_ret
        exact ⟨_, rfl, by rw [hk.out]; exact HO.out, HB.out⟩
set_option maxHeartbeats 4000000 in
set_option maxRecDepth 100000 in
set_option linter.all false in
/-- two lists of the same strings -/
theorem Same_any (va vb : Value) (xs : List ByteArray) (w : World) (ha : SliceIs w 1 va xs.length (scells xs)) (hb : SliceIs w 1 vb xs.length (scells xs)) :
    Calls Tryd.prog 28 #[va, vb] w fun e w' => e = .returned (.bool true) ∧ Below w.heap.size w w' := by
  have hl := hb.2.1
  obtain ⟨A1, c1, rfl⟩ := slice_shape ha
  obtain ⟨A2, c2, rfl⟩ := slice_shape hb
  have HA := Lib.hid ha
  have HB := Lib.hid hb
  have hla : ∀ W, (Builtin.len_ #[58] 3 #[.slice A1 xs.length c1]).run Tryd.prog W = .ok (.int .i64 xs.length) W := fun W => by simp [Builtin.len_, run_underlying und_strings]; rfl
  have hlb : ∀ W, (Builtin.len_ #[58] 3 #[.slice A2 xs.length c2]).run Tryd.prog W = .ok (.int .i64 xs.length) W := fun W => by simp [Builtin.len_, run_underlying und_strings]; rfl
  clear ha hb
  go_enter Tryd.func28, Tryd.ntmps28
  go_wp2
  go_loopw [5] (fun i wr => ∃ k : Nat, k ≤ xs.length ∧ i = .int .i64 k ∧ Below w.heap.size w wr) (fun i _ => xs.length - (intOf i).toNat)
  case atStart => exact ⟨0, Nat.zero_le _, rfl, Below.refl _ _⟩
  case round =>
    obtain ⟨k, hk, rfl, hB⟩ := hrel
    by_cases hlt : k < xs.length
    · obtain ⟨x, hx⟩ : ∃ x, xs[k]? = some x := ⟨_, List.getElem?_eq_getElem hlt⟩
      have hsx : (scells xs)[k]? = some (.string x) := by rw [scells, List.getElem?_map, hx]; rfl
      obtain ⟨g, off, rfl, hc, hg, hcx⟩ := slice_addr HA.out (by omega)
      obtain ⟨g2, off2, rfl, hc2, hg2, hcx2⟩ := slice_addr HB.out (by omega)
      have a0 : wr.cell? ⟨g, off + k, none⟩ = some (.string x) := (hB.cell hg).trans (hcx k _ hsx)
      have b0 : wr.cell? ⟨g2, off2 + k, none⟩ = some (.string x) := (hB.cell hg2).trans (hcx2 k _ hsx)
      clear hx hcx hcx2 hsx
      go_wp2
      go_quiet (fail)
      go_wp2
      go_roundw
      case rel => exact ⟨k + 1, by omega, by go_num, bD hB _⟩
      case measure => simp [intOf]; omega
    · obtain rfl : k = xs.length := by omega
      go_wp2
      go_ret
      exact ⟨rfl, hB⟩
end Go.Proofs.YtmgegffcgmcclaaDoor.Cu
