/- custody: Children, walked. -/
import Derived.Test.YtgonghmihghhnaaDoorCu7
namespace Go.Proofs.YtgonghmihghhnaaDoor.Cu
open Go.RowKit Go.Proofs.YtgonghmihghhnaaDoor.Id Go.Maps

def kids (ls : List Lk) (s : ByteArray) : List ByteArray := (ls.filter (fun x => decide (x.pa = s))).map Lk.it
def kidsR (ls : List Lk) (s : ByteArray) : List ByteArray := if s = emptyB then [] else kids ls s
def scells (l : List ByteArray) : List Value := l.map Value.string
theorem scells_snoc (l : List ByteArray) (s : ByteArray) : scells (l ++ [s]) = scells l ++ [.string s] := by simp [scells]
theorem kids_succ {ls : List Lk} {k : Nat} {x : Lk} (h : ls[k]? = some x) (s : ByteArray) : kids (ls.take (k + 1)) s = if x.pa = s then kids (ls.take k) s ++ [x.it] else kids (ls.take k) s := by
  unfold kids
  rw [List.take_add_one, h]
  by_cases e : x.pa = s <;> simp [e, List.filter_append]
theorem kids_len (ls : List Lk) (s : ByteArray) (k : Nat) : (kids (ls.take k) s).length ≤ ls.length := by
  unfold kids
  rw [List.length_map]
  exact Nat.le_trans (List.length_filter_le _ _) (by rw [List.length_take]; omega)
theorem und_strings : Tryd.prog.underlying 69 = some (.slice 9) := by kernel_rfl
theorem infoStr : (Tryd.prog.info? 9).map (fun i => (i.zero, i.size, i.bytes)) = some (some (.string ⟨#[]⟩), 1, 16) := by kernel_rfl
set_option maxHeartbeats 4000000 in
set_option maxRecDepth 100000 in
set_option linter.all false in
theorem Children_any (b : Nat) (F : Nat → Prop) (ls : List Lk) (s : ByteArray) (w : World) (hR : CReg w F b ls) :
    Calls Tryd.prog 32 #[.pointer (some ⟨b, 0, none⟩), .string s] w fun e w' => ∃ v, e = .returned v ∧ w'.ownsRow w.heap.size 9 1 v (kidsR ls s).length (scells (kidsR ls s)) ∧ Below w.heap.size w w' := by
  have hlen := hR.inv.len
  have HR := Lib.hid hR
  obtain ⟨A, c, m1, m2, c0, c1, c2, hbw, _, _, _, _, lk⟩ := hR.facts
  have LK := Lib.hid lk
  have hll : ∀ W, (Builtin.len_ #[33] 3 #[.slice A ls.length c]).run Tryd.prog W = .ok (.int .i64 ls.length) W := fun W => by simp [Builtin.len_, run_underlying und_links]; rfl
  clear hR lk
  by_cases he : s = emptyB
  · have h1 : s.toList.isEmpty = true := by rw [pa_empty]; simpa using he
    have hk : Hid (kidsR ls s = []) := Lib.hid (if_pos he)
    clear he
    go_enter Tryd.func32, Tryd.ntmps32
    go_wp2
    go_ret
    exact ⟨_, rfl, by rw [hk.out]; exact World.ownsRow_nil _ _ _ _, Below.refl _ _⟩
  · have h1 : s.toList.isEmpty = false := by rw [pa_empty]; simpa using he
    have hk : Hid (kidsR ls s = kids (ls.take ls.length) s) := Lib.hid (by rw [List.take_length]; exact if_neg he)
    clear he
    go_enter Tryd.func32, Tryd.ntmps32
    go_wp2
    go_loopw [5, 19] (fun v i wr => ∃ k : Nat, k ≤ ls.length ∧ i = .int .i64 k ∧ wr.ownsRow w.heap.size 9 1 v (kids (ls.take k) s).length (scells (kids (ls.take k) s)) ∧ Below w.heap.size w wr) (fun _ i _ => ls.length - (intOf i).toNat)
    case atStart => exact ⟨0, Nat.zero_le _, rfl, World.ownsRow_nil _ _ _ _, Below.refl _ _⟩
    case round =>
      obtain ⟨k, hk', rfl, ho, hB⟩ := hrel
      have HO := Lib.hid ho
      have HB := Lib.hid hB
      obtain ⟨A5, c5, rfl⟩ := own_shape ho
      clear ho hB
      by_cases hlt : k < ls.length
      · obtain ⟨x, hx⟩ : ∃ x, ls[k]? = some x := ⟨_, List.getElem?_eq_getElem hlt⟩
        obtain ⟨g, rfl, hgw, hkl, hkc, g0, g1, g2, g3, g4, g5⟩ := LK.out k x hx
        have d0 := (HB.out.cell (p := ⟨g, k * 6, none⟩) hgw).trans g0
        have d1 := (HB.out.cell (p := ⟨g, k * 6 + 1, none⟩) hgw).trans g1
        have d2 := (HB.out.cell (p := ⟨g, k * 6 + 2, none⟩) hgw).trans g2
        have d3 := (HB.out.cell (p := ⟨g, k * 6 + 3, none⟩) hgw).trans g3
        have d4 := (HB.out.cell (p := ⟨g, k * 6 + 4, none⟩) hgw).trans g4
        have d5 := (HB.out.cell (p := ⟨g, k * 6 + 5, none⟩) hgw).trans g5
        have hS := Lib.hid (kids_succ hx s)
        have hkn := kids_len ls s k
        have hws := HB.out.size
        clear g0 g1 g2 g3 g4 g5 hx
        by_cases e : x.pa = s
        · have e' : (x.pa.toList == s.toList) = true := by rw [str_eq]; simpa using e
          have HS : Hid (kids (ls.take (k + 1)) s = kids (ls.take k) s ++ [x.it]) := Lib.hid (by rw [hS.out, if_pos e])
          clear e
          generalize kids (ls.take k) s = ks at HO HS hkn ⊢
          obtain ⟨i0, hi, hz0, hz1, hz2⟩ := info_parts infoStr
          go_wp2_with (at_builtin; refine wpList_append_lies _ rfl (.tmp 27) (.tmp 30) _ (by rfl) w.heap.size 9 i0 _ 1 16 und_strings hi hz0 hz1 hz2 rfl (by omega) (.slice A5 ks.length c5) ks.length (scells ks) (by rfl) (own_below HO.out (bA (bA (Below.refl _ _) _) _)) ⟨wr.heap.size + 1, 0, none⟩ 1 1 [.string x.it] (by rfl) rfl ?hnews (by intro u hu; simp at hu; subst hu; rfl) (by omega) (by unfold maxLen; omega) (by omega) (by simp; omega) (wr.heap.size + 1 + 1) (by simp) ?_)
          case hnews =>
            have e := heap_alloc_new (wr.alloc (.cells #[.string x.it, .string x.pa, .int .i64 x.t, .int .i64 x.vo, .string x.sp, .int .u64 x.ha] 36)) (.cells #[.string x.it] 9)
            rw [show (wr.alloc (.cells #[.string x.it, .string x.pa, .int .i64 x.t, .int .i64 x.vo, .string x.sp, .int .u64 x.ha] 36)).heap.size = wr.heap.size + 1 by simp] at e
            exact World.news_of_block e
          intro g1 cap w4 hown hgrow hat hlt4
          have HN : Hid (w4.ownsRow w.heap.size 9 1 (.slice (some ⟨g1, 0, none⟩) (ks.length + 1) cap) (kids (ls.take (k + 1)) s).length (scells (kids (ls.take (k + 1)) s))) := by
            unfold Hid
            rw [HS.out, scells_snoc, List.length_append]
            exact hown
          have HB4 := Lib.hid (below_of_grown (bA (bA HB.out _) _) hgrow (fun k e => (HO.out.lt k e).1))
          clear hown hgrow hat hlt4
          go_wp2_with fail
          go_roundw
          case rel => exact ⟨k + 1, by omega, by go_num, HN.out, HB4.out⟩
          case measure => simp [intOf]; omega
        · have e' : (x.pa.toList == s.toList) = false := by rw [str_eq]; simpa using e
          have HS : Hid (kids (ls.take (k + 1)) s = kids (ls.take k) s) := Lib.hid (by rw [hS.out, if_neg e])
          clear e
          go_wp2_with fail
          go_roundw
          case rel => exact ⟨k + 1, by omega, by go_num, by rw [HS.out]; exact own_below HO.out (bA (Below.refl _ _) _), bA HB.out _⟩
          case measure => simp [intOf]; omega
      · obtain rfl : k = ls.length := by omega
        go_wp2
        go_ret
        exact ⟨_, rfl, by rw [hk.out]; exact HO.out, HB.out⟩
end Go.Proofs.YtgonghmihghhnaaDoor.Cu
