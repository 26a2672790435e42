/- custody's reference: Trace, walked. -/
import Derived.Test.YtmgegffcgmcclaaDoorRh11
namespace Go.Proofs.YtmgegffcgmcclaaDoor.Cu
open Go.RowKit Go.Proofs.YtmgegffcgmcclaaDoor.Id Go.Maps

theorem atI_take {ls : List Lk} {s : ByteArray} {p k : Nat} (h : atI ls s = p) (hp : p < k) : atI (ls.take k) s = p := by
  rcases atI_cases ls s with ⟨h1, _⟩ | ⟨m, x, h1, h2, h3, h4⟩
  · omega
  · have : m = p := by omega
    subst this
    refine atI_hit (p := x) (by rw [List.getElem?_take, if_pos hp]; exact h1) (fun j q hj hq => ?_) h3
    rw [List.getElem?_take] at hq
    split at hq
    · exact h4 j q hj hq
    · simp at hq
def tailT (ls : List Lk) (x : Lk) : List Lk := if x.pa = emptyB then [] else traceL ls x.pa
set_option maxHeartbeats 4000000 in
set_option maxRecDepth 100000 in
set_option linter.all false in
theorem rTrace_any (v : Value) (ls : List Lk) (s : ByteArray) (w : World) (hs : SliceIs w 6 v ls.length (kcells ls)) (hI : CInv ls) :
    Calls Tryd.prog 25 #[v, .string s] w fun e w' => ∃ v', e = .returned (.tuple #[v', .int .i64 (trE ls s)]) ∧ w'.ownsRow w.heap.size 44 6 v' (traceL ls s).length (kcells (traceL ls s)) ∧ Below w.heap.size w w' := by
  have HS := Lib.hid hs
  have HI := Lib.hid hI
  obtain ⟨A, c, rfl⟩ := slice_shape hs
  have hlen := hI.len
  clear hs hI
  rcases atI_cases ls s with ⟨h1, _⟩ | ⟨k0, x0, hx0, hat0, _, _⟩
  · have HE : Hid (trE ls s = 8) := Lib.hid (if_pos (by omega))
    have HT : Hid (traceL ls s = []) := Lib.hid (traceL_none (by omega))
    obtain ⟨eb, heb⟩ : ∃ eb, s.toList.isEmpty = eb := ⟨_, rfl⟩
    go_enter Tryd.func25, Tryd.ntmps25
    go_wp2_with fail
    refine (rat_any _ ls s _ HS.out).mono ?_
    rintro e w2 ⟨rfl, rfl⟩
    rw [h1]
    clear h1
    cases eb
    all_goals
      go_wp2_with fail
      go_ret2
      exact ⟨_, by rw [HE.out]; rfl, by rw [HT.out]; exact World.ownsRow_nil _ _ _ _, Below.refl _ _⟩
  · have hse : s.toList.isEmpty = false := by
      rw [pa_empty]
      simp only [decide_eq_false_iff_not]
      intro e
      rw [e] at hat0
      have := HI.out.empty
      omega
    have HE : Hid (trE ls s = 0) := Lib.hid (if_neg (by omega))
    have HT0 : Hid (traceL ls s = [] ++ (x0 :: tailT ls x0)) := Lib.hid (traceL_step HI.out hx0 hat0)
    have HX0 := Lib.hid hx0
    have HA0 := Lib.hid hat0
    clear hx0 hat0
    go_enter Tryd.func25, Tryd.ntmps25
    go_wp2_with fail
    refine (rat_any _ ls s _ HS.out).mono ?_
    rintro e w2 ⟨rfl, rfl⟩
    rw [HA0.out]
    have hk0 : decide ((k0 : Int) < 0) = false := by simp
    go_wp2_with fail
    go_loopw [6, 7] (fun u i wr => ∃ (k : Nat) (x : Lk) (acc : List Lk), i = .int .i64 k ∧ Hid (ls[k]? = some x) ∧ Hid (wr.ownsRow w.heap.size 44 6 u acc.length (kcells acc)) ∧ Hid (Below w.heap.size w wr) ∧ Hid (traceL ls s = acc ++ (x :: tailT ls x))) (fun _ i _ => (intOf i).toNat)
    case atStart => exact ⟨k0, x0, [], rfl, HX0, World.ownsRow_nil _ _ _ _, Below.refl _ _, HT0⟩
    case round =>
      obtain ⟨k, x, acc, rfl, HX, HO, HB, HTr⟩ := hrel
      obtain ⟨A6, c6, rfl⟩ := own_shape HO.out
      have hk : decide (0 ≤ (k : Int)) = true := by simp
      obtain ⟨g, off, rfl, hc, hlt, hg, _⟩ := slice_cells HS.out HX.out rfl
      have SC := Lib.hid (fun (W : World) (hW : Below w.heap.size w W) => slice_cells2 HS.out HX.out rfl hW)
      obtain ⟨d0, d1, d2, d3, d4, d5⟩ := SC.out wr HB.out
      have HNX := Lib.hid (HI.out.up k x HX.out)
      have hal : acc.length ≤ 1025 := by have := HTr.out; have h2 := trF_len (ls.length + 1) ls s; unfold traceL at this; rw [this] at h2; simp at h2; omega
      have hws := HB.out.size
      obtain ⟨i0, hi, hz0, hz1, hz2⟩ := info_parts infoLink
      go_wp2_with (at_builtin; refine wpList_append_lies _ rfl (.tmp 19) (.tmp 24) _ (by rfl) w.heap.size 44 i0 _ 6 72 und_links hi hz0 hz1 hz2 rfl (by omega) (.slice A6 acc.length c6) acc.length (kcells acc) (by rfl) (own_below HO.out (bA (Below.refl _ _) _)) ⟨wr.heap.size, 0, none⟩ 1 1 x.cells (by rfl) rfl (World.news_of_block (heap_alloc_new wr _)) (lk_one x) (by omega) (by unfold maxLen; omega) (by omega) (by simp; omega) (wr.heap.size + 1) (by simp) ?_)
      intro g1 cap w4 hown hgrow hat4 hlt4
      have HB4 := Lib.hid (below_of_grown (bA HB.out _) hgrow (fun k e => (HO.out.lt k e).1))
      have HN : Hid (w4.ownsRow w.heap.size 44 6 (.slice (some ⟨g1, 0, none⟩) (acc.length + 1) cap) (acc ++ [x]).length (kcells (acc ++ [x]))) := by
        unfold Hid
        rw [kcells_snoc, List.length_append]
        exact hown
      clear hown hgrow hat4 hlt4 d0 d1 d2 d3 d4 d5
      obtain ⟨d0, d1, d2, d3, d4, d5⟩ := SC.out w4 HB4.out
      by_cases hp : x.pa = emptyB
      · have hpe : x.pa.toList.isEmpty = true := by rw [pa_empty]; simpa using hp
        have HT : Hid (traceL ls s = acc ++ [x]) := by unfold Hid; rw [HTr.out, tailT, if_pos hp]
        clear hp
        go_wp2_with fail
        go_ret2
        exact ⟨_, by rw [HE.out]; rfl, by rw [HT.out]; exact HN.out, HB4.out⟩
      · have hpe : x.pa.toList.isEmpty = false := by rw [pa_empty]; simpa using hp
        obtain ⟨p, u, hu, hpu, hpk⟩ : ∃ (p : Nat) (u : Lk), ls[p]? = some u ∧ atI ls x.pa = p ∧ p < k := by
          rcases HNX.out with h | ⟨h3, h4⟩
          · exact absurd h hp
          · rcases atI_cases ls x.pa with ⟨h5, _⟩ | ⟨p, u, h5, h6, _⟩
            · omega
            · exact ⟨p, u, h5, h6, by omega⟩
        have HT : Hid (traceL ls s = (acc ++ [x]) ++ (u :: tailT ls u)) := by
          unfold Hid
          rw [HTr.out, tailT, if_neg hp, traceL_step HI.out hu hpu, List.append_assoc]
          rfl
        have HU := Lib.hid hu
        have HPK := Lib.hid hpk
        have HAT := Lib.hid (fun (W : World) (hW : Below w.heap.size w W) => (atI_take hpu hpk ▸ rat_any _ (ls.take k) x.pa W (SliceIs.take rfl (HS.out.below hW) (k := k) (by omega))))
        obtain ⟨ι, hne, f, j0, hj0, hF, hCC⟩ := below_class w4
        have FF := Lib.hid hF
        have FC := Lib.hid hCC
        have x1 := fun n => (SC.out _ (bT HB4.out (FF.out n))).2.1
        have hkc : k ≤ c := by omega
        have hk1 : (k : Int) ≤ (c : Int) := by omega
        have hk2 : (k : Int) < (ls.length : Int) := by omega
        clear hp hu hpu hpk hF hCC
        go_wp2_with fail
        refine wp_region_class f j0 hj0 (by kernel_rfl) (by kernel_rfl) ?_
        repeat (first
          | go_big_quiet_step ((first
              | (go_at_call 36; exact class_call FC.out ((HAT.out _ (bT HB4.out (FF.out _))).mono (fun _ _ h => ⟨h.1, h.2 ▸ Below.refl _ _⟩))))))
        refine wpQuiet_nil ?_
        rintro _ ⟨nq, rfl⟩
        have B5 := Lib.hid (bT HB4.out (FF.out nq))
        have HN5 := Lib.hid (own_below HN.out (FF.out nq))
        clear x1 hj0
        generalize f nq = w5 at B5 HN5 ⊢
        clear FF FC
        go_wp2_with fail
        go_roundw
        case rel => exact ⟨p, u, acc ++ [x], rfl, HU, (by unfold Hid; exact HN5.out), B5, HT⟩
        case measure => have := HPK.out; simp [intOf]; omega
end Go.Proofs.YtmgegffcgmcclaaDoor.Cu
