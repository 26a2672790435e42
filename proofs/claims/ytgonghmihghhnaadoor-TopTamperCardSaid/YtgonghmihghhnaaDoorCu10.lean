/- custody: Trace and Root, walked. -/
import Derived.Test.YtgonghmihghhnaaDoorCu9
namespace Go.Proofs.YtgonghmihghhnaaDoor.Cu
open Go.RowKit Go.Proofs.YtgonghmihghhnaaDoor.Id Go.Maps

theorem CInv.empty {ls : List Lk} (h : CInv ls) : atI ls emptyB < 0 := by
  rcases atI_cases ls emptyB with ⟨h1, _⟩ | ⟨k, x, h1, _, h3, _⟩
  · omega
  · have := (h.each k x h1).2.2.2.2.1
    rw [h3] at this
    exact absurd this (by decide)
theorem tr_next {ls acc : List Lk} {x : Lk} {s : ByteArray} {k : Nat} (h : traceL ls s = (acc ++ [x]) ++ (if x.pa = emptyB then [] else traceL ls x.pa)) (hn : x.pa = emptyB ∨ (0 ≤ atI ls x.pa ∧ atI ls x.pa < k)) : (x.pa = emptyB ∧ traceL ls s = acc ++ [x]) ∨ (x.pa ≠ emptyB ∧ 0 ≤ atI ls x.pa ∧ traceL ls s = (acc ++ [x]) ++ traceL ls x.pa) := by
  by_cases e : x.pa = emptyB
  · exact .inl ⟨e, by rw [h, if_pos e, List.append_nil]⟩
  · rcases hn with h' | h'
    · exact absurd h' e
    · exact .inr ⟨e, h'.1, by rw [h, if_neg e]⟩
def trE (ls : List Lk) (s : ByteArray) : Int := if atI ls s < 0 then 8 else 0
theorem tr_less {ls : List Lk} {t : ByteArray} {x : Lk} {k : Nat} (h : atI ls t = k) (hn : x.pa = emptyB ∨ (0 ≤ atI ls x.pa ∧ atI ls x.pa < k)) (hI : CInv ls) : (atI ls (strOf (.string x.pa)) + 1).toNat < (atI ls (strOf (.string t)) + 1).toNat := by
  show (atI ls x.pa + 1).toNat < (atI ls t + 1).toNat
  rw [h]
  rcases hn with e | ⟨h1, h2⟩
  · rw [e]; have := hI.empty; omega
  · omega
set_option maxHeartbeats 4000000 in
set_option maxRecDepth 100000 in
set_option linter.all false in
theorem Trace_any (b : Nat) (F : Nat → Prop) (ls : List Lk) (s : ByteArray) (w : World) (hR : CReg w F b ls) (hs : s.size ≤ 140737488355328) :
    Calls Tryd.prog 31 #[.pointer (some ⟨b, 0, none⟩), .string s] w fun e w' => ∃ v, e = .returned (.tuple #[v, .int .i64 (trE ls s)]) ∧ w'.ownsRow w.heap.size 36 6 v (traceL ls s).length (kcells (traceL ls s)) ∧ Below w.heap.size w w' := by
  have hlen := hR.inv.len
  have hI := Lib.hid hR.inv
  obtain ⟨A, c, m1, m2, c0, c1, _, hbw, la, hm1, _, _, lk⟩ := hR.facts
  have LK := Lib.hid lk
  have LA0 := Lib.hid la
  have hsm : Hid (s.size ≤ maxLen) := Lib.hid (by unfold maxLen; omega)
  clear hR lk la
  go_enter Tryd.func31, Tryd.ntmps31
  go_wp2
  go_loopw [1, 6] (fun q v wr => ∃ (t : ByteArray) (acc : List Lk), q = .string t ∧ Hid (wr.ownsRow w.heap.size 36 6 v acc.length (kcells acc)) ∧ Hid (Below w.heap.size w wr) ∧ Hid (t.size ≤ maxLen) ∧ ((acc = [] ∧ t = s) ∨ (acc ≠ [] ∧ ((t = emptyB ∧ traceL ls s = acc) ∨ (t ≠ emptyB ∧ 0 ≤ atI ls t ∧ traceL ls s = acc ++ traceL ls t))))) (fun q _ _ => (atI ls (strOf q) + 1).toNat)
  case atStart => exact ⟨s, [], rfl, World.ownsRow_nil _ _ _ _, Below.refl _ _, hsm, .inl ⟨rfl, rfl⟩⟩
  case round =>
    obtain ⟨t, acc, rfl, HO, HB, HSZ, hinv⟩ := hrel
    obtain ⟨A6, c6, rfl⟩ := own_shape HO.out
    rcases hinv with ⟨h1, h2⟩ | ⟨h1, ⟨h2, h3⟩ | ⟨h2, h3, h4⟩⟩
    · have hn : ((acc.length : Int) == 0) = true := by rw [h1]; rfl
      have hll : ∀ W, (Builtin.len_ #[33] 3 #[.slice A6 acc.length c6]).run Tryd.prog W = .ok (.int .i64 acc.length) W := fun W => by simp [Builtin.len_, run_underlying und_links]; rfl
      rcases atI_cases ls t with ⟨h3, _⟩ | ⟨k, x, hx, hat, hxt, hxn⟩
      · have LA : (Instr.lookup 77 (.map (some m1)) (.string t) true).run Tryd.prog wr = .ok (.tuple #[.int .i64 0, .bool false]) wr := by
          rw [LA0.out t HSZ.out wr (HB.out.block m1 hm1), atZ, if_neg (by omega), decide_eq_false (by omega)]
        have b0 := (HB.out.cell (p := ⟨b, 0, none⟩) hbw).trans c0
        have b1 := (HB.out.cell (p := ⟨b, 1, none⟩) hbw).trans c1
        have HH : Hid (atI ls s < 0) := Lib.hid (by rw [← h2]; omega)
        obtain ⟨eb, heb⟩ : ∃ eb, t.toList.isEmpty = eb := ⟨_, rfl⟩
        clear h1 h2 h3
        cases eb
        all_goals
          go_wp2
          go_ret2
          exact ⟨_, by rw [show trE ls s = 8 from if_pos HH.out]; rfl, by rw [traceL_none HH.out]; exact World.ownsRow_nil _ _ _ _, HB.out⟩
      · have hte : t.toList.isEmpty = false := by
          rw [pa_empty]
          simp only [decide_eq_false_iff_not]
          intro e
          rw [e] at hat
          have := hI.out.empty
          omega
        have HTr : Hid (traceL ls s = acc ++ traceL ls t) := Lib.hid (by rw [h1, h2]; rfl)
        clear h1 h2 hn hll
        obtain ⟨g, rfl, hgw, hkl, hkc, g0, g1, g2, g3, g4, g5⟩ := LK.out k x hx
        have LA : (Instr.lookup 77 (.map (some m1)) (.string t) true).run Tryd.prog wr = .ok (.tuple #[.int .i64 k, .bool true]) wr := by
          rw [LA0.out t HSZ.out wr (HB.out.block m1 hm1), atZ, if_pos (by omega), decide_eq_true (by omega), hat]
        have b0 := (HB.out.cell (p := ⟨b, 0, none⟩) hbw).trans c0
        have b1 := (HB.out.cell (p := ⟨b, 1, none⟩) hbw).trans c1
        have d0 := (HB.out.cell (p := ⟨g, k * 6, none⟩) hgw).trans g0
        have d1 := (HB.out.cell (p := ⟨g, k * 6 + 1, none⟩) hgw).trans g1
        have d2 := (HB.out.cell (p := ⟨g, k * 6 + 2, none⟩) hgw).trans g2
        have d3 := (HB.out.cell (p := ⟨g, k * 6 + 3, none⟩) hgw).trans g3
        have d4 := (HB.out.cell (p := ⟨g, k * 6 + 4, none⟩) hgw).trans g4
        have d5 := (HB.out.cell (p := ⟨g, k * 6 + 5, none⟩) hgw).trans g5
        have G1 := Lib.hid g1
        have HTS : Hid (traceL ls s = (acc ++ [x]) ++ (if x.pa = emptyB then [] else traceL ls x.pa)) := by
          unfold Hid; rw [HTr.out, traceL_step hI.out hx hat, List.append_assoc]; rfl
        have HAT := Lib.hid hat
        have HNX : Hid (x.pa = emptyB ∨ (0 ≤ atI ls x.pa ∧ atI ls x.pa < k)) := Lib.hid (hI.out.up k x hx)
        have HPZ : Hid (x.pa.size ≤ maxLen) := by have := (hI.out.each k x hx).2.2.2.2.2.1; unfold Hid maxLen; omega
        have hal : acc.length ≤ 1025 := by have := HTS.out; have h2 := trF_len (ls.length + 1) ls s; unfold traceL at this; rw [this] at h2; simp at h2; omega
        have hws := HB.out.size
        clear g0 g1 g2 g3 g4 g5 hx hat hxt hxn
        obtain ⟨i0, hi, hz0, hz1, hz2⟩ := info_parts infoLink
        go_wp2_with (at_builtin; refine wpList_append_lies _ rfl (.tmp 29) (.tmp 37) _ (by rfl) w.heap.size 36 i0 _ 6 72 und_links hi hz0 hz1 hz2 rfl (by omega) (.slice A6 acc.length c6) acc.length (kcells acc) (by rfl) (own_below HO.out (bA (Below.refl _ _) _)) ⟨wr.heap.size, 0, none⟩ 1 1 x.cells (by rfl) rfl (World.news_of_block (heap_alloc_new wr _)) (lk_one x) (by omega) (by unfold maxLen; omega) (by omega) (by simp; omega) (wr.heap.size + 1) (by simp) ?_)
        intro g1 cap w4 hown hgrow hat4 hlt4
        have HB4 := Lib.hid (below_of_grown (bA HB.out _) hgrow (fun k e => (HO.out.lt k e).1))
        have HN : Hid (w4.ownsRow w.heap.size 36 6 (.slice (some ⟨g1, 0, none⟩) (acc.length + 1) cap) (acc ++ [x]).length (kcells (acc ++ [x]))) := by
          unfold Hid
          rw [kcells_snoc, List.length_append]
          exact hown
        clear hown hgrow hat4 hlt4 b0 b1 d0 d1 d2 d3 d4 d5 LA
        have b0 := (HB4.out.cell (p := ⟨b, 0, none⟩) hbw).trans c0
        have d1 := (HB4.out.cell (p := ⟨g, k * 6 + 1, none⟩) hgw).trans G1.out
        go_wp2_with fail
        go_roundw
        case rel => exact ⟨x.pa, acc ++ [x], rfl, HN, HB4, HPZ, .inr ⟨by simp, tr_next HTS.out HNX.out⟩⟩
        case measure => exact tr_less HAT.out HNX.out hI.out
    · have hte : t.toList.isEmpty = true := by rw [pa_empty]; simpa using h2
      have hn : ((acc.length : Int) == 0) = false := by
        have : acc.length ≠ 0 := fun e => h1 (List.eq_nil_of_length_eq_zero e)
        simp; omega
      have hll : ∀ W, (Builtin.len_ #[33] 3 #[.slice A6 acc.length c6]).run Tryd.prog W = .ok (.int .i64 acc.length) W := fun W => by simp [Builtin.len_, run_underlying und_links]; rfl
      have HT := Lib.hid h3
      have HH : Hid (trE ls s = 0) := Lib.hid (if_neg (fun h => by rw [traceL_none h] at h3; exact h1 h3.symm))
      clear h2 h3 h1
      go_wp2
      go_ret2
      exact ⟨_, by rw [HH.out]; rfl, by rw [HT.out]; exact HO.out, HB.out⟩
    · have hte : t.toList.isEmpty = false := by rw [pa_empty]; simpa using h2
      rcases atI_cases ls t with ⟨h5, _⟩ | ⟨k, x, hx, hat, hxt, hxn⟩
      · omega
      · have HTr := Lib.hid h4
        clear h1 h2 h3 h4
        obtain ⟨g, rfl, hgw, hkl, hkc, g0, g1, g2, g3, g4, g5⟩ := LK.out k x hx
        have LA : (Instr.lookup 77 (.map (some m1)) (.string t) true).run Tryd.prog wr = .ok (.tuple #[.int .i64 k, .bool true]) wr := by
          rw [LA0.out t HSZ.out wr (HB.out.block m1 hm1), atZ, if_pos (by omega), decide_eq_true (by omega), hat]
        have b0 := (HB.out.cell (p := ⟨b, 0, none⟩) hbw).trans c0
        have b1 := (HB.out.cell (p := ⟨b, 1, none⟩) hbw).trans c1
        have d0 := (HB.out.cell (p := ⟨g, k * 6, none⟩) hgw).trans g0
        have d1 := (HB.out.cell (p := ⟨g, k * 6 + 1, none⟩) hgw).trans g1
        have d2 := (HB.out.cell (p := ⟨g, k * 6 + 2, none⟩) hgw).trans g2
        have d3 := (HB.out.cell (p := ⟨g, k * 6 + 3, none⟩) hgw).trans g3
        have d4 := (HB.out.cell (p := ⟨g, k * 6 + 4, none⟩) hgw).trans g4
        have d5 := (HB.out.cell (p := ⟨g, k * 6 + 5, none⟩) hgw).trans g5
        have G1 := Lib.hid g1
        have HTS : Hid (traceL ls s = (acc ++ [x]) ++ (if x.pa = emptyB then [] else traceL ls x.pa)) := by
          unfold Hid; rw [HTr.out, traceL_step hI.out hx hat, List.append_assoc]; rfl
        have HAT := Lib.hid hat
        have HNX : Hid (x.pa = emptyB ∨ (0 ≤ atI ls x.pa ∧ atI ls x.pa < k)) := Lib.hid (hI.out.up k x hx)
        have HPZ : Hid (x.pa.size ≤ maxLen) := by have := (hI.out.each k x hx).2.2.2.2.2.1; unfold Hid maxLen; omega
        have hal : acc.length ≤ 1025 := by have := HTS.out; have h2 := trF_len (ls.length + 1) ls s; unfold traceL at this; rw [this] at h2; simp at h2; omega
        have hws := HB.out.size
        clear g0 g1 g2 g3 g4 g5 hx hat hxt hxn
        obtain ⟨i0, hi, hz0, hz1, hz2⟩ := info_parts infoLink
        go_wp2_with (at_builtin; refine wpList_append_lies _ rfl (.tmp 29) (.tmp 37) _ (by rfl) w.heap.size 36 i0 _ 6 72 und_links hi hz0 hz1 hz2 rfl (by omega) (.slice A6 acc.length c6) acc.length (kcells acc) (by rfl) (own_below HO.out (bA (Below.refl _ _) _)) ⟨wr.heap.size, 0, none⟩ 1 1 x.cells (by rfl) rfl (World.news_of_block (heap_alloc_new wr _)) (lk_one x) (by omega) (by unfold maxLen; omega) (by omega) (by simp; omega) (wr.heap.size + 1) (by simp) ?_)
        intro g1 cap w4 hown hgrow hat4 hlt4
        have HB4 := Lib.hid (below_of_grown (bA HB.out _) hgrow (fun k e => (HO.out.lt k e).1))
        have HN : Hid (w4.ownsRow w.heap.size 36 6 (.slice (some ⟨g1, 0, none⟩) (acc.length + 1) cap) (acc ++ [x]).length (kcells (acc ++ [x]))) := by
          unfold Hid
          rw [kcells_snoc, List.length_append]
          exact hown
        clear hown hgrow hat4 hlt4 b0 b1 d0 d1 d2 d3 d4 d5 LA
        have b0 := (HB4.out.cell (p := ⟨b, 0, none⟩) hbw).trans c0
        have d1 := (HB4.out.cell (p := ⟨g, k * 6 + 1, none⟩) hgw).trans G1.out
        go_wp2_with fail
        go_roundw
        case rel => exact ⟨x.pa, acc ++ [x], rfl, HN, HB4, HPZ, .inr ⟨by simp, tr_next HTS.out HNX.out⟩⟩
        case measure => exact tr_less HAT.out HNX.out hI.out
end Go.Proofs.YtgonghmihghhnaaDoor.Cu
