/- custody: put, walked. -/
import Derived.Test.YtgonghmihghhnaaDoorCu3
import Derived.StillTailTactics
namespace Go.Proofs.YtgonghmihghhnaaDoor.Cu
open Go.RowKit Go.Proofs.YtgonghmihghhnaaDoor.Id Go.Maps

/-- the register's blocks while put writes -/
structure CH (W : World) (F : Nat → Prop) (b : Nat) (v : Value) (m1 m2 n1 n2 n : Nat) (D1 D2 : DataW Unit) (xs : List Value) : Prop where
  row : W.heap[b]? = some (.cells #[v, .map (some m1), .map (some m2)] 79 (0, 0))
  one : W.ownsRow 0 36 6 v n xs
  mp1 : W.ownsMap Tryd.prog 9 (plainElem Tryd.prog 3) m1 n1 D1
  mp2 : W.ownsMap Tryd.prog 9 (plainElem Tryd.prog 3) m2 n2 D2
  ne : m1 ≠ m2
  fb : F b
  f1 : F m1
  f2 : F m2
  fv : ∀ k, v.ownBlock = some k → F k
section
variable {W W1 W2 : World} {F : Nat → Prop} {b : Nat} {v : Value} {m1 m2 n1 n2 n n1' : Nat} {D1 D2 D1' : DataW Unit} {xs : List Value}
theorem map_row {m k : Nat} {D : DataW Unit} (h : W.ownsMap Tryd.prog 9 (plainElem Tryd.prog 3) m k D) {cs : Array Value} {t : TypeId} (hb : W.heap[b]? = some (.cells cs t (0, 0))) : b ≠ m := fun e => by
  obtain ⟨es, c, h1, _⟩ := h
  rw [← e, hb] at h1
  cases h1
theorem map_own {m k sz base : Nat} {e : TypeId} {D : DataW Unit} (h : W.ownsMap Tryd.prog 9 (plainElem Tryd.prog 3) m k D) (ho : W.ownsRow base e sz v n xs) : v.ownBlock ≠ some m := by
  obtain ⟨es, c, h1, _⟩ := h
  exact own_map ho h1
theorem CH.below (h : CH W F b v m1 m2 n1 n2 n D1 D2 xs) (hB : Below W.heap.size W W1) : CH W1 F b v m1 m2 n1 n2 n D1 D2 xs :=
  ⟨(hB.block _ (Array.getElem?_eq_some_iff.1 h.row).1).trans h.row, own_below h.one hB, map_keep h.mp1 (hB.block _ h.mp1.lt), map_keep h.mp2 (hB.block _ h.mp2.lt), h.ne, h.fb, h.f1, h.f2, h.fv⟩
theorem CH.grow1 (h : CH W F b v m1 m2 n1 n2 n D1 D2 xs) (hB : Below W.heap.size W W1) (hg : W1.grownBy W2 (some m1)) (hm : W2.ownsMap Tryd.prog 9 (plainElem Tryd.prog 3) m1 n1' D1') : CH W2 F b v m1 m2 n1' n2 n D1' D2 xs ∧ Keeps F W W2 := by
  have h' := h.below hB
  refine ⟨⟨(hg.block _ (Array.getElem?_eq_some_iff.1 h'.row).1 (fun e => map_row h'.mp1 h'.row (by simpa using e))).trans h'.row, own_grow h'.one hg (fun k e e2 => map_own h'.mp1 h'.one (by rw [e]; simpa using e2.symm)), hm, h'.mp2.kept hg (by simpa using h.ne.symm), h.ne, h.fb, h.f1, h.f2, h.fv⟩, (Keeps.of_below F hB).trans (Keeps.of_grown hg (fun k e => by simp at e; subst e; exact h.f1)) (fun _ h => .inl h)⟩
theorem CH.grow2 (h : CH W F b v m1 m2 n1 n2 n D1 D2 xs) (hB : Below W.heap.size W W1) (hg : W1.grownBy W2 (some m2)) (hm : W2.ownsMap Tryd.prog 9 (plainElem Tryd.prog 3) m2 n1' D1') : CH W2 F b v m1 m2 n1 n1' n D1 D1' xs ∧ Keeps F W W2 := by
  have h' := h.below hB
  refine ⟨⟨(hg.block _ (Array.getElem?_eq_some_iff.1 h'.row).1 (fun e => map_row h'.mp2 h'.row (by simpa using e))).trans h'.row, own_grow h'.one hg (fun k e e2 => map_own h'.mp2 h'.one (by rw [e]; simpa using e2.symm)), h'.mp1.kept hg (by simpa using h.ne), hm, h.ne, h.fb, h.f1, h.f2, h.fv⟩, (Keeps.of_below F hB).trans (Keeps.of_grown hg (fun k e => by simp at e; subst e; exact h.f2)) (fun _ h => .inl h)⟩
theorem CH.push {g cap n' : Nat} {xs' : List Value} (h : CH W F b v m1 m2 n1 n2 n D1 D2 xs) (hB : Below W.heap.size W W1) (hg : W1.grownBy W2 v.ownBlock) (hn : W2.ownsRow 0 36 6 (.slice (some ⟨g, 0, none⟩) n' cap) n' xs') :
    CH (W2.setCell ⟨b, 0, none⟩ (.slice (some ⟨g, 0, none⟩) n' cap)) (fun k => F k ∨ k = g) b (.slice (some ⟨g, 0, none⟩) n' cap) m1 m2 n1 n2 n' D1 D2 xs' ∧ Keeps F W (W2.setCell ⟨b, 0, none⟩ (.slice (some ⟨g, 0, none⟩) n' cap)) := by
  have h' := h.below hB
  have hvb : v.ownBlock ≠ some b := own_other h'.one h'.row (by decide)
  have k0 : W2.heap[b]? = some (.cells #[v, .map (some m1), .map (some m2)] 79 (0, 0)) := (hg.block _ (Array.getElem?_eq_some_iff.1 h'.row).1 (fun e => hvb e.symm)).trans h'.row
  have q1 := h'.mp1.kept hg (fun e => map_own h'.mp1 h'.one e.symm)
  have q2 := h'.mp2.kept hg (fun e => map_own h'.mp2 h'.one e.symm)
  refine ⟨⟨?_, ?_, map_keep q1 ?_, map_keep q2 ?_, h.ne, .inl h.fb, .inl h.f1, .inl h.f2, fun k e => .inr ?_⟩, ?_⟩
  · rw [heap_setCell_same W2 b 0 _ _ _ k0]; rfl
  · exact own_keep hn (fun k e _ => heap_setCell_other W2 ⟨b, 0, none⟩ k _ (fun e2 => own_other hn k0 (by decide) (by rw [e, e2])))
  · exact heap_setCell_other W2 ⟨b, 0, none⟩ m1 _ (fun e => map_row q1 k0 e.symm)
  · exact heap_setCell_other W2 ⟨b, 0, none⟩ m2 _ (fun e => map_row q2 k0 e.symm)
  · simp [Value.ownBlock] at e; exact e.symm
  · exact ((Keeps.of_below F hB).trans (Keeps.of_grown hg h.fv) (fun _ h => .inl h)).trans (Keeps.setCell F W2 h.fb _) (fun _ h => .inl h)
end
/-- what Add leaves -/
def CAdded (F : Nat → Prop) (b : Nat) (ls : List Lk) (w w' : World) : Prop := ∃ F', CReg w' F' b ls ∧ (∀ k, F k → F' k) ∧ (∀ k, F' k → F k ∨ w.heap.size ≤ k) ∧ Keeps F w w'
theorem CReg.wide {W : World} {F F' : Nat → Prop} {b : Nat} {ls : List Lk} (h : CReg W F b ls) (hF : ∀ k, F k → F' k) : CReg W F' b ls := by
  obtain ⟨v, m1, m2, D1, D2, h1, h2, h3, h4, h5, h6, h7, h8, h9, h10, h11, h12⟩ := h
  exact ⟨v, m1, m2, D1, D2, h1, h2, h3, h4, h5, h6, h7, h8, hF _ h9, hF _ h10, hF _ h11, fun k e => hF k (h12 k e)⟩
theorem CAdded.wide {F0 F : Nat → Prop} {b : Nat} {ls : List Lk} {w w' : World} (h : CAdded F0 b ls w w') (hF : ∀ k, F0 k → F k) : CAdded F b ls w w' := by
  obtain ⟨F', h1, h2, h3, h4⟩ := h
  refine ⟨fun k => F' k ∨ F k, h1.wide (fun k h => .inl h), fun k h => .inr h, fun k h => ?_, h4.mono hF⟩
  rcases h with h | h
  · rcases h3 k h with h | h
    · exact .inl (hF k h)
    · exact .inr h
  · exact .inl h
theorem CH.app {W W1 W2 : World} {F : Nat → Prop} {b : Nat} {v : Value} {m1 m2 n1 n2 n : Nat} {D1 D2 : DataW Unit} {xs : List Value} (h : CH W F b v m1 m2 n1 n2 n D1 D2 xs) (hB : Below W.heap.size W W1) (hg : W1.grownBy W2 v.ownBlock) : W2.cell? ⟨b, 0, none⟩ = some v ∧ W2.frozen? ⟨b, 0, none⟩ = false := by
  have h' := h.below hB
  have k0 : W2.heap[b]? = some (.cells #[v, .map (some m1), .map (some m2)] 79 (0, 0)) := (hg.block _ (Array.getElem?_eq_some_iff.1 h'.row).1 (fun e => own_other h'.one h'.row (by decide) e.symm)).trans h'.row
  exact ⟨(cells3 k0).1, (cells3 k0).2.2.2⟩
theorem CAdded.fin {w w2 w3 w6 : World} {F : Nat → Prop} {b g cap m1 m2 : Nat} {v : Value} {ls : List Lk} {x : Lk} {D1 D2 : DataW Unit} (h02 : Keeps F w w2) (h23 : Keeps F w2 w3) (h36 : Keeps F w3 w6) (hv : ∀ k, v.ownBlock = some k → F k) (hat : v.ownBlock = some g ∨ g = w3.heap.size + 1)
    (h6 : CH w6 (fun k => F k ∨ k = g) b (.slice (some ⟨g, 0, none⟩) (ls.length + 1) cap) m1 m2 (ls.length + 1) (ls.length + 1) (ls.length + 1) D1 D2 (kcells ls ++ x.cells)) (hA : IsAt D1 (ls ++ [x])) (hU : IsUsed D2 (ls ++ [x])) (hI : CInv (ls ++ [x])) : CAdded F b (ls ++ [x]) w w6 := by
  have hl : (ls ++ [x]).length = ls.length + 1 := by simp
  have s2 := h02.size
  have s3 := h23.size
  refine ⟨_, ⟨_, m1, m2, D1, D2, h6.row, ?_, ?_, ?_, hA, hU, h6.ne, hI, h6.fb, h6.f1, h6.f2, h6.fv⟩, fun k h => .inl h, fun k h => ?_, (h02.trans h23 (fun i h => .inl h)).trans h36 (fun i h => .inl h)⟩
  · rw [kcells_snoc, hl]; exact h6.one
  · rw [hl]; exact h6.mp1
  · rw [hl]; exact h6.mp2
  · rcases h with h | h
    · exact .inl h
    · subst h
      rcases hat with h | h
      · exact .inl (hv _ h)
      · right; omega
set_option maxHeartbeats 8000000 in
set_option maxRecDepth 100000 in
set_option linter.all false in
theorem put_tight (b : Nat) (F : Nat → Prop) (ls : List Lk) (x : Lk) (w : World) (hR : CReg w F b ls) (hF : ∀ k, F k → k < w.heap.size) (hx : atI ls x.it < 0) (hI : CInv (ls ++ [x])) :
    Calls Tryd.prog 35 #[.pointer (some ⟨b, 0, none⟩), x.val] w fun e w' => e = .returned (.tuple #[]) ∧ CAdded F b (ls ++ [x]) w w' := by
  obtain ⟨v, m1, m2, D1, D2, h1, h2, h3, h4, h5, h6, h7, h8, h9, h10, h11, h12⟩ := hR
  have HC0 := Lib.hid (CH.mk h1 h2 h3 h4 h7 h9 h10 h11 h12)
  obtain ⟨A, c, rfl⟩ := own_shape h2
  have HI := Lib.hid hI
  have HA := Lib.hid (h5.put hx)
  have HU := Lib.hid (h6.put x)
  have HU0 := Lib.hid h6
  have hvol := h8.vol x.pa
  have hsz := (hI.each ls.length x (by simp))
  have hlen := h8.len
  have q1 : x.it.size ≤ maxLen := by unfold maxLen; omega
  have q2 : x.pa.size ≤ maxLen := by unfold maxLen; omega
  have hwr : IntKind.i64.wrap (volS ls x.pa + x.vo) = volS ls x.pa + x.vo := by rw [IntKind.wrap_i64]; omega
  have hwf : Hid ((Lit.int .i64 (volS ls x.pa + x.vo)).wf = true) := Lib.hid (WalkArith.wf_i64 (by omega))
  have HW := Lib.hid (bA (Below.refl w.heap.size w) (.cells #[.string x.it, .string x.pa, .int .i64 x.t, .int .i64 x.vo, .string x.sp, .int .u64 x.ha] 36))
  have HC1 := Lib.hid (HC0.out.below HW.out)
  have hFn : ¬ F w.heap.size := fun h => Nat.lt_irrefl _ (hF _ h)
  have XC := Lib.hid (fun (W : World) (hW : Keeps F (w.alloc (.cells #[.string x.it, .string x.pa, .int .i64 x.t, .int .i64 x.vo, .string x.sp, .int .u64 x.ha] 36)) W) => cells6 ((hW.block w.heap.size (by simp) hFn).trans (heap_alloc_new w _)))
  have hll : ∀ W, (Builtin.len_ #[33] 3 #[.slice A ls.length c]).run Tryd.prog W = .ok (.int .i64 ls.length) W := fun W => by simp [Builtin.len_, run_underlying und_links]; rfl
  clear h1 h2 h3 h4 h5 h6 h7 h8 h9 h10 h11 h12 hI hsz hvol
  obtain ⟨c0, c1, c2, _⟩ := cells3 HC1.out.row
  unfold Lk.val
  go_enter Tryd.func35, Tryd.ntmps35
  go_wp2_with fail
  generalize w.alloc (.cells #[.string x.it, .string x.pa, .int .i64 x.t, .int .i64 x.vo, .string x.sp, .int .u64 x.ha] 36) = w1 at HC1 HW XC c0 c1 c2 ⊢
  obtain ⟨x0, x1, x2, x3, x4, x5, _⟩ := XC.out w1 (Keeps.refl F w1)
  go_still_tail 11, (by kernel_rfl)
  go_wp2_with (at_mapUpdate; refine wpList_mapUpdate_own _ rfl (.tmp 7) (.tmp 9) (.tmp 14) 77 rfl 9 3 slaw und_map (plainElem Tryd.prog 3) m1 ls.length D1 rfl (HC1.out.mp1.drew) (by unfold maxLen; omega) (.string x.it) (.int .i64 ls.length) (kL x.it) rfl rfl (kL_key q1) (iD ls.length) [] (plainElem_int und_int (WalkArith.wf_i64 (by omega))) ?_)
  intro w2 hown hgrow
  have hh := HC1.out.grow1 (bd (Below.refl _ _)) hgrow hown
  have HC2 := Lib.hid hh.1
  have K2 := Lib.hid hh.2
  clear hown hgrow hh c0 c1 c2 x0 x1 x2 x3 x4 x5
  obtain ⟨c0, c1, c2, _⟩ := cells3 HC2.out.row
  obtain ⟨x0, x1, x2, x3, x4, x5, _⟩ := XC.out w2 K2.out
  have LU : (Instr.lookup 77 (.map (some m2)) (.string x.pa) false).run Tryd.prog w2.drew = .ok (.int .i64 (volS ls x.pa)) w2.drew := look_used (HC2.out.mp2.drew) HU0.out q2
  go_wp2_with fail
  go_still_tail 10, (by kernel_rfl)
  go_wp2_with (at_mapUpdate; refine wpList_mapUpdate_own _ rfl (.tmp 18) (.tmp 20) (.tmp 24) 77 rfl 9 3 slaw und_map (plainElem Tryd.prog 3) m2 ls.length D2 rfl (HC2.out.mp2.drew) (by unfold maxLen; omega) (.string x.pa) (.int .i64 (volS ls x.pa + x.vo)) (kL x.pa) rfl rfl (kL_key q2) (iD (volS ls x.pa + x.vo)) [] (plainElem_int und_int hwf.out) ?_)
  intro w3 hown hgrow
  have hh := HC2.out.grow2 (bd (Below.refl _ _)) hgrow hown
  have HC3 := Lib.hid hh.1
  have K3 := Lib.hid hh.2
  clear hown hgrow hh c0 c1 c2 x0 x1 x2 x3 x4 x5 LU
  obtain ⟨c0, c1, c2, _⟩ := cells3 HC3.out.row
  obtain ⟨x0, x1, x2, x3, x4, x5, _⟩ := XC.out w3 (K2.out.trans K3.out (fun _ h => .inl h))
  have cA : ∀ ob, (w3.alloc ob).cell? ⟨b, 0, none⟩ = some (.slice A ls.length c) := fun ob => cell_up c0 (Array.getElem?_eq_some_iff.1 HC3.out.row).1 ob
  obtain ⟨i0, hi, hz0, hz1, hz2⟩ := info_parts infoLink
  go_wp2_with fail
  go_region_law ((refine step_append_lies _ (by rfl) _ _ _ (by rfl) 0 36 i0 _ 6 72 und_links hi hz0 hz1 hz2 rfl (by omega) (.slice A ls.length c) ls.length (kcells ls) (by rfl) (own_below HC3.out.one (bA (bd (Below.refl _ _)) _)) ⟨w3.heap.size, 0, none⟩ 1 1 x.cells (by rfl) rfl (World.news_of_block (heap_alloc_new w3.drew _)) (lk_one x) (by omega) (by unfold maxLen; omega) (by omega) (Nat.zero_le _) (w3.heap.size + 1) (by simp) ?_; intro g cap w4 hown hgrow hat hlt; obtain ⟨hc4, hf4⟩ := HC3.out.app (bA (bd (Below.refl _ w3)) _) hgrow; have HC4 := Lib.hid (HC3.out.push (bA (bd (Below.refl _ w3)) _) hgrow hown); clear hown hgrow))
  all_goals (
    refine bodyPost_end (results_none (by kernel_rfl) _ _ _) rfl ?_
    have K1 := Keeps.of_below F HW.out
    exact ⟨rfl, CAdded.fin (K1.trans K2.out (fun _ h => .inl h)) K3.out HC4.out.2 HC3.out.fv hat HC4.out.1 HA.out HU.out HI.out⟩)
theorem put_any (b : Nat) (F : Nat → Prop) (ls : List Lk) (x : Lk) (w : World) (hR : CReg w F b ls) (hx : atI ls x.it < 0) (hI : CInv (ls ++ [x])) :
    Calls Tryd.prog 35 #[.pointer (some ⟨b, 0, none⟩), x.val] w fun e w' => e = .returned (.tuple #[]) ∧ CAdded F b (ls ++ [x]) w w' := by
  obtain ⟨F0, h1, h2⟩ := hR.tight
  exact (put_tight b F0 ls x w h1 (fun k hk => (h2 k hk).2) hx hI).mono fun _ _ h => ⟨h.1, h.2.wide (fun k hk => (h2 k hk).1)⟩
end Go.Proofs.YtgonghmihghhnaaDoor.Cu
