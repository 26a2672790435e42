/- custody: Links and Children, walked. -/
import Derived.Test.YtgonghmihghhnaaDoorCu6
namespace Go.Proofs.YtgonghmihghhnaaDoor.Cu
open Go.RowKit Go.Proofs.YtgonghmihghhnaaDoor.Id Go.Maps

/-- a slice of links that a call has made, cut to its length -/
def Fresh (W : World) (base : Nat) (v : Value) (n : Nat) (xs : List Value) : Prop :=
  xs.length = n * 6 ∧ n ≤ 140737488355328 ∧ ((n = 0 ∧ ∃ A, v = .slice A 0 0) ∨ ∃ g cs, v = .slice (some ⟨g, 0, none⟩) n n ∧ base ≤ g ∧ W.heap[g]? = some (.cells cs 36 (0, 0)) ∧ cs.toList.take (n * 6) = xs)
theorem Fresh.slice {W : World} {base n : Nat} {v : Value} {xs : List Value} (h : Fresh W base v n xs) : SliceIs W 6 v n xs := by
  obtain ⟨h1, h2, h3⟩ := h
  refine ⟨h1, by omega, ?_⟩
  rcases h3 with ⟨h, A, e⟩ | ⟨g, cs, rfl, hb, hg, hx⟩
  · exact .inl ⟨h, A, 0, e⟩
  · refine .inr ⟨g, 0, n, rfl, Nat.le_refl _, (Array.getElem?_eq_some_iff.1 hg).1, fun j u hu => ?_⟩
    rw [cell_of_row _ _ _ _ _ _ hg, ← hu, ← hx, List.getElem?_take, if_pos (by have := (List.getElem?_eq_some_iff.1 hu).1; omega), Array.getElem?_toList, Nat.zero_add]
theorem Fresh.keep {W W' : World} {base n : Nat} {v : Value} {xs : List Value} (h : Fresh W base v n xs) (hk : ∀ k, base ≤ k → k < W.heap.size → v.ownBlock = some k → W'.heap[k]? = W.heap[k]?) : Fresh W' base v n xs := by
  obtain ⟨h1, h2, h3⟩ := h
  refine ⟨h1, h2, ?_⟩
  rcases h3 with h | ⟨g, cs, rfl, hb, hg, hx⟩
  · exact .inl h
  · exact .inr ⟨g, cs, rfl, hb, (hk g hb (Array.getElem?_eq_some_iff.1 hg).1 rfl).trans hg, hx⟩
theorem Fresh.below {W W' : World} {base n : Nat} {v : Value} {xs : List Value} (h : Fresh W base v n xs) (hk : Below W.heap.size W W') : Fresh W' base v n xs := h.keep (fun k _ hlt _ => hk.block k hlt)
set_option maxHeartbeats 2000000 in
set_option maxRecDepth 100000 in
set_option linter.all false in
theorem Links_any (b : Nat) (F : Nat → Prop) (ls : List Lk) (w : World) (hR : CReg w F b ls) :
    Calls Tryd.prog 14 #[.pointer (some ⟨b, 0, none⟩)] w fun e w' => ∃ v, e = .returned v ∧ Fresh w' w.heap.size v ls.length (kcells ls) ∧ Below w.heap.size w w' := by
  have hlen := hR.inv.len
  obtain ⟨v, m1, m2, D1, D2, h1, h2, _⟩ := hR
  have HI := Lib.hid (SliceIs.of_own h2)
  obtain ⟨A, c, rfl⟩ := own_shape h2
  obtain ⟨c0, c1, c2, _⟩ := cells3 h1
  obtain ⟨i0, hi, hz0, hz1, hz2⟩ := info_parts infoLink
  have hll : ∀ W, (Builtin.len_ #[33] 3 #[.slice A ls.length c]).run Tryd.prog W = .ok (.int .i64 ls.length) W := fun W => by simp [Builtin.len_, run_underlying und_links]; rfl
  clear h1 h2
  go_enter Tryd.func14, Tryd.ntmps14
  go_wp2_with (at_builtin; refine wpList_append_src _ rfl (.const (.slice none 0 0)) (.tmp 15) 33 (by rfl) w.heap.size 36 i0 _ 6 72 und_links hi hz0 hz1 hz2 rfl (by omega) (.slice none 0 0) 0 [] (by rfl) (World.ownsRow_nil _ _ _ _) (.slice A ls.length c) ls.length (kcells ls) (by rfl) HI.out (kcells_one ls) (by unfold maxLen; omega) (by omega) (by omega) ?_)
  intro v' w1 hown hgrow hat
  have hO := Lib.hid hown
  have hb : Hid (Below w.heap.size w w1) := Lib.hid ⟨hgrow.os, hgrow.tape, hgrow.output, hgrow.size, fun k hk => hgrow.block k hk (by simp [Value.ownBlock])⟩
  rcases hown.2 with ⟨rfl, h0⟩ | ⟨g, cap, cur, rfl, hg, hgg, hnc, hcm, hcs, htk⟩
  · have hl0 : ls = [] := by simpa using h0
    subst hl0
    clear hll HI
    go_wp2
    go_ret
    exact ⟨_, rfl, ⟨rfl, by simp, .inl ⟨rfl, none, rfl⟩⟩, hb.out⟩
  · have hnc' : (ls.length : Int) ≤ cap := by omega
    have HH := Lib.hid hgg
    have HT := Lib.hid htk
    clear hcs htk hgg hcm hnc
    go_wp2
    go_ret
    refine ⟨_, rfl, ⟨kcells_len ls, by omega, .inr ⟨g, cur, rfl, hg, HH.out, ?_⟩⟩, hb.out⟩
    exact HT.out
end Go.Proofs.YtgonghmihghhnaaDoor.Cu
