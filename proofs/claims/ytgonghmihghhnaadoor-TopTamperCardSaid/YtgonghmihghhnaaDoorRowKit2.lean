/- slices of structs, opened. -/
import Derived.Test.YtgonghmihghhnaaDoorRowKit
import Derived.Test.YtgonghmihghhnaaDoorMem
import Derived.Deep.Slices
namespace Go.Proofs.YtgonghmihghhnaaDoor
open Go.RowKit

theorem add_mem (b o k : Nat) : (⟨b, o, none⟩ : Addr).add k = ⟨b, o + k, none⟩ := by
  unfold Addr.add
  split
  · rename_i h; rw [h]; rfl
  · rfl
theorem open_rows {α H : Type} [Inhabited α] {enc : TypeId × Value → H} {P : Program} {w : World} {spare : Nat → Bool} {held : Bool} {t e : TypeId} {v : Value} {d : DataW H} {p : List MemPlace} (cellsF : α → List Value) (sz : Nat)
    (ht : P.underlying t = some (.slice e)) (hc : P.cellsOf e = sz) (hsz : 0 < sz) (hF : ∀ a, (cellsF a).length = sz)
    (hopen : ∀ fuel cs x, DataW.trod enc P w 0 spare held fuel e cs = some x → ∃ a : α, cs = cellsF a)
    (h : DataW.Trod enc P w 0 spare held t v d p) (hv : Value.okWide P w .any 0 t v) :
    ∃ l : List α, SliceIs w sz v l.length (l.flatMap cellsF) := by
  obtain ⟨fuel, hf⟩ := h
  have hv1 : v.cells.toList = [v] := by
    cases v with
    | agg cs => exfalso; unfold Value.okWide Cell.okWide Cell.ok at hv; rw [ht] at hv; exact hv
    | _ => rfl
  rw [hv1] at hf
  rcases Go.Deep.open_slice ht hf with ⟨h1, _⟩ | ⟨a, len, cap, m, n, D, Pl, h1, hb, hl, hm, hmm, _, hx⟩
  · obtain rfl : v = .slice none 0 0 := by simpa using h1
    exact ⟨[], by simp, by simp, .inl ⟨rfl, _, _, rfl⟩⟩
  · obtain rfl : v = .slice (some a) len cap := by simpa using h1
    have hlm : len ≤ m := by rw [hmm]; split <;> omega
    have hmx : len ≤ 9223372036854775807 := by simp only [maxLen] at hm; omega
    have each : ∀ i, i < len → ∃ q : α, ∀ j u, (cellsF q)[j]? = some u → w.cell? ((a.add (i * sz)).add j) = some u := fun i hi => by
      obtain ⟨cs', g1, g2⟩ := hx i (by omega)
      rw [hc] at g1
      obtain ⟨_, hlen, hcell⟩ := World.cells?_some g1
      obtain ⟨q, rfl⟩ := hopen _ _ _ g2
      refine ⟨q, fun j u hu => ?_⟩
      have hj : j < sz := by have := (List.getElem?_eq_some_iff.1 hu).1; rw [hF] at this; exact this
      rw [hcell j hj]; exact hu
    rcases Nat.eq_zero_or_pos len with h0 | h0
    · subst h0
      exact ⟨[], by simp, by simp, .inl ⟨rfl, _, _, rfl⟩⟩
    · obtain ⟨q, hq⟩ := Go.Deep.choose_lt each
      have hfirst : ∃ u, w.cell? a = some u := by
        have hz : (cellsF (q 0))[0]? = some ((cellsF (q 0))[0]'(by rw [hF]; exact hsz)) := List.getElem?_eq_getElem _
        have := hq 0 h0 0 _ hz
        simp only [Nat.zero_mul, Addr.add, if_pos] at this
        exact ⟨_, this⟩
      obtain ⟨u0, hu0⟩ := hfirst
      obtain ⟨b, off, spot⟩ := a
      have hs : spot = none := by
        cases spot with
        | none => rfl
        | some s => unfold World.cell? at hu0; split at hu0 <;> simp at hu0
      subst hs
      have hblt : b < w.heap.size := by
        unfold World.cell? at hu0
        split at hu0
        · rename_i h2; exact (Array.getElem?_eq_some_iff.1 h2).1
        · simp at hu0
      have hln : ((List.range len).map q).length = len := by simp
      refine ⟨(List.range len).map q, ?_, by rw [hln]; exact hmx, .inr ⟨b, off, cap, by rw [hln], by rw [hln]; exact hl, hblt, fun j u hu => ?_⟩⟩
      · rw [flat_len _ sz hF, hln]
      · have hj : j < len * sz := by have := (List.getElem?_eq_some_iff.1 hu).1; rw [flat_len _ sz hF, hln] at this; exact this
        have hi : j / sz < len := Nat.div_lt_of_lt_mul (by rw [Nat.mul_comm]; exact hj)
        have hr : j % sz < sz := Nat.mod_lt _ hsz
        have hd : j = j / sz * sz + j % sz := by rw [Nat.mul_comm]; exact (Nat.div_add_mod j sz).symm
        have hg : ((List.range len).map q)[j / sz]? = some (q (j / sz)) := by simp [hi]
        have h5 := flat_at cellsF sz hF _ _ _ hg (j % sz) hr
        rw [← hd, hu] at h5
        have h6 := hq (j / sz) hi (j % sz) u h5.symm
        have e1 : ((⟨b, off, none⟩ : Addr).add (j / sz * sz)).add (j % sz) = ⟨b, off + j, none⟩ := by
          rw [add_mem, add_mem, Nat.add_assoc, ← hd]
        rw [e1] at h6
        exact h6
end Go.Proofs.YtgonghmihghhnaaDoor
