/- more of the texts of chapter 54. -/
import Derived.Test.YtgonghmihghhnaaDoorTt2
import Derived.Test.YtgonghmihghhnaaDoorRowTop
import Derived.Laws.IdiomCopy
namespace Go.Proofs.YtgonghmihghhnaaDoor.Cu
open Go.RowKit Go.Proofs.YtgonghmihghhnaaDoor.Id Go.Maps

/-- the register lives at b; the blocks from B on to E are no part of it -/
def CAp (w W : World) (b : Nat) (ls : List Lk) (B E : Nat) : Prop := ∃ F, CReg W F b ls ∧ (∀ k, F k → w.heap.size ≤ k) ∧ Below w.heap.size w W ∧ E ≤ W.heap.size ∧ ∀ k, B ≤ k → k < E → ¬ F k
theorem CLive.ap {w W W' : World} {b : Nat} {ls : List Lk} (h : CLive w W b ls) (hb : Below W.heap.size W W') : CAp w W' b ls W.heap.size W'.heap.size := by
  obtain ⟨F, h1, h2, h3⟩ := h
  obtain ⟨F0, k1, k2⟩ := h1.tight
  exact ⟨F0, k1.below hb, fun k hk => h2 k (k2 k hk).1, bT h3 hb, Nat.le_refl _, fun k hk _ hf => by have := (k2 k hf).2; omega⟩
theorem CAp.live {w W : World} {b B E : Nat} {ls : List Lk} (h : CAp w W b ls B E) : CLive w W b ls := by
  obtain ⟨F, h1, h2, h3, _⟩ := h
  exact ⟨F, h1, h2, h3⟩
theorem CAp.add {w W : World} {b B E : Nat} {ls : List Lk} (h : CAp w W b ls B E) (x : Lk) (hx0 : x.ha = 0) (htab : Tab W) (q1 : x.it.size ≤ 1000) (q2 : x.pa.size ≤ 1000) (q3 : x.sp.size ≤ 1000) :
    Calls Tryd.prog 13 #[.pointer (some ⟨b, 0, none⟩), .string x.it, .string x.pa, .string x.sp, .int .i64 x.t, .int .i64 x.vo] W fun e w' => e = .returned (.tuple #[.int .u64 (chkH ls x), .int .i64 (canE ls x)]) ∧ CLive w w' b (addK ls x) ∧ ∀ k, B ≤ k → k < E → w'.heap[k]? = W.heap[k]? := by
  obtain ⟨F, h1, h2, h3, h4, h5⟩ := h
  refine (Add_any b F ls x hx0 W h1 htab q1 q2 q3).mono ?_
  rintro e w' ⟨rfl, hA⟩
  refine ⟨rfl, CLive.added h2 h3 hA, fun k hk hE => ?_⟩
  obtain ⟨F', k1, k2, k3, k4⟩ := hA
  exact k4.block k (by omega) (h5 k hk hE)
theorem CAp.below {w W W' : World} {b B E : Nat} {ls : List Lk} (h : CAp w W b ls B E) (hb : Below W.heap.size W W') : CAp w W' b ls B E := by
  obtain ⟨F, h1, h2, h3, h4, h5⟩ := h
  exact ⟨F, h1.below hb, h2, bT h3 hb, Nat.le_trans h4 hb.size, h5⟩
theorem setCells_keeps (g : Nat) : ∀ (vs : List Value) (o : Nat) (W : World), Keeps (fun k => k = g) W (W.setCells g o vs)
  | [], _, W => Keeps.refl _ W
  | v :: r, o, W => (Keeps.setCell (fun k => k = g) W (p := ⟨g, o, none⟩) rfl v).trans (setCells_keeps g r (o + 1) _) (fun _ h => .inl h)
theorem set_slice {W : World} {g n c : Nat} {ls : List Lk} (hn : ls.length = n) (h : SliceIs W 6 (.slice (some ⟨g, 0, none⟩) n c) n (kcells ls)) {k : Nat} (hk : k < n) (y : Lk) :
    SliceIs (W.setCells g (k * 6) y.cells) 6 (.slice (some ⟨g, 0, none⟩) n c) n (kcells (ls.set k y)) := by
  obtain ⟨g', off, e, hc, hg, hcx⟩ := slice_addr h (by omega)
  cases e
  refine ⟨by rw [kcells_len, List.length_set, hn], h.2.1, .inr ⟨g, 0, c, rfl, hc, Nat.lt_of_lt_of_le hg (setCells_keeps g _ _ W).size, fun j u hu => ?_⟩⟩
  rcases kcells_set (by omega) y hu with ⟨r, hr, rfl, hu⟩ | ⟨hne, hu⟩
  · have hx : ls[k]? = some (ls[k]'(by omega)) := List.getElem?_eq_getElem (by omega)
    have := World.cell?_setCells_in g y.cells (k * 6) W (fun i hi => by
      have hi6 : i < 6 := hi
      have h1 := kcells_at hx hi6
      rw [List.getElem?_eq_getElem (show i < (ls[k]'(by omega)).cells.length from hi6)] at h1
      have h2 := hcx _ _ h1
      rw [Nat.zero_add] at h2
      rw [h2]; rfl) r hr
    rw [Nat.zero_add, this]
    rename_i hu2
    rw [List.getElem?_eq_getElem (show r < y.cells.length from hr)] at hu2
    exact hu2
  · rw [World.cell?_setCells_out g y.cells (k * 6) W ⟨g, 0 + j, none⟩ (fun _ _ => by
      show 0 + j < k * 6 ∨ k * 6 + 6 ≤ 0 + j
      by_cases h1 : j < k * 6
      · exact .inl (by omega)
      · right
        by_cases h2 : k * 6 + 6 ≤ j
        · omega
        · exact absurd (show j = k * 6 + (j - k * 6) by omega) (hne (j - k * 6) (by omega)))]
    exact hcx j u hu
end Go.Proofs.YtgonghmihghhnaaDoor.Cu
