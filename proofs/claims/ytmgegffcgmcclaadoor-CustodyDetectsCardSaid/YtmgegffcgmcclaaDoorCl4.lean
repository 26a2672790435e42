/- the law CustodyErrors, walked. -/
import Derived.Test.YtmgegffcgmcclaaDoorSl0
namespace Go.Proofs.YtmgegffcgmcclaaDoor.Cu
open Go.RowKit Go.Proofs.YtmgegffcgmcclaaDoor.Id Go.Maps

/-- the register lives at b; the blocks from B on to E are no part of it -/
def CAp (w W : World) (b : Nat) (ls : List Lk) (B E : Nat) : Prop := ∃ F, CReg W F b ls ∧ (∀ k, F k → w.heap.size ≤ k) ∧ Below w.heap.size w W ∧ E ≤ W.heap.size ∧ ∀ k, B ≤ k → k < E → ¬ F k
theorem CLive.ap {w W W' : World} {b : Nat} {ls : List Lk} (h : CLive w W b ls) (hb : Below W.heap.size W W') : CAp w W' b ls W.heap.size W'.heap.size := by
  obtain ⟨F, h1, h2, h3⟩ := h
  obtain ⟨F0, k1, k2⟩ := h1.tight
  exact ⟨F0, k1.below hb, fun k hk => h2 k (k2 k hk).1, bT h3 hb, Nat.le_refl _, fun k hk _ hf => by have := (k2 k hf).2; omega⟩
theorem CAp.live {w W : World} {b B E : Nat} {ls : List Lk} (h : CAp w W b ls B E) : CLive w W b ls := by
  obtain ⟨F, h1, h2, h3, _⟩ := h
  exact ⟨F, h1, h2, h3⟩
theorem CAp.add {w W : World} {b B E : Nat} {ls : List Lk} (h : CAp w W b ls B E) (x : Lk) (hx0 : x.ha = 0) (htab : Tab W) (q1 : x.it.size ≤ 1000) (q2 : x.pa.size ≤ 1000) (q3 : x.sp.size ≤ 1000) :
    Calls Tryd.prog 14 #[.pointer (some ⟨b, 0, none⟩), .string x.it, .string x.pa, .string x.sp, .int .i64 x.t, .int .i64 x.vo] W fun e w' => e = .returned (.tuple #[.int .u64 (chkH ls x), .int .i64 (canE ls x)]) ∧ CLive w w' b (addK ls x) ∧ ∀ k, B ≤ k → k < E → w'.heap[k]? = W.heap[k]? := by
  obtain ⟨F, h1, h2, h3, h4, h5⟩ := h
  refine (Add_any b F ls x hx0 W h1 htab q1 q2 q3).mono ?_
  rintro e w' ⟨rfl, hA⟩
  refine ⟨rfl, CLive.added h2 h3 hA, fun k hk hE => ?_⟩
  obtain ⟨F', k1, k2, k3, k4⟩ := hA
  exact k4.block k (by omega) (h5 k hk hE)
theorem Fresh.kept {W W' : World} {base E n : Nat} {v : Value} {xs : List Value} (h : Fresh W base v n xs) (hE : E = W.heap.size) (hk : ∀ k, base ≤ k → k < E → W'.heap[k]? = W.heap[k]?) : Fresh W' base v n xs :=
  h.keep (fun k hb hlt _ => hk k hb (by omega))
theorem again_exists {ls : List Lk} {x : Lk} (h : canE ls x = 0) (v : Int) : canE (ls ++ [withH x (afterH ls x)]) { x with vo := v } = 7 := by
  obtain ⟨h1, h2, _⟩ := canE_zero h
  refine canE_exists h1 ?_
  have := atI_snoc ls (withH x (afterH ls x)) x.it h2
  rw [show atI (ls ++ [withH x (afterH ls x)]) ({ x with vo := v } : Lk).it = atI (ls ++ [withH x (afterH ls x)]) x.it from rfl, this]
  rw [if_pos (show (withH x (afterH ls x)).it = x.it from rfl)]
  omega
theorem slice_cells {W : World} {n c : Nat} {A : Option Addr} {ls : List Lk} (h : SliceIs W 6 (.slice A n c) n (kcells ls)) {k : Nat} {x : Lk} (hx : ls[k]? = some x) (hn : ls.length = n) : ∃ g off, A = some ⟨g, off, none⟩ ∧ n ≤ c ∧ k < n ∧ g < W.heap.size ∧ W.cell? ⟨g, off + k * 6, none⟩ = some (.string x.it) ∧ W.cell? ⟨g, off + k * 6 + 1, none⟩ = some (.string x.pa) ∧ W.cell? ⟨g, off + k * 6 + 2, none⟩ = some (.int .i64 x.t) ∧ W.cell? ⟨g, off + k * 6 + 3, none⟩ = some (.int .i64 x.vo) ∧ W.cell? ⟨g, off + k * 6 + 4, none⟩ = some (.string x.sp) ∧ W.cell? ⟨g, off + k * 6 + 5, none⟩ = some (.int .u64 x.ha) := by
  have hk := (List.getElem?_eq_some_iff.1 hx).1
  obtain ⟨g, off, rfl, hc, hg, hcx⟩ := slice_addr h (by omega)
  exact ⟨g, off, rfl, hc, by omega, hg, hcx (k * 6) _ (kcells_at hx (j := 0) (by omega)), hcx (k * 6 + 1) _ (kcells_at hx (j := 1) (by omega)), hcx (k * 6 + 2) _ (kcells_at hx (j := 2) (by omega)), hcx (k * 6 + 3) _ (kcells_at hx (j := 3) (by omega)), hcx (k * 6 + 4) _ (kcells_at hx (j := 4) (by omega)), hcx (k * 6 + 5) _ (kcells_at hx (j := 5) (by omega))⟩
theorem CAp.below {w W W' : World} {b B E : Nat} {ls : List Lk} (h : CAp w W b ls B E) (hb : Below W.heap.size W W') : CAp w W' b ls B E := by
  obtain ⟨F, h1, h2, h3, h4, h5⟩ := h
  exact ⟨F, h1.below hb, h2, bT h3 hb, Nat.le_trans h4 hb.size, h5⟩
theorem Fresh.kept2 {W W1 W2 : World} {base n : Nat} {v : Value} {xs : List Value} (h : Fresh W base v n xs) (hb : Below W.heap.size W W1) (hk : ∀ k, base ≤ k → k < W.heap.size → W2.heap[k]? = W1.heap[k]?) : Fresh W2 base v n xs :=
  h.keep (fun k hb' hlt _ => (hk k hb' hlt).trans (hb.block k hlt))
theorem again_no {ls : List Lk} {x : Lk} {hh : Int} (h : canE ls x = 0) (e : afterH ls x = hh) (v : Int) : canE (ls ++ [withH x hh]) { x with vo := v } = 7 := by rw [← e]; exact again_exists h v
end Go.Proofs.YtmgegffcgmcclaaDoor.Cu
