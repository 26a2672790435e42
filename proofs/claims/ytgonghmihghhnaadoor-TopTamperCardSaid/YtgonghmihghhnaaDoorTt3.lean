/- the law TopTamper, plain. -/
import Derived.Test.YtgonghmihghhnaaDoorTg1
namespace Go.Proofs.YtgonghmihghhnaaDoor.Cu
open Go.RowKit Go.Proofs.YtgonghmihghhnaaDoor.Id Go.Maps

theorem slice_cells0 {W W' : World} {n c g : Nat} {ls : List Lk} (h : SliceIs W 6 (.slice (some ⟨g, 0, none⟩) n c) n (kcells ls)) {k : Nat} {x : Lk} (hx : ls[k]? = some x) (hn : ls.length = n) (hb : Below W.heap.size W W') : W'.cell? ⟨g, k * 6, none⟩ = some (.string x.it) ∧ W'.cell? ⟨g, k * 6 + 1, none⟩ = some (.string x.pa) ∧ W'.cell? ⟨g, k * 6 + 2, none⟩ = some (.int .i64 x.t) ∧ W'.cell? ⟨g, k * 6 + 3, none⟩ = some (.int .i64 x.vo) ∧ W'.cell? ⟨g, k * 6 + 4, none⟩ = some (.string x.sp) ∧ W'.cell? ⟨g, k * 6 + 5, none⟩ = some (.int .u64 x.ha) := by
  have := slice_cells2 h hx hn hb
  simpa only [Nat.zero_add] using this
theorem xor_i64_range (a b : Int) : -9223372036854775808 ≤ bits .xor .i64 a b ∧ bits .xor .i64 a b ≤ 9223372036854775807 := by
  simp only [bits, IntKind.wrap_i64]
  omega
theorem xor_ne {a : Int} (h0 : 0 ≤ a) (h1 : a < 18446744073709551616) : bits .xor .u64 a 1 ≠ a := by
  obtain ⟨n, rfl⟩ := Int.eq_ofNat_of_zero_le h0
  intro e
  rw [show (1 : Int) = ((1 : Nat) : Int) from rfl, u64_xor_nat n 1 (by omega) (by omega)] at e
  have e2 : n ^^^ 1 = n := by omega
  have e3 : n ^^^ (n ^^^ 1) = n ^^^ n := by rw [e2]
  rw [← Nat.xor_assoc, Nat.xor_self, Nat.zero_xor] at e3
  exact absurd e3 (by decide)
/-- the hash of the link of an item, 0 if there is none -/
def pvL (l : List Lk) (s : ByteArray) : Int := if atI l s < 0 then 0 else match l[(atI l s).toNat]? with | some u => u.ha | none => 0
theorem pvL_nil (s : ByteArray) : pvL [] s = 0 := by simp [pvL, atI, atFrom]
theorem pvL_snoc {l : List Lk} {q : Lk} (h : atI l q.it < 0) (s : ByteArray) : pvL (l ++ [q]) s = if q.it = s then q.ha else pvL l s := by
  unfold pvL
  rw [atI_snoc l q s h]
  by_cases e : q.it = s
  · rw [if_pos e, if_pos e, if_neg (by omega)]
    simp
  · rw [if_neg e, if_neg e]
    by_cases h0 : atI l s < 0
    · rw [if_pos h0, if_pos h0]
    · rw [if_neg h0, if_neg h0]
      have hr := atI_range l s
      rw [List.getElem?_append_left (by omega)]
theorem pvL_up {l : List Lk} {x : Lk} (hI : CInv l) : pvL l x.pa = upH l x := by
  unfold pvL upH upO
  by_cases e : x.pa = emptyB
  · rw [if_pos e, e, if_pos hI.empty]
  · rw [if_neg e]
    by_cases h0 : atI l x.pa < 0
    · rw [if_pos h0, if_pos h0]
    · rw [if_neg h0, if_neg h0]
      cases l[(atI l x.pa).toNat]? <;> rfl
theorem take_at {ls : List Lk} (hI : CInv ls) {k : Nat} {q : Lk} (h : ls[k]? = some q) : atI (ls.take k) q.it < 0 := by
  have hd := hI.dist k q h
  rcases atI_cases (ls.take k) q.it with ⟨h1, _⟩ | ⟨j, u, h1, _, h3, _⟩
  · omega
  · rw [List.getElem?_take] at h1
    split at h1
    · have := hI.dist j u h1
      rw [h3, hd] at this
      omega
    · simp at h1
theorem Good.after {ls : List Lk} (hG : Good ls) {k : Nat} {x : Lk} (h : ls[k]? = some x) : canE (ls.take k) x = 0 ∧ afterH (ls.take k) x = x.ha := by
  have h1 := hG.take (k + 1)
  rw [take_snoc h] at h1
  generalize ls.take k = l at h1
  generalize hl : l ++ [x] = l2 at h1
  cases h1 with
  | nil => simp at hl
  | @snoc l' x' hg hc =>
    obtain ⟨rfl, h3⟩ := List.append_inj' hl rfl
    obtain rfl : x = withH x' (afterH l x') := by simpa using h3
    exact ⟨hc, rfl⟩
def tamL (x : Lk) (f : Int) : Lk :=
  if f = 0 then { x with vo := bits .xor .i64 x.vo 1 } else if f = 1 then { x with t := bits .xor .i64 x.t 1 } else if f = 2 then { x with sp := ⟨#[111, 97, 107]⟩ } else { x with ha := bits .xor .u64 x.ha 1 }
theorem tamper {ls : List Lk} (hG : Good ls) {k : Nat} {x : Lk} (hx : ls[k]? = some x) {f : Int} (h : f = 3 ∨ hashL (pvL (ls.take k) x.pa) (tamL x f) ≠ (tamL x f).ha) (hf : f = 0 ∨ f = 1 ∨ f = 2 ∨ f = 3) :
    (verF [] (ls.set k (tamL x f))).2 ≠ 0 ∧ (verF [] (ls.set k (tamL x f))).1 = k := by
  have hI := hG.cinv
  rcases detect hG (tamL x f) hx with hd | ⟨_, hd⟩
  · exact hd
  · exfalso
    have hup : upH (ls.take k) (tamL x f) = pvL (ls.take k) x.pa := by
      have hp : (tamL x f).pa = x.pa := by rcases hf with rfl | rfl | rfl | rfl <;> rfl
      rw [← hp]
      exact (pvL_up (hG.take k).cinv).symm
    have ha : hashL (pvL (ls.take k) x.pa) (tamL x f) = (tamL x f).ha := by rw [← hd, afterH, hup]
    rcases h with rfl | h
    · have h2 := (hG.after hx).2
      have hr := (hI.each k x hx).2.2.2.2.2.2.2
      have e1 : hashL (pvL (ls.take k) x.pa) (tamL x 3) = x.ha := by
        rw [← h2, afterH, pvL_up (hG.take k).cinv]
        rfl
      rw [e1] at ha
      exact xor_ne hr.1 hr.2 ha.symm
    · exact h ha
theorem tam_small {x : Lk} (f : Int) (h : x.it.size ≤ 1000 ∧ x.pa.size ≤ 1000 ∧ x.sp.size ≤ 1000) : (tamL x f).it.size ≤ 1000 ∧ (tamL x f).pa.size ≤ 1000 ∧ (tamL x f).sp.size ≤ 1000 := by
  unfold tamL
  split
  · exact h
  split
  · exact h
  split
  · exact ⟨h.1, h.2.1, by show (⟨#[111, 97, 107]⟩ : ByteArray).size ≤ 1000; decide⟩
  · exact h
theorem tam_range {x : Lk} (f : Int) (h : (-9223372036854775808 ≤ x.t ∧ x.t ≤ 9223372036854775807) ∧ (-9223372036854775808 ≤ x.vo ∧ x.vo ≤ 9223372036854775807)) : (-9223372036854775808 ≤ (tamL x f).t ∧ (tamL x f).t ≤ 9223372036854775807) ∧ (-9223372036854775808 ≤ (tamL x f).vo ∧ (tamL x f).vo ≤ 9223372036854775807) := by
  unfold tamL
  split
  · exact ⟨h.1, xor_i64_range _ _⟩
  split
  · exact ⟨xor_i64_range _ _, h.2⟩
  split
  · exact h
  · exact h
theorem pvL_range {l : List Lk} (hI : CInv l) (s : ByteArray) : 0 ≤ pvL l s ∧ pvL l s < 18446744073709551616 := by
  unfold pvL
  split
  · omega
  split
  · rename_i u hu
    exact (hI.each _ u hu).2.2.2.2.2.2.2
  · omega
end Go.Proofs.YtgonghmihghhnaaDoor.Cu
