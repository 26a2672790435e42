/- custody for the laws through the layers: plain facts (from the texts of chapter 54). -/
import Derived.Test.YtgonghmihghhnaaDoorCu12
import Derived.Test.YtgonghmihghhnaaDoorMem3
namespace Go.Proofs.YtgonghmihghhnaaDoor.Cu
open Go.RowKit Go.Proofs.YtgonghmihghhnaaDoor.Id Go.Maps

/-- links that were added one after the other -/
inductive Good : List Lk → Prop
  | nil : Good []
  | snoc {ls : List Lk} {x : Lk} : Good ls → canE ls x = 0 → Good (ls ++ [withH x (afterH ls x)])
theorem Good.add {ls : List Lk} (h : Good ls) (x : Lk) : Good (addK ls x) := by
  by_cases e : canE ls x = 0
  · rw [addK, if_pos e]; exact h.snoc e
  · rw [addK, if_neg e]; exact h
theorem verF_app : ∀ (l1 pre l2 : List Lk), verF pre l1 = (-1, 0) → verF pre (l1 ++ l2) = verF (pre ++ l1) l2
  | [], pre, l2, _ => by simp
  | x :: r, pre, l2, h => by
    rw [verF] at h
    rw [List.cons_append, verF]
    split at h
    · have := (Prod.mk.inj h).1; omega
    split at h
    · have := (Prod.mk.inj h).1; omega
    rename_i h1 h2
    rw [if_neg h1, if_neg h2, verF_app r (pre ++ [x]) l2 h]
    simp
theorem Good.ver {ls : List Lk} (h : Good ls) : verF [] ls = (-1, 0) := by
  induction h with
  | nil => rfl
  | @snoc ls x h e ih =>
    rw [verF_app ls [] _ ih, List.nil_append, verF]
    have c1 : canE ls (withH x (afterH ls x)) = 0 := e
    have c2 : afterH ls (withH x (afterH ls x)) = (withH x (afterH ls x)).ha := rfl
    rw [if_neg (by rw [c1]; simp), if_neg (by rw [c2]; simp)]
    rfl
theorem Good.take {ls : List Lk} (h : Good ls) (k : Nat) : Good (ls.take k) := by
  induction h with
  | nil => simpa using Good.nil
  | @snoc ls x h e ih =>
    by_cases hk : k ≤ ls.length
    · rw [List.take_append_of_le_length hk]; exact ih
    · rw [List.take_of_length_le (by simp; omega)]; exact h.snoc e
theorem SliceIs.take {W : World} {n k c : Nat} {A : Option Addr} {ls : List Lk} (hn : ls.length = n) (h : SliceIs W 6 (.slice A n c) n (kcells ls)) (hk : k ≤ n) : SliceIs W 6 (.slice A k c) (ls.take k).length (kcells (ls.take k)) := by
  have hl : (ls.take k).length = k := by rw [List.length_take]; omega
  rw [hl]
  refine ⟨by rw [kcells_len, hl], by have := h.2.1; omega, ?_⟩
  rcases Nat.eq_zero_or_pos k with h0 | h0
  · subst h0; exact .inl ⟨rfl, _, _, rfl⟩
  · obtain ⟨g, off, rfl, hc, hg, hx⟩ := slice_addr h (by omega)
    refine .inr ⟨g, off, c, rfl, by omega, hg, fun j u hu => hx j u ?_⟩
    have e : kcells ls = kcells (ls.take k) ++ kcells (ls.drop k) := by
      unfold kcells
      rw [← List.flatMap_append, List.take_append_drop]
    rw [e, List.getElem?_append_left (List.getElem?_eq_some_iff.1 hu).1]
    exact hu
theorem CInv.small {ls : List Lk} (h : CInv ls) : ∀ (i : Nat) (x : Lk), ls[i]? = some x → x.it.size ≤ 1000 ∧ x.pa.size ≤ 1000 ∧ x.sp.size ≤ 1000 := fun i x hx => by
  have := h.each i x hx
  omega
theorem slice_cells {W : World} {n c : Nat} {A : Option Addr} {ls : List Lk} (h : SliceIs W 6 (.slice A n c) n (kcells ls)) {k : Nat} {x : Lk} (hx : ls[k]? = some x) (hn : ls.length = n) : ∃ g off, A = some ⟨g, off, none⟩ ∧ n ≤ c ∧ k < n ∧ g < W.heap.size ∧ W.cell? ⟨g, off + k * 6, none⟩ = some (.string x.it) ∧ W.cell? ⟨g, off + k * 6 + 1, none⟩ = some (.string x.pa) ∧ W.cell? ⟨g, off + k * 6 + 2, none⟩ = some (.int .i64 x.t) ∧ W.cell? ⟨g, off + k * 6 + 3, none⟩ = some (.int .i64 x.vo) ∧ W.cell? ⟨g, off + k * 6 + 4, none⟩ = some (.string x.sp) ∧ W.cell? ⟨g, off + k * 6 + 5, none⟩ = some (.int .u64 x.ha) := by
  have hk := (List.getElem?_eq_some_iff.1 hx).1
  obtain ⟨g, off, rfl, hc, hg, hcx⟩ := slice_addr h (by omega)
  exact ⟨g, off, rfl, hc, by omega, hg, hcx (k * 6) _ (kcells_at hx (j := 0) (by omega)), hcx (k * 6 + 1) _ (kcells_at hx (j := 1) (by omega)), hcx (k * 6 + 2) _ (kcells_at hx (j := 2) (by omega)), hcx (k * 6 + 3) _ (kcells_at hx (j := 3) (by omega)), hcx (k * 6 + 4) _ (kcells_at hx (j := 4) (by omega)), hcx (k * 6 + 5) _ (kcells_at hx (j := 5) (by omega))⟩
theorem slice_cells2 {W W' : World} {n c g off : Nat} {ls : List Lk} (h : SliceIs W 6 (.slice (some ⟨g, off, none⟩) n c) n (kcells ls)) {k : Nat} {x : Lk} (hx : ls[k]? = some x) (hn : ls.length = n) (hb : Below W.heap.size W W') : W'.cell? ⟨g, off + k * 6, none⟩ = some (.string x.it) ∧ W'.cell? ⟨g, off + k * 6 + 1, none⟩ = some (.string x.pa) ∧ W'.cell? ⟨g, off + k * 6 + 2, none⟩ = some (.int .i64 x.t) ∧ W'.cell? ⟨g, off + k * 6 + 3, none⟩ = some (.int .i64 x.vo) ∧ W'.cell? ⟨g, off + k * 6 + 4, none⟩ = some (.string x.sp) ∧ W'.cell? ⟨g, off + k * 6 + 5, none⟩ = some (.int .u64 x.ha) := by
  obtain ⟨g', off', e, _, _, hg, d0, d1, d2, d3, d4, d5⟩ := slice_cells h hx hn
  cases e
  exact ⟨(hb.cell (p := ⟨g, off + k * 6, none⟩) hg).trans d0, (hb.cell (p := ⟨g, off + k * 6 + 1, none⟩) hg).trans d1, (hb.cell (p := ⟨g, off + k * 6 + 2, none⟩) hg).trans d2, (hb.cell (p := ⟨g, off + k * 6 + 3, none⟩) hg).trans d3, (hb.cell (p := ⟨g, off + k * 6 + 4, none⟩) hg).trans d4, (hb.cell (p := ⟨g, off + k * 6 + 5, none⟩) hg).trans d5⟩
structure PInv (ls : List Lk) : Prop where
  code : ∀ (i : Nat) (x : Lk), ls[i]? = some x → splitE x.it.data.toList = 0 ∧ (x.pa = emptyB → splitK x.it.data.toList = 80)
  up : ∀ (i : Nat) (x : Lk), ls[i]? = some x → x.pa ≠ emptyB → ∃ (k : Nat) (u : Lk), k < i ∧ ls[k]? = some u ∧ u.it = x.pa ∧ u.t ≤ x.t ∧ x.sp = u.sp
  vol : ∀ (i : Nat) (x : Lk), ls[i]? = some x → volS ls x.it ≤ x.vo
theorem volS_zero {ls : List Lk} {s : ByteArray} (h : ∀ (i : Nat) (x : Lk), ls[i]? = some x → x.pa ≠ s) : volS ls s = 0 := by
  induction ls with
  | nil => rfl
  | cons x r ih =>
    have h0 := h 0 x rfl
    have h1 := ih (fun i y hy => h (i + 1) y (by simpa using hy))
    have e : volS (x :: r) s = (if x.pa = s then x.vo else 0) + volS r s := by simp [volS]
    rw [e, h1, if_neg h0]; rfl
theorem Good.cinv {ls : List Lk} (h : Good ls) : CInv ls := by
  induction h with
  | nil => exact CInv.nil
  | @snoc ls x h e ih => exact ih.add e
theorem Good.pinv {ls : List Lk} (h : Good ls) : PInv ls := by
  induction h with
  | nil => exact ⟨fun i x h => by simp at h, fun i x h => by simp at h, fun i x h => by simp at h⟩
  | @snoc ls x h e ih =>
    have hI := h.cinv
    obtain ⟨h1, h2, u, hu, hc⟩ := canE_zero e
    obtain ⟨c1, c2, c3, c4, c5, c6, c7, c8, c9⟩ := canU_zero hc
    obtain ⟨s1, s2⟩ := nameOk_split h1
    have hne : ∀ (i : Nat) (y : Lk), ls[i]? = some y → y.it ≠ x.it := fun i y hy e => by
      have := hI.dist i y hy
      rw [e] at this
      omega
    refine ⟨fun i y hy => ?_, fun i y hy hp => ?_, fun i y hy => ?_⟩
    · rcases snoc_at hy with h' | ⟨_, rfl⟩
      · exact ih.code i y h'
      · exact ⟨s1, s2.2⟩
    · rcases snoc_at hy with h' | ⟨rfl, rfl⟩
      · obtain ⟨k, v, k1, k2, k3⟩ := ih.up i y h' hp
        have hk := (List.getElem?_eq_some_iff.1 k2).1
        exact ⟨k, v, k1, by rw [List.getElem?_append_left hk]; exact k2, k3⟩
      · rcases upO_cases ls x with ⟨h3, _⟩ | ⟨_, _, h3⟩ | ⟨k, v, h3, h4, h5, h6⟩
        · exact absurd h3 hp
        · rw [hu] at h3; cases h3
        · rw [hu] at h6
          obtain rfl := Option.some.inj h6
          have hk := (List.getElem?_eq_some_iff.1 h5).1
          rcases atI_cases ls x.pa with ⟨g1, _⟩ | ⟨k', v', g1, g2, g3, _⟩
          · omega
          · have : k' = k := by omega
            subst this
            rw [h5] at g1
            obtain rfl := Option.some.inj g1
            exact ⟨k', u, hk, by rw [List.getElem?_append_left hk]; exact h5, g3, c1, c5⟩
    · rw [volS_snoc]
      have hx : (withH x (afterH ls x)).pa = x.pa := rfl
      have hv : (withH x (afterH ls x)).vo = x.vo := rfl
      rw [hx, hv]
      rcases snoc_at hy with h' | ⟨rfl, rfl⟩
      · have hv := ih.vol i y h'
        by_cases ep : x.pa = y.it
        · rw [if_pos ep]
          have hsz := (hI.each i y h').2.2.2.2.1
          have hpe : x.pa ≠ emptyB := fun e => by rw [← ep, e] at hsz; exact absurd hsz (by decide)
          have hd := hI.dist i y h'
          rcases upO_cases ls x with ⟨h3, _⟩ | ⟨_, _, h3⟩ | ⟨k, v, h3, h4, h5, h6⟩
          · exact absurd h3 hpe
          · rw [hu] at h3; cases h3
          · rw [hu] at h6
            obtain rfl := Option.some.inj h6
            rw [ep, hd] at h4
            have : i = k := by omega
            subst this
            rw [h'] at h5
            obtain rfl := Option.some.inj h5
            rcases c8 with h | h
            · exact absurd h hpe
            · rw [ep] at h; exact h
        · rw [if_neg ep]; omega
      · have h0 : volS ls x.it = 0 := volS_zero (fun j y hy e => by
          rcases hI.up j y hy with h' | ⟨h3, h4⟩
          · have := split_size s1
            rw [← e, h'] at this
            exact absurd this (by decide)
          · rw [e] at h3; omega)
        show volS ls x.it + (if x.pa = x.it then x.vo else 0) ≤ x.vo
        rw [h0]
        have : 0 ≤ x.vo := c6
        split <;> omega
def TrOk (x : Lk) (T : List Lk) : Prop :=
  (∃ r, T = x :: r) ∧ (∃ y, T.getLast? = some y ∧ y.pa = emptyB ∧ isB y.it.data.toList 80 = true ∧ y.sp = x.sp) ∧ ∀ (k : Nat) (u v : Lk), T[k]? = some u → T[k + 1]? = some v → u.pa = v.it ∧ v.t ≤ u.t
theorem trace_ok {ls : List Lk} (hI : CInv ls) (hP : PInv ls) : ∀ (n i : Nat) (x : Lk), i < n → ls[i]? = some x → TrOk x (traceL ls x.it)
  | 0, i, x, hi, _ => by omega
  | n + 1, i, x, hi, hx => by
    have hT := traceL_step hI hx (hI.dist i x hx)
    by_cases e : x.pa = emptyB
    · rw [if_pos e] at hT
      rw [hT]
      have hc := hP.code i x hx
      refine ⟨⟨[], rfl⟩, ⟨x, rfl, e, by simp [isB, hc.1, hc.2 e], rfl⟩, fun k u v h1 h2 => by simp at h2⟩
    · rw [if_neg e] at hT
      obtain ⟨k, u, k1, k2, k3, k4, k5⟩ := hP.up i x hx e
      obtain ⟨⟨r, hr⟩, ⟨y, hy1, hy2, hy3, hy4⟩, hch⟩ := trace_ok hI hP n k u (by omega) k2
      rw [k3] at hr hy1 hch
      rw [hT]
      refine ⟨⟨_, rfl⟩, ⟨y, ?_, hy2, hy3, hy4.trans k5.symm⟩, fun j a c h1 h2 => ?_⟩
      · rw [hr] at hy1 ⊢
        rw [List.getLast?_cons_cons]; exact hy1
      · cases j with
        | zero =>
          rw [hr] at h2
          obtain rfl : x = a := by simpa using h1
          obtain rfl : u = c := by simpa using h2
          exact ⟨k3.symm, k4⟩
        | succ j => exact hch j a c (by simpa using h1) (by simpa using h2)
theorem trace_ok' {ls : List Lk} (hI : CInv ls) (hP : PInv ls) {i : Nat} {x : Lk} (hx : ls[i]? = some x) : TrOk x (traceL ls x.it) := trace_ok hI hP (i + 1) i x (Nat.lt_succ_self _) hx
theorem trF_mem : ∀ (f : Nat) (ls : List Lk) (s : ByteArray) (y : Lk), y ∈ trF f ls s → ∃ i : Nat, ls[i]? = some y
  | 0, _, _, y, h => by simp [trF] at h
  | f + 1, ls, s, y, h => by
    rw [trF] at h
    split at h
    · simp at h
    split at h
    · rename_i x hx
      rcases List.mem_cons.1 h with rfl | h
      · exact ⟨_, hx⟩
      · split at h
        · simp at h
        · exact trF_mem f ls _ y h
    · simp at h
theorem traceL_mem {ls : List Lk} {s : ByteArray} (y : Lk) (h : y ∈ traceL ls s) : ∃ i : Nat, ls[i]? = some y := trF_mem _ ls s y h
def kidL (ls : List Lk) (s : ByteArray) : List Lk := ls.filter (fun x => decide (x.pa = s))
theorem kids_eq (ls : List Lk) (s : ByteArray) : kids ls s = (kidL ls s).map Lk.it := rfl
theorem kidL_at {ls : List Lk} {s : ByteArray} {k : Nat} {y : Lk} (h : (kidL ls s)[k]? = some y) : y.pa = s ∧ ∃ i : Nat, ls[i]? = some y := by
  have hm : y ∈ kidL ls s := List.mem_of_getElem? h
  obtain ⟨h1, h2⟩ := List.mem_filter.1 hm
  exact ⟨by simpa using h2, List.mem_iff_getElem?.1 h1⟩
theorem kidL_len (ls : List Lk) (s : ByteArray) : (kidL ls s).length ≤ ls.length := List.length_filter_le _ _
theorem volS_kidL (ls : List Lk) (s : ByteArray) : volS ls s = ((kidL ls s).map Lk.vo).sum := by
  induction ls with
  | nil => rfl
  | cons x r ih =>
    have e : volS (x :: r) s = (if x.pa = s then x.vo else 0) + volS r s := by simp [volS]
    rw [e, ih]
    unfold kidL
    by_cases h : x.pa = s <;> simp [h]
def sumK (l : List Lk) (k : Nat) : Int := ((l.take k).map Lk.vo).sum
theorem sumK_zero (l : List Lk) : sumK l 0 = 0 := rfl
theorem sumK_all (l : List Lk) : sumK l l.length = (l.map Lk.vo).sum := by rw [sumK, List.take_length]
theorem sumK_succ {l : List Lk} {k : Nat} {y : Lk} (h : l[k]? = some y) : sumK l (k + 1) = sumK l k + y.vo := by
  unfold sumK
  rw [List.take_add_one, h]
  simp
theorem sumK_range {l : List Lk} (h : ∀ (i : Nat) (x : Lk), l[i]? = some x → 0 ≤ x.vo ∧ x.vo ≤ 1125899906842624) : ∀ k, k ≤ l.length → 0 ≤ sumK l k ∧ sumK l k ≤ k * 1125899906842624
  | 0, _ => by simp [sumK]
  | k + 1, hk => by
    have hx : l[k]? = some l[k] := List.getElem?_eq_getElem (by omega)
    have h1 := sumK_range h k (by omega)
    have h2 := h k _ hx
    rw [sumK_succ hx]
    omega
/-- what the walk wants of the link i -/
theorem kid_trace {ls : List Lk} (hI : CInv ls) (hP : PInv ls) {i k : Nat} {x y : Lk} (hx : ls[i]? = some x) (h : (kidL ls x.it)[k]? = some y) : ¬ atI ls y.it < 0 ∧ ∃ r, traceL ls y.it = y :: x :: r := by
  obtain ⟨h1, j, hj⟩ := kidL_at h
  have hd := hI.dist j y hj
  have hT := traceL_step hI hj hd
  have hsz := (hI.each i x hx).2.2.2.2.1
  have hne : y.pa ≠ emptyB := fun e => by rw [← h1, e] at hsz; exact absurd hsz (by decide)
  rw [if_neg hne, h1] at hT
  obtain ⟨⟨r, hr⟩, _⟩ := trace_ok' hI hP hx
  rw [hr] at hT
  exact ⟨by omega, r, hT⟩
theorem canE_ranges {ls : List Lk} {x : Lk} (h : canE ls x = 0) : (-9223372036854775808 ≤ x.t ∧ x.t ≤ 9223372036854775807) ∧ (-9223372036854775808 ≤ x.vo ∧ x.vo ≤ 9223372036854775807) := by
  obtain ⟨_, _, u, _, hc⟩ := canE_zero h
  obtain ⟨_, c2, c3, _, _, c6, c7, _⟩ := canU_zero hc
  omega
theorem set_small {ls : List Lk} (h : ∀ (i : Nat) (x : Lk), ls[i]? = some x → x.it.size ≤ 1000 ∧ x.pa.size ≤ 1000 ∧ x.sp.size ≤ 1000) {k : Nat} {y : Lk} (hy : y.it.size ≤ 1000 ∧ y.pa.size ≤ 1000 ∧ y.sp.size ≤ 1000) : ∀ (i : Nat) (x : Lk), (ls.set k y)[i]? = some x → x.it.size ≤ 1000 ∧ x.pa.size ≤ 1000 ∧ x.sp.size ≤ 1000 := by
  intro i x hx
  rw [List.getElem?_set] at hx
  split at hx
  · split at hx
    · obtain rfl := Option.some.inj hx
      exact hy
    · simp at hx
  · exact h i x hx
/-- the cells of the row in which one link was replaced -/
theorem kcells_set {ls : List Lk} {k : Nat} (hk : k < ls.length) (y : Lk) {j : Nat} {u : Value} (h : (kcells (ls.set k y))[j]? = some u) : (∃ r, r < 6 ∧ j = k * 6 + r ∧ y.cells[r]? = some u) ∨ ((∀ r, r < 6 → j ≠ k * 6 + r) ∧ (kcells ls)[j]? = some u) := by
  have hj := (List.getElem?_eq_some_iff.1 h).1
  rw [kcells_len, List.length_set] at hj
  have hj2 : j = j / 6 * 6 + j % 6 := by omega
  have hr : j % 6 < 6 := Nat.mod_lt _ (by decide)
  have hi : j / 6 < ls.length := by omega
  generalize j / 6 = i at hj2 hi
  generalize j % 6 = r at hj2 hr
  subst hj2
  by_cases e : i = k
  · subst e
    refine .inl ⟨r, hr, rfl, ?_⟩
    rw [kcells_at (x := y) (by rw [List.getElem?_set, if_pos rfl, if_pos hi]) hr] at h
    exact h
  · refine .inr ⟨fun s hs => by omega, ?_⟩
    have hz : ls[i]? = some ls[i] := List.getElem?_eq_getElem hi
    rw [kcells_at (x := ls[i]) (by rw [List.getElem?_set, if_neg (fun h => e h.symm)]; exact hz) hr] at h
    rw [kcells_at hz hr]
    exact h
theorem detect {ls : List Lk} (hG : Good ls) {k : Nat} {x : Lk} (y : Lk) (hx : ls[k]? = some x) : ((verF [] (ls.set k y)).2 ≠ 0 ∧ (verF [] (ls.set k y)).1 = k) ∨ (canE (ls.take k) y = 0 ∧ afterH (ls.take k) y = y.ha) := by
  have hk := (List.getElem?_eq_some_iff.1 hx).1
  have hl : (ls.take k).length = k := by rw [List.length_take]; omega
  have e : ls.set k y = ls.take k ++ y :: ls.drop (k + 1) := by rw [List.set_eq_take_append_cons_drop, if_pos hk]
  rw [e, verF_app (ls.take k) [] _ (hG.take k).ver, List.nil_append, verF]
  by_cases c1 : canE (ls.take k) y = 0
  · rw [if_neg (by simp [c1])]
    by_cases c2 : afterH (ls.take k) y = y.ha
    · exact .inr ⟨c1, c2⟩
    · rw [if_pos c2]
      exact .inl ⟨by simp, by simp [hl]⟩
  · rw [if_pos c1]
    exact .inl ⟨c1, by simp [hl]⟩
end Go.Proofs.YtgonghmihghhnaaDoor.Cu
