/- the law CustodyPermit, plain: what is so of the links of a register. -/
import Derived.Test.YtmgegffcgmcclaaDoorCl4
namespace Go.Proofs.YtmgegffcgmcclaaDoor.Cu
open Go.RowKit Go.Proofs.YtmgegffcgmcclaaDoor.Id Go.Maps

structure PInv (ls : List Lk) : Prop where
  code : ∀ (i : Nat) (x : Lk), ls[i]? = some x → splitE x.it.data.toList = 0 ∧ (x.pa = emptyB → splitK x.it.data.toList = 80)
  up : ∀ (i : Nat) (x : Lk), ls[i]? = some x → x.pa ≠ emptyB → ∃ (k : Nat) (u : Lk), k < i ∧ ls[k]? = some u ∧ u.it = x.pa ∧ u.t ≤ x.t ∧ x.sp = u.sp
  vol : ∀ (i : Nat) (x : Lk), ls[i]? = some x → volS ls x.it ≤ x.vo
theorem volS_zero {ls : List Lk} {s : ByteArray} (h : ∀ (i : Nat) (x : Lk), ls[i]? = some x → x.pa ≠ s) : volS ls s = 0 := by
  induction ls with
  | nil => rfl
  | cons x r ih =>
    have h0 := h 0 x rfl
    have h1 := ih (fun i y hy => h (i + 1) y (by simpa using hy))
    have e : volS (x :: r) s = (if x.pa = s then x.vo else 0) + volS r s := by simp [volS]
    rw [e, h1, if_neg h0]; rfl
theorem Good.cinv {ls : List Lk} (h : Good ls) : CInv ls := by
  induction h with
  | nil => exact CInv.nil
  | @snoc ls x h e ih => exact ih.add e
theorem Good.pinv {ls : List Lk} (h : Good ls) : PInv ls := by
  induction h with
  | nil => exact ⟨fun i x h => by simp at h, fun i x h => by simp at h, fun i x h => by simp at h⟩
  | @snoc ls x h e ih =>
    have hI := h.cinv
    obtain ⟨h1, h2, u, hu, hc⟩ := canE_zero e
    obtain ⟨c1, c2, c3, c4, c5, c6, c7, c8, c9⟩ := canU_zero hc
    obtain ⟨s1, s2⟩ := nameOk_split h1
    have hne : ∀ (i : Nat) (y : Lk), ls[i]? = some y → y.it ≠ x.it := fun i y hy e => by
      have := hI.dist i y hy
      rw [e] at this
      omega
    refine ⟨fun i y hy => ?_, fun i y hy hp => ?_, fun i y hy => ?_⟩
    · rcases snoc_at hy with h' | ⟨_, rfl⟩
      · exact ih.code i y h'
      · exact ⟨s1, s2.2⟩
    · rcases snoc_at hy with h' | ⟨rfl, rfl⟩
      · obtain ⟨k, v, k1, k2, k3⟩ := ih.up i y h' hp
        have hk := (List.getElem?_eq_some_iff.1 k2).1
        exact ⟨k, v, k1, by rw [List.getElem?_append_left hk]; exact k2, k3⟩
      · rcases upO_cases ls x with ⟨h3, _⟩ | ⟨_, _, h3⟩ | ⟨k, v, h3, h4, h5, h6⟩
        · exact absurd h3 hp
        · rw [hu] at h3; cases h3
        · rw [hu] at h6
          obtain rfl := Option.some.inj h6
          have hk := (List.getElem?_eq_some_iff.1 h5).1
          rcases atI_cases ls x.pa with ⟨g1, _⟩ | ⟨k', v', g1, g2, g3, _⟩
          · omega
          · have : k' = k := by omega
            subst this
            rw [h5] at g1
            obtain rfl := Option.some.inj g1
            exact ⟨k', u, hk, by rw [List.getElem?_append_left hk]; exact h5, g3, c1, c5⟩
    · rw [volS_snoc]
      have hx : (withH x (afterH ls x)).pa = x.pa := rfl
      have hv : (withH x (afterH ls x)).vo = x.vo := rfl
      rw [hx, hv]
      rcases snoc_at hy with h' | ⟨rfl, rfl⟩
      · have hv := ih.vol i y h'
        by_cases ep : x.pa = y.it
        · rw [if_pos ep]
          have hsz := (hI.each i y h').2.2.2.2.1
          have hpe : x.pa ≠ emptyB := fun e => by rw [← ep, e] at hsz; exact absurd hsz (by decide)
          have hd := hI.dist i y h'
          rcases upO_cases ls x with ⟨h3, _⟩ | ⟨_, _, h3⟩ | ⟨k, v, h3, h4, h5, h6⟩
          · exact absurd h3 hpe
          · rw [hu] at h3; cases h3
          · rw [hu] at h6
            obtain rfl := Option.some.inj h6
            rw [ep, hd] at h4
            have : i = k := by omega
            subst this
            rw [h'] at h5
            obtain rfl := Option.some.inj h5
            rcases c8 with h | h
            · exact absurd h hpe
            · rw [ep] at h; exact h
        · rw [if_neg ep]; omega
      · have h0 : volS ls x.it = 0 := volS_zero (fun j y hy e => by
          rcases hI.up j y hy with h' | ⟨h3, h4⟩
          · have := split_size s1
            rw [← e, h'] at this
            exact absurd this (by decide)
          · rw [e] at h3; omega)
        show volS ls x.it + (if x.pa = x.it then x.vo else 0) ≤ x.vo
        rw [h0]
        have : 0 ≤ x.vo := c6
        split <;> omega

/-! what Trace leads to -/
def TrOk (x : Lk) (T : List Lk) : Prop :=
  (∃ r, T = x :: r) ∧ (∃ y, T.getLast? = some y ∧ y.pa = emptyB ∧ isB y.it.data.toList 80 = true ∧ y.sp = x.sp) ∧ ∀ (k : Nat) (u v : Lk), T[k]? = some u → T[k + 1]? = some v → u.pa = v.it ∧ v.t ≤ u.t
theorem trace_ok {ls : List Lk} (hI : CInv ls) (hP : PInv ls) : ∀ (n i : Nat) (x : Lk), i < n → ls[i]? = some x → TrOk x (traceL ls x.it)
  | 0, i, x, hi, _ => by omega
  | n + 1, i, x, hi, hx => by
    have hT := traceL_step hI hx (hI.dist i x hx)
    by_cases e : x.pa = emptyB
    · rw [if_pos e] at hT
      rw [hT]
      have hc := hP.code i x hx
      refine ⟨⟨[], rfl⟩, ⟨x, rfl, e, by simp [isB, hc.1, hc.2 e], rfl⟩, fun k u v h1 h2 => by simp at h2⟩
    · rw [if_neg e] at hT
      obtain ⟨k, u, k1, k2, k3, k4, k5⟩ := hP.up i x hx e
      obtain ⟨⟨r, hr⟩, ⟨y, hy1, hy2, hy3, hy4⟩, hch⟩ := trace_ok hI hP n k u (by omega) k2
      rw [k3] at hr hy1 hch
      rw [hT]
      refine ⟨⟨_, rfl⟩, ⟨y, ?_, hy2, hy3, hy4.trans k5.symm⟩, fun j a c h1 h2 => ?_⟩
      · rw [hr] at hy1 ⊢
        rw [List.getLast?_cons_cons]; exact hy1
      · cases j with
        | zero =>
          rw [hr] at h2
          obtain rfl : x = a := by simpa using h1
          obtain rfl : u = c := by simpa using h2
          exact ⟨k3.symm, k4⟩
        | succ j => exact hch j a c (by simpa using h1) (by simpa using h2)
theorem trace_ok' {ls : List Lk} (hI : CInv ls) (hP : PInv ls) {i : Nat} {x : Lk} (hx : ls[i]? = some x) : TrOk x (traceL ls x.it) := trace_ok hI hP (i + 1) i x (Nat.lt_succ_self _) hx

theorem trF_mem : ∀ (f : Nat) (ls : List Lk) (s : ByteArray) (y : Lk), y ∈ trF f ls s → ∃ i : Nat, ls[i]? = some y
  | 0, _, _, y, h => by simp [trF] at h
  | f + 1, ls, s, y, h => by
    rw [trF] at h
    split at h
    · simp at h
    split at h
    · rename_i x hx
      rcases List.mem_cons.1 h with rfl | h
      · exact ⟨_, hx⟩
      · split at h
        · simp at h
        · exact trF_mem f ls _ y h
    · simp at h
theorem traceL_mem {ls : List Lk} {s : ByteArray} (y : Lk) (h : y ∈ traceL ls s) : ∃ i : Nat, ls[i]? = some y := trF_mem _ ls s y h

/-! children -/
def kidL (ls : List Lk) (s : ByteArray) : List Lk := ls.filter (fun x => decide (x.pa = s))
theorem kids_eq (ls : List Lk) (s : ByteArray) : kids ls s = (kidL ls s).map Lk.it := rfl
theorem kidL_at {ls : List Lk} {s : ByteArray} {k : Nat} {y : Lk} (h : (kidL ls s)[k]? = some y) : y.pa = s ∧ ∃ i : Nat, ls[i]? = some y := by
  have hm : y ∈ kidL ls s := List.mem_of_getElem? h
  obtain ⟨h1, h2⟩ := List.mem_filter.1 hm
  exact ⟨by simpa using h2, List.mem_iff_getElem?.1 h1⟩
theorem kidL_len (ls : List Lk) (s : ByteArray) : (kidL ls s).length ≤ ls.length := List.length_filter_le _ _
theorem volS_kidL (ls : List Lk) (s : ByteArray) : volS ls s = ((kidL ls s).map Lk.vo).sum := by
  induction ls with
  | nil => rfl
  | cons x r ih =>
    have e : volS (x :: r) s = (if x.pa = s then x.vo else 0) + volS r s := by simp [volS]
    rw [e, ih]
    unfold kidL
    by_cases h : x.pa = s <;> simp [h]
def sumK (l : List Lk) (k : Nat) : Int := ((l.take k).map Lk.vo).sum
theorem sumK_zero (l : List Lk) : sumK l 0 = 0 := rfl
theorem sumK_all (l : List Lk) : sumK l l.length = (l.map Lk.vo).sum := by rw [sumK, List.take_length]
theorem sumK_succ {l : List Lk} {k : Nat} {y : Lk} (h : l[k]? = some y) : sumK l (k + 1) = sumK l k + y.vo := by
  unfold sumK
  rw [List.take_add_one, h]
  simp
theorem sumK_range {l : List Lk} (h : ∀ (i : Nat) (x : Lk), l[i]? = some x → 0 ≤ x.vo ∧ x.vo ≤ 1125899906842624) : ∀ k, k ≤ l.length → 0 ≤ sumK l k ∧ sumK l k ≤ k * 1125899906842624
  | 0, _ => by simp [sumK]
  | k + 1, hk => by
    have hx : l[k]? = some l[k] := List.getElem?_eq_getElem (by omega)
    have h1 := sumK_range h k (by omega)
    have h2 := h k _ hx
    rw [sumK_succ hx]
    omega
/-- what the walk wants of the link i -/
theorem kid_trace {ls : List Lk} (hI : CInv ls) (hP : PInv ls) {i k : Nat} {x y : Lk} (hx : ls[i]? = some x) (h : (kidL ls x.it)[k]? = some y) : ¬ atI ls y.it < 0 ∧ ∃ r, traceL ls y.it = y :: x :: r := by
  obtain ⟨h1, j, hj⟩ := kidL_at h
  have hd := hI.dist j y hj
  have hT := traceL_step hI hj hd
  have hsz := (hI.each i x hx).2.2.2.2.1
  have hne : y.pa ≠ emptyB := fun e => by rw [← h1, e] at hsz; exact absurd hsz (by decide)
  rw [if_neg hne, h1] at hT
  obtain ⟨⟨r, hr⟩, _⟩ := trace_ok' hI hP hx
  rw [hr] at hT
  exact ⟨by omega, r, hT⟩
end Go.Proofs.YtmgegffcgmcclaaDoor.Cu
