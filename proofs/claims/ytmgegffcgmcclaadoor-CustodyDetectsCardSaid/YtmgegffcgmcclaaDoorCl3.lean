/- the law CustodySound, walked. -/
import Derived.Test.YtmgegffcgmcclaaDoorCl2
namespace Go.Proofs.YtmgegffcgmcclaaDoor.Cu
open Go.RowKit Go.Proofs.YtmgegffcgmcclaaDoor.Id Go.Maps

/-- links that were added one after the other -/
inductive Good : List Lk → Prop
  | nil : Good []
  | snoc {ls : List Lk} {x : Lk} : Good ls → canE ls x = 0 → Good (ls ++ [withH x (afterH ls x)])
theorem Good.add {ls : List Lk} (h : Good ls) (x : Lk) : Good (addK ls x) := by
  by_cases e : canE ls x = 0
  · rw [addK, if_pos e]; exact h.snoc e
  · rw [addK, if_neg e]; exact h
theorem foldl_good (os : List COp) : ∀ ls, Good ls → Good (os.foldl (fun ls o => addK ls o.lk) ls) := by
  induction os with
  | nil => exact fun _ h => h
  | cons o r ih => exact fun ls h => ih _ (h.add _)
theorem regL_good (os : List COp) : Good (regL os) := foldl_good os [] Good.nil
theorem verF_app : ∀ (l1 pre l2 : List Lk), verF pre l1 = (-1, 0) → verF pre (l1 ++ l2) = verF (pre ++ l1) l2
  | [], pre, l2, _ => by simp
  | x :: r, pre, l2, h => by
    rw [verF] at h
    rw [List.cons_append, verF]
    split at h
    · have := (Prod.mk.inj h).1; omega
    split at h
    · have := (Prod.mk.inj h).1; omega
    rename_i h1 h2
    rw [if_neg h1, if_neg h2, verF_app r (pre ++ [x]) l2 h]
    simp
theorem Good.ver {ls : List Lk} (h : Good ls) : verF [] ls = (-1, 0) := by
  induction h with
  | nil => rfl
  | @snoc ls x h e ih =>
    rw [verF_app ls [] _ ih, List.nil_append, verF]
    have c1 : canE ls (withH x (afterH ls x)) = 0 := e
    have c2 : afterH ls (withH x (afterH ls x)) = (withH x (afterH ls x)).ha := rfl
    rw [if_neg (by rw [c1]; simp), if_neg (by rw [c2]; simp)]
    rfl
theorem Good.take {ls : List Lk} (h : Good ls) (k : Nat) : Good (ls.take k) := by
  induction h with
  | nil => simpa using Good.nil
  | @snoc ls x h e ih =>
    by_cases hk : k ≤ ls.length
    · rw [List.take_append_of_le_length hk]; exact ih
    · rw [List.take_of_length_le (by simp; omega)]; exact h.snoc e
theorem SliceIs.take {W : World} {n k c : Nat} {A : Option Addr} {ls : List Lk} (hn : ls.length = n) (h : SliceIs W 6 (.slice A n c) n (kcells ls)) (hk : k ≤ n) : SliceIs W 6 (.slice A k c) (ls.take k).length (kcells (ls.take k)) := by
  have hl : (ls.take k).length = k := by rw [List.length_take]; omega
  rw [hl]
  refine ⟨by rw [kcells_len, hl], by have := h.2.1; omega, ?_⟩
  rcases Nat.eq_zero_or_pos k with h0 | h0
  · subst h0; exact .inl ⟨rfl, _, _, rfl⟩
  · obtain ⟨g, off, rfl, hc, hg, hx⟩ := slice_addr h (by omega)
    refine .inr ⟨g, off, c, rfl, by omega, hg, fun j u hu => hx j u ?_⟩
    have e : kcells ls = kcells (ls.take k) ++ kcells (ls.drop k) := by
      unfold kcells
      rw [← List.flatMap_append, List.take_append_drop]
    rw [e, List.getElem?_append_left (List.getElem?_eq_some_iff.1 hu).1]
    exact hu
theorem CInv.small {ls : List Lk} (h : CInv ls) : ∀ (i : Nat) (x : Lk), ls[i]? = some x → x.it.size ≤ 1000 ∧ x.pa.size ≤ 1000 ∧ x.sp.size ≤ 1000 := fun i x hx => by
  have := h.each i x hx
  omega
set_option maxHeartbeats 8000000 in
set_option maxRecDepth 100000 in
set_option linter.all false in
theorem CustodySound_any (v : Value) (os : List COp) (u : Int) (w : World) (htab : Tab w) (hs : SliceIs w 5 v os.length (opcells os)) (hu0 : 0 ≤ u) (hu1 : u < 256) :
    Calls Tryd.prog 5 #[v, .int .u8 u] w fun e w' => e = .returned (.bool true) ∧ Below w.heap.size w w' := by
  have HT := Lib.hid htab
  have HS := Lib.hid hs
  obtain ⟨A, c, rfl⟩ := slice_shape hs
  clear hs htab
  go_enter Tryd.func5, Tryd.ntmps5
  go_wp2_with fail
  refine (small_any _ os w HS.out).mono ?_
  rintro e w1 ⟨bb, rfl, b1, hb⟩
  have HB := Lib.hid hb
  clear hb
  cases bb with
  | false =>
    go_wp2_with fail
    refine (awake_any _ (HT.out.on b1)).mono ?_
    rintro e w2 ⟨rfl, b2⟩
    go_wp2_with fail
    go_ret
    exact ⟨rfl, bT b1 b2⟩
  | true =>
    have HOK := Lib.hid (HB.out (by simp)).2
    clear HB
    go_wp2_with fail
    refine (register_any _ os _ (HT.out.on b1) (HS.out.below b1) HOK.out).mono ?_
    rintro e w2 ⟨b, rfl, hL⟩
    have HL := Lib.hid hL
    have HG := Lib.hid (regL_good os)
    have HI := Lib.hid hL.inv
    have B2 := Lib.hid (bT b1 hL.wb)
    clear hL b1
    generalize regL os = ls at HL HG HI
    go_wp2_with fail
    refine (HL.out.links).mono ?_
    rintro e w3 ⟨v3, rfl, hf, b3⟩
    have HF := Lib.hid hf.slice
    obtain ⟨A3, c3, rfl⟩ := slice_shape hf.slice
    have hlen := HI.out.len
    have B3 := Lib.hid (bT B2.out b3)
    have hcc : ls.length ≤ c3 := by
      rcases hf.2.2 with ⟨h0, _⟩ | ⟨g, cs, e, _⟩
      · omega
      · simp only [Value.slice.injEq] at e; omega
    clear hf b3
    go_wp2_with fail
    refine (Verify_any _ ls _ HF.out (HT.out.on B3.out) HI.out.small).mono ?_
    rintro e w4 ⟨rfl, b4⟩
    rw [HG.out.ver]
    have B4 := Lib.hid (bT B3.out b4)
    have HF4 := Lib.hid (HF.out.below b4)
    clear b4
    have hll : ∀ W, (Builtin.len_ #[27] 3 #[.slice A3 ls.length c3]).run Tryd.prog W = .ok (.int .i64 ls.length) W := fun W => by simp [Builtin.len_, run_underlying und_links]; rfl
    obtain ⟨k, hk⟩ : ∃ k : Nat, u.tmod ((ls.length : Int) + 1) = k := ⟨(u.tmod ((ls.length : Int) + 1)).toNat, by rw [Int.toNat_of_nonneg (Int.tmod_nonneg _ hu0)]⟩
    have hkl : k ≤ ls.length := by
      have := Int.tmod_lt_of_pos u (b := (ls.length : Int) + 1) (by omega)
      omega
    have hkc : k ≤ c3 := by omega
    have HFk := Lib.hid (SliceIs.take rfl HF4.out hkl)
    go_wp2_with fail
    refine (Verify_any _ (ls.take k) _ HFk.out (HT.out.on B4.out) (fun i x hx => HI.out.small i x (by rw [List.getElem?_take] at hx; split at hx; exact hx; simp at hx))).mono ?_
    rintro e w5 ⟨rfl, b5⟩
    rw [(HG.out.take k).ver]
    have B5 := Lib.hid (bT B4.out b5)
    clear b5
    go_wp2_with fail
    refine (awake_any _ (HT.out.on B5.out)).mono ?_
    rintro e w6 ⟨rfl, b6⟩
    go_wp2_with fail
    go_ret
    exact ⟨rfl, bT B5.out b6⟩
end Go.Proofs.YtmgegffcgmcclaaDoor.Cu
