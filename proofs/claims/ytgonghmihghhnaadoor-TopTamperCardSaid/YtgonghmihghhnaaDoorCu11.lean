/- custody: Root; the methods of a nil register; a register behind a call. -/
import Derived.Test.YtgonghmihghhnaaDoorCu10
namespace Go.Proofs.YtgonghmihghhnaaDoor.Cu
open Go.RowKit Go.Proofs.YtgonghmihghhnaaDoor.Id Go.Maps

/-- the register behind a call, in a world of which only new blocks were changed -/
def CLive (w W : World) (b : Nat) (ls : List Lk) : Prop := ∃ F, CReg W F b ls ∧ (∀ k, F k → w.heap.size ≤ k) ∧ Below w.heap.size w W
theorem CLive.wb {w W : World} {b : Nat} {ls : List Lk} (h : CLive w W b ls) : Below w.heap.size w W := by obtain ⟨_, _, _, h⟩ := h; exact h
theorem CLive.inv {w W : World} {b : Nat} {ls : List Lk} (h : CLive w W b ls) : CInv ls := by obtain ⟨_, h, _⟩ := h; exact h.inv
theorem CLive.below {w W W' : World} {b : Nat} {ls : List Lk} (h : CLive w W b ls) (hb : Below W.heap.size W W') : CLive w W' b ls := by
  obtain ⟨F, h1, h2, h3⟩ := h
  exact ⟨F, h1.below hb, h2, bT h3 hb⟩
theorem CLive.added {w W W' : World} {b : Nat} {ls : List Lk} {F : Nat → Prop} (h2 : ∀ k, F k → w.heap.size ≤ k) (h3 : Below w.heap.size w W) (ha : CAdded F b ls W W') : CLive w W' b ls := by
  obtain ⟨F', k1, _, k3, k4⟩ := ha
  have := h3.size
  exact ⟨F', k1, fun k hk => by rcases k3 k hk with h | h; exact h2 k h; omega, h3.trans (k4.below h2 h3.size)⟩
theorem New_live (w : World) : Calls Tryd.prog 11 #[] w fun e w' => ∃ b, e = .returned (.pointer (some ⟨b, 0, none⟩)) ∧ CLive w w' b [] := by
  refine (New_any w).mono ?_
  rintro e w' ⟨b, rfl, h1, h2⟩
  exact ⟨b, rfl, _, h1, fun _ h => h, h2⟩
theorem CLive.add {w W : World} {b : Nat} {ls : List Lk} (h : CLive w W b ls) (x : Lk) (hx0 : x.ha = 0) (htab : Tab W) (q1 : x.it.size ≤ 1000) (q2 : x.pa.size ≤ 1000) (q3 : x.sp.size ≤ 1000) :
    Calls Tryd.prog 13 #[.pointer (some ⟨b, 0, none⟩), .string x.it, .string x.pa, .string x.sp, .int .i64 x.t, .int .i64 x.vo] W fun e w' => e = .returned (.tuple #[.int .u64 (chkH ls x), .int .i64 (canE ls x)]) ∧ CLive w w' b (addK ls x) := by
  obtain ⟨F, h1, h2, h3⟩ := h
  exact (Add_any b F ls x hx0 W h1 htab q1 q2 q3).mono fun _ _ h => ⟨h.1, CLive.added h2 h3 h.2⟩
theorem CLive.check {w W : World} {b : Nat} {ls : List Lk} (h : CLive w W b ls) (x : Lk) (htab : Tab W) (q1 : x.it.size ≤ 1000) (q2 : x.pa.size ≤ 1000) (q3 : x.sp.size ≤ 1000) :
    Calls Tryd.prog 34 #[.pointer (some ⟨b, 0, none⟩), x.val] W fun e w' => e = .returned (.tuple #[.int .u64 (chkH ls x), .int .i64 (canE ls x)]) ∧ Below W.heap.size W w' := by
  obtain ⟨F, h1, h2, h3⟩ := h
  exact check_any b F ls x W h1 htab q1 q2 q3
theorem CLive.put {w W : World} {b : Nat} {ls : List Lk} (h : CLive w W b ls) (x : Lk) (hx : atI ls x.it < 0) (hI : CInv (ls ++ [x])) :
    Calls Tryd.prog 35 #[.pointer (some ⟨b, 0, none⟩), x.val] W fun e w' => e = .returned (.tuple #[]) ∧ CLive w w' b (ls ++ [x]) := by
  obtain ⟨F, h1, h2, h3⟩ := h
  exact (put_any b F ls x W h1 hx hI).mono fun _ _ h => ⟨h.1, CLive.added h2 h3 h.2⟩
theorem CLive.links {w W : World} {b : Nat} {ls : List Lk} (h : CLive w W b ls) : Calls Tryd.prog 14 #[.pointer (some ⟨b, 0, none⟩)] W fun e w' => ∃ v, e = .returned v ∧ Fresh w' W.heap.size v ls.length (kcells ls) ∧ Below W.heap.size W w' := by
  obtain ⟨F, h1, h2, h3⟩ := h
  exact Links_any b F ls W h1
theorem CLive.children {w W : World} {b : Nat} {ls : List Lk} (h : CLive w W b ls) (s : ByteArray) : Calls Tryd.prog 32 #[.pointer (some ⟨b, 0, none⟩), .string s] W fun e w' => ∃ v, e = .returned v ∧ w'.ownsRow W.heap.size 9 1 v (kidsR ls s).length (scells (kidsR ls s)) ∧ Below W.heap.size W w' := by
  obtain ⟨F, h1, h2, h3⟩ := h
  exact Children_any b F ls s W h1
theorem CLive.trace {w W : World} {b : Nat} {ls : List Lk} (h : CLive w W b ls) (s : ByteArray) (hs : s.size ≤ 140737488355328) : Calls Tryd.prog 31 #[.pointer (some ⟨b, 0, none⟩), .string s] W fun e w' => ∃ v, e = .returned (.tuple #[v, .int .i64 (trE ls s)]) ∧ w'.ownsRow W.heap.size 36 6 v (traceL ls s).length (kcells (traceL ls s)) ∧ Below W.heap.size W w' := by
  obtain ⟨F, h1, h2, h3⟩ := h
  exact Trace_any b F ls s W h1 hs
def rootS (ls : List Lk) (s : ByteArray) : ByteArray := match (traceL ls s).getLast? with | some x => x.it | none => emptyB
theorem traceL_ne {ls : List Lk} (hI : CInv ls) {s : ByteArray} (h : ¬ atI ls s < 0) : 0 < (traceL ls s).length := by
  rcases atI_cases ls s with ⟨h1, _⟩ | ⟨k, x, hx, hat, _, _⟩
  · omega
  · rw [traceL_step hI hx hat]; simp
set_option maxHeartbeats 4000000 in
set_option maxRecDepth 100000 in
set_option linter.all false in
theorem CLive.root {w0 w : World} {b : Nat} {ls : List Lk} (hL : CLive w0 w b ls) (s : ByteArray) (hs : s.size ≤ 140737488355328) :
    Calls Tryd.prog 30 #[.pointer (some ⟨b, 0, none⟩), .string s] w fun e w' => e = .returned (.tuple #[.string (rootS ls s), .bool (decide (0 ≤ atI ls s))]) ∧ Below w.heap.size w w' := by
  have HL := Lib.hid hL
  clear hL
  go_enter Tryd.func30, Tryd.ntmps30
  go_wp2_with fail
  refine (HL.out.trace s hs).mono ?_
  rintro e w1 ⟨v, rfl, ho, b1⟩
  obtain ⟨A, c, rfl⟩ := own_shape ho
  by_cases h : atI ls s < 0
  · have HR : Hid (Ending.returned (.tuple #[.string ⟨#[]⟩, .bool false]) = .returned (.tuple #[.string (rootS ls s), .bool (decide (0 ≤ atI ls s))])) := by
      unfold Hid; rw [decide_eq_false (by omega), rootS, traceL_none h]; rfl
    rw [show trE ls s = 8 from if_pos h]
    have B1 := Lib.hid b1
    clear ho b1 h
    go_wp2_with fail
    go_ret2
    exact ⟨HR.out, B1.out⟩
  · have hne := traceL_ne HL.out.inv h
    rw [show trE ls s = 0 from if_neg h]
    generalize hT : traceL ls s = T at ho hne ⊢
    obtain ⟨x, hx⟩ : ∃ x, T[T.length - 1]? = some x := ⟨_, List.getElem?_eq_getElem (by omega)⟩
    have HR : Hid (Ending.returned (.tuple #[.string x.it, .bool true]) = .returned (.tuple #[.string (rootS ls s), .bool (decide (0 ≤ atI ls s))])) := by
      unfold Hid; rw [decide_eq_true (by omega), rootS, hT, List.getLast?_eq_getElem?, hx]
    obtain ⟨g, rfl⟩ := row_shape ho hne
    have hc : T.length ≤ c := by obtain ⟨_, _, _, h, _⟩ := slice_addr (SliceIs.of_own ho) hne; exact h
    have d0 : w1.cell? ⟨g, (T.length - 1) * 6, none⟩ = some (.string x.it) := (ho.cellAt ((T.length - 1) * 6) (by omega)).trans (kcells_at hx (j := 0) (by omega))
    have hbd := (ho.2)
    have hl2 : T.length ≤ 9223372036854775807 := (SliceIs.of_own ho).2.1
    have hll : ∀ W, (Builtin.len_ #[33] 3 #[.slice (some ⟨g, 0, none⟩) T.length c]).run Tryd.prog W = .ok (.int .i64 T.length) W := fun W => by simp [Builtin.len_, run_underlying und_links]; rfl
    obtain ⟨m, hm⟩ : ∃ m, T.length = m + 1 := ⟨T.length - 1, by omega⟩
    have B1 := Lib.hid b1
    have hm2 : m + 1 ≤ 9223372036854775807 := by omega
    clear ho b1 h hx hT hbd hne hl2
    rw [hm] at d0 hll hc ⊢
    clear hm
    have d0' : w1.cell? ⟨g, m * 6, none⟩ = some (.string x.it) := d0
    clear d0
    go_wp2_with fail
    go_ret2
    exact ⟨HR.out, B1.out⟩
end Go.Proofs.YtgonghmihghhnaaDoor.Cu
