/- custody: facts for the walks of the program. -/
import Derived.Test.YtgonghmihghhnaaDoorCu1
import Derived.Test.YtgonghmihghhnaaDoorHa1
import Derived.Test.YtgonghmihghhnaaDoorId4
namespace Go.Proofs.YtgonghmihghhnaaDoor.Cu
open Go.RowKit Go.Proofs.YtgonghmihghhnaaDoor.Id Go.Maps

def atZ (ls : List Lk) (s : ByteArray) : Int := if 0 ≤ atI ls s then atI ls s else 0
theorem look_at {W : World} {m n : Nat} {D : DataW Unit} {ls : List Lk} (h : W.ownsMap Tryd.prog 9 (plainElem Tryd.prog 3) m n D) (hA : IsAt D ls) {s : ByteArray} (hs : s.size ≤ maxLen) :
    (Instr.lookup 77 (.map (some m)) (.string s) true).run Tryd.prog W = .ok (.tuple #[.int .i64 (atZ ls s), .bool (decide (0 ≤ atI ls s))]) W := by
  obtain ⟨v, ps, hrun, hv⟩ := h.look_ok slaw und_map (zeroI W) (plainElem_int und_int (by decide)) (kL_key hs)
  obtain ⟨c, rfl, hc, _⟩ := plainElem_int_inv und_int hv
  rw [hrun, (hA.2 s).1]
  have hc' : D.atKey (kL s) (iD 0) = iD c := congrArg Prod.fst hc
  have : c = atZ ls s := by
    unfold atZ
    split
    · rename_i h0
      have := (hA.2 s).2 h0
      rw [hc'] at this
      simpa [iD] using this
    · rename_i h0
      have hno : Maps.has D (kL s) = false := by rw [(hA.2 s).1]; simpa using h0
      rw [atKey_of_not_has hno] at hc'
      simpa [iD] using hc'.symm
  rw [this]
theorem look_used {W : World} {m n : Nat} {D : DataW Unit} {ls : List Lk} (h : W.ownsMap Tryd.prog 9 (plainElem Tryd.prog 3) m n D) (hU : IsUsed D ls) {s : ByteArray} (hs : s.size ≤ maxLen) :
    (Instr.lookup 77 (.map (some m)) (.string s) false).run Tryd.prog W = .ok (.int .i64 (volS ls s)) W := by
  obtain ⟨c, hrun, hat, _⟩ := h.lookup_int slaw und_map und_int (zeroI W) (kL_key hs)
  have : c = volS ls s := by
    have h2 := hU.2 s
    rw [show D.atKey (kL s) (iD 0) = iD c from hat] at h2
    simpa [iD] using h2
  rw [hrun, this]
theorem upO_cases (ls : List Lk) (x : Lk) : (x.pa = emptyB ∧ upO ls x = some ⟨emptyB, emptyB, 0, 0, x.sp, 0⟩) ∨ (x.pa ≠ emptyB ∧ atI ls x.pa < 0 ∧ upO ls x = none) ∨ ∃ (k : Nat) (u : Lk), x.pa ≠ emptyB ∧ atI ls x.pa = k ∧ ls[k]? = some u ∧ upO ls x = some u := by
  by_cases h : x.pa = emptyB
  · exact .inl ⟨h, by simp [upO, h]⟩
  · rcases atI_cases ls x.pa with ⟨h1, _⟩ | ⟨k, u, h1, h2, _⟩
    · exact .inr (.inl ⟨h, by omega, by simp [upO, h, h1]⟩)
    · exact .inr (.inr ⟨k, u, h, h2, h1, by simp [upO, h, h2, h1]⟩)
theorem canE_name {ls : List Lk} {x : Lk} (h : nameOk x = false) : canE ls x = 6 := by simp [canE, h]
theorem canE_exists {ls : List Lk} {x : Lk} (h : nameOk x = true) (h2 : 0 ≤ atI ls x.it) : canE ls x = 7 := by simp [canE, h, h2]
theorem canE_none {ls : List Lk} {x : Lk} (h : nameOk x = true) (h2 : atI ls x.it < 0) (h3 : upO ls x = none) : canE ls x = 8 := by
  have : ¬ 0 ≤ atI ls x.it := by omega
  simp [canE, h, this, h3]
theorem canE_up {ls : List Lk} {x u : Lk} (h : nameOk x = true) (h2 : atI ls x.it < 0) (h3 : upO ls x = some u) : canE ls x = canU ls x u := by
  have : ¬ 0 ≤ atI ls x.it := by omega
  simp [canE, h, this, h3]
def chkH (ls : List Lk) (x : Lk) : Int := if canE ls x = 0 then afterH ls x else 0
theorem ret_chk {ls : List Lk} {x : Lk} {c : Int} (h : canE ls x = c) (hc : c ≠ 0) : Ending.returned (.tuple #[.int .u64 0, .int .i64 c]) = .returned (.tuple #[.int .u64 (chkH ls x), .int .i64 (canE ls x)]) := by
  have : canE ls x ≠ 0 := by rw [h]; exact hc
  rw [chkH, if_neg this, h]
theorem ret_chk0 {ls : List Lk} {x u : Lk} (h : canE ls x = 0) (hu : upO ls x = some u) : Ending.returned (.tuple #[.int .u64 (hashL u.ha x), .int .i64 0]) = .returned (.tuple #[.int .u64 (chkH ls x), .int .i64 (canE ls x)]) := by
  rw [chkH, if_pos h, h, afterH, upH, hu]
theorem CReg.facts {W : World} {F : Nat → Prop} {b : Nat} {ls : List Lk} (h : CReg W F b ls) : ∃ A c m1 m2, W.cell? ⟨b, 0, none⟩ = some (.slice A ls.length c) ∧ W.cell? ⟨b, 1, none⟩ = some (.map (some m1)) ∧ W.cell? ⟨b, 2, none⟩ = some (.map (some m2)) ∧ b < W.heap.size ∧
    (∀ (s : ByteArray), s.size ≤ maxLen → ∀ W' : World, W'.heap[m1]? = W.heap[m1]? → (Instr.lookup 77 (.map (some m1)) (.string s) true).run Tryd.prog W' = .ok (.tuple #[.int .i64 (atZ ls s), .bool (decide (0 ≤ atI ls s))]) W') ∧ m1 < W.heap.size ∧
    (∀ (s : ByteArray), s.size ≤ maxLen → ∀ W' : World, W'.heap[m2]? = W.heap[m2]? → (Instr.lookup 77 (.map (some m2)) (.string s) false).run Tryd.prog W' = .ok (.int .i64 (volS ls s)) W') ∧ m2 < W.heap.size ∧
    (∀ (k : Nat) (u : Lk), ls[k]? = some u → ∃ g, A = some ⟨g, 0, none⟩ ∧ g < W.heap.size ∧ k < ls.length ∧ ls.length ≤ c ∧ W.cell? ⟨g, k * 6, none⟩ = some (.string u.it) ∧ W.cell? ⟨g, k * 6 + 1, none⟩ = some (.string u.pa) ∧ W.cell? ⟨g, k * 6 + 2, none⟩ = some (.int .i64 u.t) ∧ W.cell? ⟨g, k * 6 + 3, none⟩ = some (.int .i64 u.vo) ∧ W.cell? ⟨g, k * 6 + 4, none⟩ = some (.string u.sp) ∧ W.cell? ⟨g, k * 6 + 5, none⟩ = some (.int .u64 u.ha)) := by
  obtain ⟨v, m1, m2, D1, D2, h1, h2, h3, h4, h5, h6, h7, h8, h9, h10, h11, h12⟩ := h
  obtain ⟨A, c, rfl⟩ := own_shape h2
  obtain ⟨c0, c1, c2, _⟩ := cells3 h1
  refine ⟨A, c, m1, m2, c0, c1, c2, (Array.getElem?_eq_some_iff.1 h1).1, fun s hs W' hW => look_at (map_keep h3 hW) h5 hs, h3.lt, fun s hs W' hW => look_used (map_keep h4 hW) h6 hs, h4.lt, fun k u hu => ?_⟩
  have hk := (List.getElem?_eq_some_iff.1 hu).1
  obtain ⟨g, rfl⟩ := row_shape h2 (by omega)
  obtain ⟨_, _, _, hc, _, hx⟩ := slice_addr (SliceIs.of_own h2) (by omega)
  have ca : ∀ j, j < 6 → W.cell? ⟨g, k * 6 + j, none⟩ = u.cells[j]? := fun j hj => (h2.cellAt (k * 6 + j) (by omega)).trans (kcells_at hu hj)
  exact ⟨g, rfl, own_block_lt h2 g rfl, hk, hc, ca 0 (by omega), ca 1 (by omega), ca 2 (by omega), ca 3 (by omega), ca 4 (by omega), ca 5 (by omega)⟩
end Go.Proofs.YtgonghmihghhnaaDoor.Cu
