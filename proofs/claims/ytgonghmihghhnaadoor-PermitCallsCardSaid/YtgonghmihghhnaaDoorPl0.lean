/- the laws of permits: the helpers short and code, walked. -/
import Derived.Test.YtgonghmihghhnaaDoorRf6
import Derived.Laws.BytesString
import Derived.Laws.Concat
namespace Go.Proofs.YtgonghmihghhnaaDoor.Pe
open Go.RowKit Go.Proofs.YtgonghmihghhnaaDoor.Id

structure OpP where
  knd : Int
  per : Perm
  num : Int
def OpP.cells (o : OpP) : List Value := [.int .i64 o.knd, .string o.per.pid, .string o.per.psp, .int .i64 o.per.pfr, .int .i64 o.per.pun, .int .i64 o.per.pqu, .int .i64 o.num]
theorem op_len (o : OpP) : o.cells.length = 7 := rfl
def ocells (os : List OpP) : List Value := os.flatMap OpP.cells
theorem ocells_at {os : List OpP} {i : Nat} {o : OpP} (h : os[i]? = some o) {j : Nat} (hj : j < 7) : (ocells os)[i * 7 + j]? = o.cells[j]? := flat_at _ 7 op_len os i o h j hj
def okOp (o : OpP) : Prop := o.per.pid.size ≤ 40 ∧ o.per.psp.size ≤ 40
/-- the seven cells of one call, in a later world -/
theorem op_cells {W : World} {g off : Nat} {os : List OpP} (hx : ∀ j u, (ocells os)[j]? = some u → W.cell? ⟨g, off + j, none⟩ = some u) {k : Nat} {o : OpP} (h : os[k]? = some o) :
    W.cell? ⟨g, off + k * 7, none⟩ = some (.int .i64 o.knd) ∧ W.cell? ⟨g, off + k * 7 + 1, none⟩ = some (.string o.per.pid) ∧ W.cell? ⟨g, off + k * 7 + 2, none⟩ = some (.string o.per.psp) ∧ W.cell? ⟨g, off + k * 7 + 3, none⟩ = some (.int .i64 o.per.pfr) ∧
    W.cell? ⟨g, off + k * 7 + 4, none⟩ = some (.int .i64 o.per.pun) ∧ W.cell? ⟨g, off + k * 7 + 5, none⟩ = some (.int .i64 o.per.pqu) ∧ W.cell? ⟨g, off + k * 7 + 6, none⟩ = some (.int .i64 o.num) :=
  ⟨hx (k * 7) _ (ocells_at h (j := 0) (by omega)), hx (k * 7 + 1) _ (ocells_at h (j := 1) (by omega)), hx (k * 7 + 2) _ (ocells_at h (j := 2) (by omega)), hx (k * 7 + 3) _ (ocells_at h (j := 3) (by omega)),
    hx (k * 7 + 4) _ (ocells_at h (j := 4) (by omega)), hx (k * 7 + 5) _ (ocells_at h (j := 5) (by omega)), hx (k * 7 + 6) _ (ocells_at h (j := 6) (by omega))⟩

set_option maxHeartbeats 1000000 in
theorem short_any (v : Value) (os : List OpP) (w : World) (hs : SliceIs w 7 v os.length (ocells os)) :
    Calls Tryd.prog 17 #[v] w fun e w' => ∃ b : Bool, e = .returned (.bool b) ∧ Below w.heap.size w w' ∧ (b = true → os.length ≤ 60 ∧ ∀ (i : Nat) (o : OpP), os[i]? = some o → okOp o) := by
  rcases hs.2.2 with ⟨h0, A, c, rfl⟩ | ⟨g, off, c, rfl, hc, hg, hx⟩
  · have hE := Lib.hid h0
    rw [h0]
    clear hs h0
    go_enter Tryd.func17, Tryd.ntmps17
    go_wp2
    refine wp_loop_rounds 1 ?_
    rw [rounds_succ]
    go_wp2
    go_ret
    refine ⟨true, rfl, Below.refl _ _, fun _ => ⟨by omega, fun i o h => ?_⟩⟩
    rw [List.eq_nil_of_length_eq_zero hE.out] at h
    simp at h
  · have hl := hs.2.1
    have hX := Lib.hid hx
    clear hs hx
    by_cases h60 : os.length ≤ 60
    · have h60' : decide ((60 : Int) < os.length) = false := by simp; omega
      go_enter Tryd.func17, Tryd.ntmps17
      go_wp2
      go_loopw [3] (fun i wr => ∃ k : Nat, k ≤ os.length ∧ i = .int .i64 k ∧ Below w.heap.size w wr ∧ Hid (∀ (j : Nat) (o : OpP), j < k → os[j]? = some o → okOp o)) (fun i _ => os.length - (intOf i).toNat)
      case atStart => exact ⟨0, Nat.zero_le _, rfl, Below.refl _ _, fun j q hj => by omega⟩
      case round =>
        obtain ⟨k, hk, rfl, hB, HN⟩ := hrel
        by_cases hlt : k < os.length
        · obtain ⟨o, ho⟩ : ∃ o, os[k]? = some o := ⟨_, List.getElem?_eq_getElem hlt⟩
          obtain ⟨d0, d1, d2, _⟩ := op_cells (W := wr) (fun j u hu => (hB.cell hg).trans (hX.out j u hu)) ho
          have HO := Lib.hid ho
          clear ho
          by_cases c1 : o.per.pid.size ≤ 40
          · have c1' : decide ((40 : Int) < o.per.pid.size) = false := by simp; omega
            by_cases c2 : o.per.psp.size ≤ 40
            · have c2' : decide ((40 : Int) < o.per.psp.size) = false := by simp; omega
              have HN' : Hid (∀ (j : Nat) (q : OpP), j < k + 1 → os[j]? = some q → okOp q) := fun j q hj hq => by
                by_cases e : j = k
                · subst e
                  rw [HO.out] at hq
                  obtain rfl := Option.some.inj hq
                  exact ⟨c1, c2⟩
                · exact HN.out j q (by omega) hq
              go_wp2
              go_roundw
              case rel => exact ⟨k + 1, by omega, by go_num, by repeat (first | exact hB | apply bA | apply bD | apply bd), HN'⟩
              case measure => simp [intOf]; omega
            · have c2' : decide ((40 : Int) < o.per.psp.size) = true := by simp; omega
              go_wp2
              go_ret
              exact ⟨false, rfl, by repeat (first | exact hB | apply bA | apply bD | apply bd), fun h => nomatch h⟩
          · have c1' : decide ((40 : Int) < o.per.pid.size) = true := by simp; omega
            go_wp2
            go_ret
            exact ⟨false, rfl, by repeat (first | exact hB | apply bA | apply bD | apply bd), fun h => nomatch h⟩
        · obtain rfl : k = os.length := by omega
          go_wp2
          go_ret
          exact ⟨true, rfl, hB, fun _ => ⟨h60, fun i o h => HN.out i o (List.getElem?_eq_some_iff.1 h).1 h⟩⟩
    · have h60' : decide ((60 : Int) < os.length) = true := by simp; omega
      go_enter Tryd.func17, Tryd.ntmps17
      go_wp2
      go_ret
      exact ⟨false, rfl, Below.refl _ _, fun h => nomatch h⟩

theorem one_byteU (W : World) (b : Nat) (x : Int) (hb : W.heap.size = b) : (convert 98 9 (.slice (some ⟨b, 0, none⟩) 1 1)).run Tryd.prog (W.alloc (.cells #[.int .u8 x] 5)) = .ok (.string ⟨#[bN x]⟩) (W.alloc (.cells #[.int .u8 x] 5)) := by
  subst hb
  rw [run_convert_bytes_string _ _ _ 5 _ _ _ Tryd.underlying98 Tryd.underlying5 Tryd.underlying9]
  have hl := run_loadCells_list (P := Tryd.prog) (W.alloc (.cells #[.int .u8 x] 5)) ⟨W.heap.size, 0, none⟩ [.int .u8 x] (fun j v hj => by
    match j, hj with
    | 0, hj =>
      obtain rfl : v = .int .u8 x := by simpa using hj.symm
      exact (cell_of_row (W.alloc (.cells #[.int .u8 x] 5)) W.heap.size 0 _ _ _ (heap_alloc_new W _)))
  rw [run_bytesToString _ _ 1 1 [x] hl]
  rfl
def codeP : ByteArray := ⟨#[80, 48, 48, 48, 48, 48, 48, 84]⟩
set_option maxHeartbeats 1000000 in
theorem code_any (w : World) : Calls Tryd.prog 38 #[] w fun e w' => e = .returned (.string codeP) ∧ Below w.heap.size w w' := by
  have hob := one_byteU
  have g0 : ∀ h, (⟨#[80, 48, 48, 48, 48, 48, 48]⟩ : ByteArray)[0]'h = 80 := fun _ => rfl
  have g1 : ∀ h, (⟨#[80, 48, 48, 48, 48, 48, 48]⟩ : ByteArray)[1]'h = 48 := fun _ => rfl
  have g2 : ∀ h, (⟨#[80, 48, 48, 48, 48, 48, 48]⟩ : ByteArray)[2]'h = 48 := fun _ => rfl
  have g3 : ∀ h, (⟨#[80, 48, 48, 48, 48, 48, 48]⟩ : ByteArray)[3]'h = 48 := fun _ => rfl
  have g4 : ∀ h, (⟨#[80, 48, 48, 48, 48, 48, 48]⟩ : ByteArray)[4]'h = 48 := fun _ => rfl
  have g5 : ∀ h, (⟨#[80, 48, 48, 48, 48, 48, 48]⟩ : ByteArray)[5]'h = 48 := fun _ => rfl
  have g6 : ∀ h, (⟨#[80, 48, 48, 48, 48, 48, 48]⟩ : ByteArray)[6]'h = 48 := fun _ => rfl
  go_enter Tryd.func38, Tryd.ntmps38
  go_wp2
  refine wp_loop_rounds 8 ?_
  repeat any_goals (rw [rounds_succ]; go_wp2_with fail)
  go_ret
  exact ⟨rfl, bA (Below.refl _ _) _⟩
end Go.Proofs.YtgonghmihghhnaaDoor.Pe
