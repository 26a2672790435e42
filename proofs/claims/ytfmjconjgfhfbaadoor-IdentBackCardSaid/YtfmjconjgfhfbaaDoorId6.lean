/- Codes: made, by the reference. -/
import Derived.Test.YtfmjconjgfhfbaaDoorId5
import Derived.Laws.BytesString
namespace Go.Proofs.YtfmjconjgfhfbaaDoor.Id
open Go.RowKit

theorem one_byte (W : World) (x : Int) : (convert 35 9 (.slice (some ⟨W.heap.size, 0, none⟩) 1 1)).run Tryd.prog (W.alloc (.cells #[.int .u8 x] 5)) = .ok (.string ⟨#[bN x]⟩) (W.alloc (.cells #[.int .u8 x] 5)) := by
  rw [run_convert_bytes_string _ _ _ 5 _ _ _ Tryd.underlying35 Tryd.underlying5 Tryd.underlying9]
  have hl := run_loadCells_list (P := Tryd.prog) (W.alloc (.cells #[.int .u8 x] 5)) ⟨W.heap.size, 0, none⟩ [.int .u8 x] (fun j v hj => by
    match j, hj with
    | 0, hj =>
      obtain rfl : v = .int .u8 x := by simpa using hj.symm
      exact (cell_of_row (W.alloc (.cells #[.int .u8 x] 5)) W.heap.size 0 _ _ _ (heap_alloc_new W _)))
  rw [run_bytesToString _ _ 1 1 [x] hl]
  rfl

set_option maxRecDepth 100000 in
set_option maxHeartbeats 1000000 in
theorem rCode_ok (k n : Int) (w : World) (h : capB k = true) (h0 : 0 ≤ n) (h1 : n ≤ 999999) :
    Calls Tryd.prog 17 #[.int .u8 k, .int .i64 n] w fun e w' => e = .returned (.tuple #[.string (codeS k n), .int .i64 0]) ∧ Below w.heap.size w w' := by
  have hk : 65 ≤ k ∧ k ≤ 90 := by simpa [capB] using h
  obtain ⟨hk0, hk1⟩ := hk
  have HB := Below.refl w.heap.size w
  obtain ⟨c, e7, e8, hm, hl⟩ : ∃ c : List UInt8, Hid ((⟨#[bN k]⟩ : ByteArray) ++ ⟨#[bN (48 + n / 100000 % 10)]⟩ ++ ⟨#[bN (48 + n / 10000 % 10)]⟩ ++ ⟨#[bN (48 + n / 1000 % 10)]⟩ ++ ⟨#[bN (48 + n / 100 % 10)]⟩ ++ ⟨#[bN (48 + n / 10 % 10)]⟩ ++ ⟨#[bN (48 + n % 10)]⟩ = ⟨c.toArray⟩) ∧ Hid ((⟨c.toArray⟩ : ByteArray) ++ ⟨#[bN (65 + letM c)]⟩ = codeS k n) ∧ (0 ≤ letM c ∧ letM c < 23) ∧ c.length ≤ 7 :=
    ⟨code7 k n, cat7 _ _ _ _ _ _ _, codeS_cat k n, letM_range _, Nat.le_refl _⟩
  have hob : ∀ (W : World) (b : Nat) (x : Int), W.heap.size = b → (convert 35 9 (.slice (some ⟨b, 0, none⟩) 1 1)).run Tryd.prog (W.alloc (.cells #[.int .u8 x] 5)) = .ok (.string ⟨#[bN x]⟩) (W.alloc (.cells #[.int .u8 x] 5)) := fun W b x h => by subst h; exact one_byte W x
  go_enter Tryd.func17, Tryd.ntmps17
  go_wp2_with (first | (go_at_call 28; refine (rcapital_any _ _).mono ?_; rintro e w' ⟨rfl, rfl⟩))
  refine wp_loop_rounds 7 ?_
  repeat any_goals (rw [rounds_succ]; go_wp2_with fail)
  rw [e7.out]
  refine (rLetter_any ⟨c.toArray⟩ _ (by rw [size_of_list]; omega)).mono ?_
  rintro e w2 ⟨rfl, rfl⟩
  go_wp2
  go_ret2
  refine ⟨ret_se e8.out rfl, ?_⟩
  repeat (first | exact HB | apply bA | apply bG | apply bD | apply bd)

theorem rCode_any (k n : Int) (w : World) :
    Calls Tryd.prog 17 #[.int .u8 k, .int .i64 n] w fun e w' => e = .returned (.tuple #[.string (codeR k n), .int .i64 (codeE k n)]) ∧ Below w.heap.size w w' := by
  by_cases h : capB k = true
  · by_cases h0 : n < 0
    · rw [codeR_range h (.inl h0), codeE_range h (.inl h0)]
      go_enter Tryd.func17, Tryd.ntmps17
      go_wp2_with (go_at_call 28; refine (rcapital_any _ _).mono ?_; rintro e w' ⟨rfl, rfl⟩)
      go_ret2
      exact ⟨rfl, Below.refl _ _⟩
    · by_cases h1 : n ≤ 999999
      · rw [codeR_ok h (by omega) h1, codeE_ok h (by omega) h1]
        exact rCode_ok k n w h (by omega) h1
      · rw [codeR_range h (.inr (by omega)), codeE_range h (.inr (by omega))]
        go_enter Tryd.func17, Tryd.ntmps17
        go_wp2_with (go_at_call 28; refine (rcapital_any _ _).mono ?_; rintro e w' ⟨rfl, rfl⟩)
        go_ret2
        exact ⟨rfl, Below.refl _ _⟩
  · have h : capB k = false := by simpa using h
    rw [codeR_kind n h, codeE_kind n h]
    go_enter Tryd.func17, Tryd.ntmps17
    go_wp2_with (go_at_call 28; refine (rcapital_any _ _).mono ?_; rintro e w' ⟨rfl, rfl⟩)
    go_ret2
    exact ⟨rfl, Below.refl _ _⟩
end Go.Proofs.YtfmjconjgfhfbaaDoor.Id
