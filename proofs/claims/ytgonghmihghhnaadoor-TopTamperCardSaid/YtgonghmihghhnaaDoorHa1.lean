/- the hash of a link, by the program. -/
import Derived.Test.YtgonghmihghhnaaDoorHa0
import Derived.Test.YtgonghmihghhnaaDoorShelf
import Derived.Lib.Join
namespace Go.Proofs.YtgonghmihghhnaaDoor.Cu
open Go.RowKit Go.Proofs.YtgonghmihghhnaaDoor.Id

theorem join5 (a b c d e : ByteArray) : Lib.join ([a, b, c, d, e].map (·.data.toList)) (⟨#[32]⟩ : ByteArray).data.toList = a.data.toList ++ 32 :: (b.data.toList ++ 32 :: (c.data.toList ++ 32 :: (d.data.toList ++ 32 :: e.data.toList))) := by
  simp [Lib.join, List.intercalate]
theorem nDigits_le : ∀ (k u : Nat), u < 10 ^ (k + 1) → Lib.nDigits u ≤ k + 1
  | 0, u, h => by rw [Lib.nDigits_small (by simpa using h)]; omega
  | k + 1, u, h => by
    by_cases h2 : u < 10
    · rw [Lib.nDigits_small h2]; omega
    · rw [Lib.nDigits_big h2]
      rw [Nat.pow_succ] at h
      have := nDigits_le k (u / 10) (by omega)
      omega
theorem itoa_len {n : Int} (h0 : -9223372036854775808 ≤ n) (h1 : n ≤ 9223372036854775807) : (Lib.itoa n).length ≤ 21 := by
  unfold Lib.itoa
  split
  · rw [List.length_cons, Lib.decDigits_length]
    have := nDigits_le 19 n.natAbs (by omega)
    omega
  · rw [Lib.decDigits_length]
    have := nDigits_le 19 n.toNat (by omega)
    omega
theorem bGn {w : World} (k : Nat) (os : Array Obj) : Below w.heap.size w (Go.Sort.grow (w.drewN k) os) := bG (bD (Below.refl _ _) k) os
theorem Itoa_any (n : Int) (h0 : -9223372036854775808 ≤ n) (h1 : n ≤ 9223372036854775807) (w : World) (htab : Tab w) : Calls Tryd.prog 59 #[.int .i64 n] w fun e w' => e = .returned (.string ⟨(Lib.itoa n).toArray⟩) ∧ Below w.heap.size w w' :=
  (Tryd.strconv_Itoa n h0 h1 w htab).mono fun _ _ ⟨he, k, os, hw⟩ => ⟨he, hw ▸ bGn k os⟩
theorem Join5_any (a b c d e : ByteArray) (w : World) (hl : a.size + b.size + c.size + d.size + e.size ≤ 100000) (o : Obj) (ty : TypeId) (ho : o = .cells #[.string a, .string b, .string c, .string d, .string e] ty) :
    Calls Tryd.prog 58 #[.slice (some ⟨w.heap.size, 0, none⟩) 5 5, .string ⟨#[32]⟩] (w.alloc o) fun e' w' => e' = .returned (.string ⟨(a.data.toList ++ 32 :: (b.data.toList ++ 32 :: (c.data.toList ++ 32 :: (d.data.toList ++ 32 :: e.data.toList)))).toArray⟩) ∧ Below w.heap.size w w' := by
  subst ho
  have hh := heap_alloc_new w (.cells #[.string a, .string b, .string c, .string d, .string e] ty)
  have c := Tryd.strings_Join w.heap.size 0 5 [a, b, c, d, e] ⟨#[32]⟩ (w.alloc (.cells #[.string a, .string b, .string c, .string d, .string e] ty)) (fun j x hx => by
    rw [cell_of_row _ _ _ _ _ _ hh]
    match j, hx with
    | 0, hx => simp at hx; subst hx; rfl
    | 1, hx => simp at hx; subst hx; rfl
    | 2, hx => simp at hx; subst hx; rfl
    | 3, hx => simp at hx; subst hx; rfl
    | 4, hx => simp at hx; subst hx; rfl
    | j + 5, hx => simp at hx) (by simp) (by simp) (by simp) (by
      rw [join5]
      simp only [List.length_append, List.length_cons, Array.length_toList]
      have e1 : a.data.size = a.size := rfl
      have e2 : b.data.size = b.size := rfl
      have e3 : c.data.size = c.size := rfl
      have e4 : d.data.size = d.size := rfl
      have e5 : e.data.size = e.size := rfl
      omega)
  rw [join5] at c
  exact c.mono fun e' w' h => ⟨h.1, bB h.2⟩
set_option maxHeartbeats 4000000 in
set_option maxRecDepth 100000 in
theorem hash_any (prev : Int) (x : Lk) (w : World) (htab : Tab w) (h0 : 0 ≤ prev) (h1 : prev < 18446744073709551616) (q1 : x.it.size ≤ 1000) (q2 : x.pa.size ≤ 1000) (q3 : x.sp.size ≤ 1000) (t0 : -9223372036854775808 ≤ x.t ∧ x.t ≤ 9223372036854775807) (v0 : -9223372036854775808 ≤ x.vo ∧ x.vo ≤ 9223372036854775807) :
    Calls Tryd.prog 47 #[.int .u64 prev, x.val] w fun e w' => e = .returned (.int .u64 (hashL prev x)) ∧ Below w.heap.size w w' := by
  have HW := Lib.hid (bA (Below.refl w.heap.size w) (.cells #[.string x.it, .string x.pa, .int .i64 x.t, .int .i64 x.vo, .string x.sp, .int .u64 x.ha] 36))
  have SB := Lib.hid (fun (W : World) (hW : Below (w.alloc (.cells #[.string x.it, .string x.pa, .int .i64 x.t, .int .i64 x.vo, .string x.sp, .int .u64 x.ha] 36)).heap.size (w.alloc (.cells #[.string x.it, .string x.pa, .int .i64 x.t, .int .i64 x.vo, .string x.sp, .int .u64 x.ha] 36)) W) =>
    have k := cells6 ((hW.block w.heap.size (by simp)).trans (heap_alloc_new w _))
    And.intro k.1 (And.intro k.2.1 (And.intro k.2.2.1 (And.intro k.2.2.2.1 k.2.2.2.2.1))))
  have HT := Lib.hid htab
  have l1 := itoa_len t0.1 t0.2
  have l2 := itoa_len v0.1 v0.2
  have HL : Hid (x.it.size + x.pa.size + x.sp.size + (⟨(Lib.itoa x.t).toArray⟩ : ByteArray).size + (⟨(Lib.itoa x.vo).toArray⟩ : ByteArray).size ≤ 100000) := by
    have e1 : (⟨(Lib.itoa x.t).toArray⟩ : ByteArray).size = (Lib.itoa x.t).length := by simp [ByteArray.size]
    have e2 : (⟨(Lib.itoa x.vo).toArray⟩ : ByteArray).size = (Lib.itoa x.vo).length := by simp [ByteArray.size]
    unfold Hid
    omega
  have HZ : Hid ((⟨(x.it.data.toList ++ 32 :: (x.pa.data.toList ++ 32 :: (x.sp.data.toList ++ 32 :: (Lib.itoa x.t ++ 32 :: Lib.itoa x.vo)))).toArray⟩ : ByteArray).size ≤ 140737488355328) := by
    have e3 : x.it.data.size = x.it.size := rfl
    have e4 : x.pa.data.size = x.pa.size := rfl
    have e5 : x.sp.data.size = x.sp.size := rfl
    unfold Hid
    simp only [ByteArray.size, List.size_toArray, List.length_append, List.length_cons, Array.length_toList]
    omega
  unfold Lk.val
  clear htab l1 l2
  go_enter Tryd.func47, Tryd.ntmps47
  go_wp2_with fail
  have B0 := Lib.hid (bd (Below.refl (w.alloc (.cells #[.string x.it, .string x.pa, .int .i64 x.t, .int .i64 x.vo, .string x.sp, .int .u64 x.ha] 36)).heap.size (w.alloc (.cells #[.string x.it, .string x.pa, .int .i64 x.t, .int .i64 x.vo, .string x.sp, .int .u64 x.ha] 36))))
  go_region_held3 (fun w' => w'.cell? ⟨w.heap.size, 0, none⟩ = some (.string x.it) ∧ w'.cell? ⟨w.heap.size, 1, none⟩ = some (.string x.pa) ∧ w'.cell? ⟨w.heap.size, 2, none⟩ = some (.int .i64 x.t) ∧ w'.cell? ⟨w.heap.size, 3, none⟩ = some (.int .i64 x.vo) ∧ w'.cell? ⟨w.heap.size, 4, none⟩ = some (.string x.sp))
    (first | exact SB.out _ B3.out | exact SB.out _ (bA B2.out _) | exact SB.out _ B2.out | exact SB.out _ B1.out | exact SB.out _ B0.out)
    (first
      | (go_at_call_of 59 x.t; refine (Itoa_any x.t t0.1 t0.2 _ (HT.out.on (HW.out.trans (B0.out.mono HW.out.size)))).mono ?_; rintro e w1 ⟨rfl, b1⟩; have B1 := Lib.hid (bT B0.out b1); clear b1)
      | (go_at_call_of 59 x.vo; refine (Itoa_any x.vo v0.1 v0.2 _ (HT.out.on (HW.out.trans (B1.out.mono HW.out.size)))).mono ?_; rintro e w2 ⟨rfl, b2⟩; have B2 := Lib.hid (bT B1.out b2); clear b2)
      | (go_at_call 58; refine (Join5_any x.it x.pa x.sp ⟨(Lib.itoa x.t).toArray⟩ ⟨(Lib.itoa x.vo).toArray⟩ w2 HL.out _ _ rfl).mono ?_; rintro e w3 ⟨rfl, b3⟩; have B3 := Lib.hid (bT B2.out b3); clear b3)
      | (go_at_call 57; refine (Chain_any prev _ w3 h0 h1 HZ.out).mono ?_; rintro e w4 ⟨rfl, rfl⟩))
  go_wp2_with fail
  go_ret
  exact ⟨rfl, HW.out.trans (B3.out.mono HW.out.size)⟩
end Go.Proofs.YtgonghmihghhnaaDoor.Cu
