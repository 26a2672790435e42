/- The law IdentDetects, walked. -/
import Derived.Test.YtfmjconjgfhfbaaDoorIdL2
import Derived.Test.YtfmjconjgfhfbaaDoorIdF
import Derived.Laws.IdiomStrings
import Derived.Laws.BitsAllLaws
import Derived.BigRegion
import Derived.ShutString
namespace Go.Proofs.YtfmjconjgfhfbaaDoor.Id
open Go.RowKit

theorem cell_new (w : World) (cs : Array Value) (t : TypeId) (fr : Nat × Nat) (j : Nat) : (w.alloc (.cells cs t fr)).cell? ⟨w.heap.size, j, none⟩ = cs[j]? := cell_of_row _ _ _ _ _ _ (heap_alloc_new w _)

/-- '[]byte(s)' of a string of eight bytes: a new row that holds them -/
theorem conv_rule (s : ByteArray) (h8 : s.size = 8) (W : World) : ∃ cap W2, (convert 9 35 (.string s)).run Tryd.prog W = .ok (.slice (some ⟨W.heap.size, 0, none⟩) 8 cap) W2 ∧ 8 ≤ cap ∧ Below W.heap.size W W2 ∧ W.heap.size < W2.heap.size ∧
    (∀ j, j < 8 → W2.cell? ⟨W.heap.size, j, none⟩ = some (.int .u8 ((s.data.toList.getD j 0).toNat : Int))) ∧ (∀ j, j < 8 → W2.frozen? ⟨W.heap.size, j, none⟩ = false) := by
  have hr := run_bytes_of_string (P := Tryd.prog) W 9 35 5 s Tryd.underlying9 Tryd.underlying35 Tryd.underlying5
  have hs : s.data.size = 8 := h8
  have hc : 8 ≤ grownCap W s.size 0 5 := by have := grownCap_ge W s.size 0 5; omega
  have hsz : (bytesRow s (grownCap W s.size 0 5)).size = grownCap W s.size 0 5 := by
    simp only [bytesRow, Array.size_append, Array.size_map, Array.size_replicate]
    omega
  generalize grownCap W s.size 0 5 = c at hr hc hsz
  rw [h8] at hr
  refine ⟨c, _, hr, hc, (Below.refl _ _).drew.alloc (Nat.le_refl _) _, by simp, fun j hj => ?_, fun j hj => ?_⟩
  · rw [show W.heap.size = W.drew.heap.size from rfl, cell_new]
    rw [bytesRow, Array.getElem?_append_left (by simp; omega), Array.getElem?_map, Array.getElem?_eq_getElem (by omega)]
    simp only [Option.map_some, List.getD_eq_getElem?_getD, Array.getElem?_toList]
    rw [Array.getElem?_eq_getElem (by omega)]
    rfl
  · simp only [World.frozen?]
    rw [show W.heap.size = W.drew.heap.size from rfl, heap_alloc_new W.drew _]
    show (decide ((bytesRow s c).size ≤ j) && _) = false
    rw [decide_eq_false (by omega)]
    rfl

/-- 'string(b)' of a row of eight bytes -/
theorem back_rule (W : World) (b cap : Nat) (l : List UInt8) (hl : l.length = 8) (hc : ∀ j, j < 8 → W.cell? ⟨b, j, none⟩ = some (.int .u8 ((l.getD j 0).toNat : Int))) :
    (convert 35 9 (.slice (some ⟨b, 0, none⟩) 8 cap)).run Tryd.prog W = .ok (.string ⟨l.toArray⟩) W := by
  have h := run_convert_bytes_back (P := Tryd.prog) W 35 9 5 ⟨b, 0, none⟩ cap l Tryd.underlying35 Tryd.underlying5 Tryd.underlying9 (fun j hj => by
    have e : (⟨b, 0, none⟩ : Addr).add j = ⟨b, j, none⟩ := by unfold Addr.add; split <;> simp_all
    rw [e, hc j (by omega), List.getD_eq_getElem?_getD, List.getElem?_eq_getElem hj]
    rfl)
  rw [hl] at h
  exact h

theorem toNat_getD {l : List UInt8} {i : Nat} {c : UInt8} (h : c = l.getD i 0) : ((l.getD i 0).toNat : Int) = c.toNat := by rw [h]
theorem getD_set_same (l : List UInt8) (i : Nat) (d : UInt8) (h : i < l.length) : (l.set i d).getD i 0 = d := by
  rw [List.getD_eq_getElem?_getD, List.getElem?_set_self h]; rfl
theorem getD_set_other (l : List UInt8) (i j : Nat) (d : UInt8) (h : i ≠ j) : (l.set i d).getD j 0 = l.getD j 0 := by
  rw [List.getD_eq_getElem?_getD, List.getElem?_set_ne h, ← List.getD_eq_getElem?_getD]
theorem cell_set_same {W : World} {b i : Nat} {v u : Value} (h : W.cell? ⟨b, i, none⟩ = some u) : (W.setCell ⟨b, i, none⟩ v).cell? ⟨b, i, none⟩ = some v := World.cell?_setCell_same W _ _ h
theorem cell_set_other {W : World} {b i j : Nat} {v : Value} (h : i ≠ j) : (W.setCell ⟨b, i, none⟩ v).cell? ⟨b, j, none⟩ = W.cell? ⟨b, j, none⟩ := World.cell?_setCell_other W _ _ _ (fun e => h (congrArg Addr.off e))
/-- a row of eight bytes behind one store -/
theorem row_set {W : World} {b : Nat} {l : List UInt8} (hl : l.length = 8) (hc : ∀ j, j < 8 → W.cell? ⟨b, j, none⟩ = some (.int .u8 ((l.getD j 0).toNat : Int))) (i : Nat) (hi : i < 8) (d : UInt8) :
    ∀ j, j < 8 → (W.setCell ⟨b, i, none⟩ (.int .u8 (d.toNat : Int))).cell? ⟨b, j, none⟩ = some (.int .u8 (((l.set i d).getD j 0).toNat : Int)) := by
  intro j hj
  by_cases e : i = j
  · subst e
    rw [getD_set_same l i d (by omega), cell_set_same (hc i hi)]
  · rw [getD_set_other l i j d e, cell_set_other e, hc j hj]
theorem xor_byte (c : UInt8) (x : Int) (h0 : 0 ≤ x) (h1 : x ≤ 255) : ∃ d : UInt8, bits BinOp.xor IntKind.u8 (c.toNat : Int) x = d.toNat ∧ (x ≠ 0 → d ≠ c) := by
  have hc := c.toNat_lt
  refine ⟨UInt8.ofNat (c.toNat ^^^ x.toNat), ?_, ?_⟩
  · rw [u8_xor _ _ (by omega) (by omega) (by omega) (by omega), Int.toNat_natCast, UInt8.toNat_ofNat', Nat.mod_eq_of_lt (Nat.xor_lt_two_pow (n := 8) (by omega) (by omega))]
  · intro hx e
    have e2 : (UInt8.ofNat (c.toNat ^^^ x.toNat)).toNat = c.toNat := by rw [e]
    rw [UInt8.toNat_ofNat', Nat.mod_eq_of_lt (Nat.xor_lt_two_pow (n := 8) (by omega) (by omega))] at e2
    have e3 : c.toNat ^^^ (c.toNat ^^^ x.toNat) = c.toNat ^^^ c.toNat := by rw [e2]
    rw [← Nat.xor_assoc, Nat.xor_self, Nat.zero_xor] at e3
    omega
theorem Is_set (k n : Int) (w : World) (hk : capB k = true) (h0 : 0 ≤ n) (h1 : n ≤ 999999) (i : Nat) (hi : i < 8) (d : UInt8) (hd : d ≠ (codeL k n).getD i 0) :
    Calls Tryd.prog 20 #[.string ⟨((codeL k n).set i d).toArray⟩, .int .u8 k] w fun e w' => e = .returned (.bool false) ∧ Below w.heap.size w w' := by
  have h := Is_any ⟨((codeL k n).set i d).toArray⟩ k w (by rw [size_of_list, List.length_set, codeL_len]; omega)
  rw [show (⟨((codeL k n).set i d).toArray⟩ : ByteArray).data.toList = (codeL k n).set i d from rfl, detect_set hk h0 h1 i hi d hd] at h
  exact h
theorem Is_swap (k n : Int) (w : World) (hk : capB k = true) (h0 : 0 ≤ n) (h1 : n ≤ 999999) (i : Nat) (hi : i < 7) (c c' : UInt8) (hc : c = (codeL k n).getD i 0) (hc' : c' = (codeL k n).getD (i + 1) 0) (hd : c ≠ c') :
    Calls Tryd.prog 20 #[.string ⟨(((codeL k n).set i c').set (i + 1) c).toArray⟩, .int .u8 k] w fun e w' => e = .returned (.bool false) ∧ Below w.heap.size w w' := by
  subst hc hc'
  have h := Is_any ⟨(((codeL k n).set i ((codeL k n).getD (i + 1) 0)).set (i + 1) ((codeL k n).getD i 0)).toArray⟩ k w (by rw [size_of_list, List.length_set, List.length_set, codeL_len]; omega)
  rw [show (⟨(((codeL k n).set i ((codeL k n).getD (i + 1) 0)).set (i + 1) ((codeL k n).getD i 0)).toArray⟩ : ByteArray).data.toList = ((codeL k n).set i ((codeL k n).getD (i + 1) 0)).set (i + 1) ((codeL k n).getD i 0) from rfl, detect_swap hk h0 h1 i hi hd] at h
  exact h

set_option maxHeartbeats 2000000 in
set_option maxRecDepth 100000 in
theorem Det_z_end (k n x0 x1 : Int) (w : World) (ht : Hid (Tab w)) (HK : Hid (capB k = true)) (h0 : 0 ≤ n) (h1 : n ≤ 999999) (gx0 : 0 ≤ x0) (gx0' : x0 ≤ 255) (gx1 : 0 ≤ x1) (gx1' : x1 ≤ 255)
    (i : Nat) (hi : i < 8) (hx : x0 % 8 = i) (hx1 : (x1 != 0) = false) (hi7 : ¬ i < 7) :
    Calls Tryd.prog 9 #[.int .u8 k, .int .i64 n, .agg #[.int .u8 x0, .int .u8 x1]] w fun e w' => e = .returned (.bool true) ∧ Below w.heap.size w w' := by
  obtain ⟨c, Hc⟩ : ∃ c : UInt8, Hid (c = (codeL k n).getD i 0) := ⟨_, rfl⟩
  have hz : (codeS k n).size = 8 := rfl
  have hB := Below.refl w.heap.size w
  obtain ⟨d, hxor, hd⟩ := xor_byte c x1 gx1 gx1'
  clear hd
  go_enter Tryd.func9, Tryd.ntmps9
  go_wp2_with fail
  refine (Code_ok k n _ HK.out h0 h1 (ht.out.on (bA hB _))).mono ?_
  rintro e w1 ⟨rfl, b1⟩
  have hB1 := bT (bA hB _) b1
  have cx0 : w1.cell? ⟨w.heap.size, 0, none⟩ = some (.int .u8 x0) := (b1.cell (by simp)).trans (cell_new w _ _ _ 0)
  have cx1 : w1.cell? ⟨w.heap.size, 1, none⟩ = some (.int .u8 x1) := (b1.cell (by simp)).trans (cell_new w _ _ _ 1)
  have hs1 : w.heap.size < w1.heap.size := by have := b1.size; simp at this; omega
  obtain ⟨cap, w2, hconv, hcap, b2, hs2, hcell, hfr⟩ := conv_rule (codeS k n) hz w1
  have cx0' : w2.cell? ⟨w.heap.size, 0, none⟩ = some (.int .u8 x0) := (b2.cell hs1).trans cx0
  have cx1' : w2.cell? ⟨w.heap.size, 1, none⟩ = some (.int .u8 x1) := (b2.cell hs1).trans cx1
  have ci : w2.cell? ⟨w1.heap.size, i, none⟩ = some (.int .u8 (c.toNat : Int)) := by rw [hcell i hi, codeS_data, toNat_getD Hc.out]
  have fi := hfr i hi
  have HC := Lib.hid hcell
  clear hcell hfr
  go_wp2_with fail
  clear hconv
  go_region
  obtain ⟨w3, hw3⟩ : ∃ w3, w3 = (w2.setCell ⟨w1.heap.size, i, none⟩ (.int .u8 (d.toNat : Int))).drew := ⟨_, rfl⟩
  have R3 : ∀ j, j < 8 → w3.cell? ⟨w1.heap.size, j, none⟩ = some (.int .u8 ((((codeL k n).set i d).getD j 0).toNat : Int)) := by
    rw [hw3]; exact row_set (codeL_len k n) (by rw [← codeS_data]; exact HC.out) i hi d
  have b3 : Below w1.heap.size w1 w3 := by rw [hw3]; exact (b2.setCell (Nat.le_refl _) _).drew
  have cy1 : w3.cell? ⟨w.heap.size, 1, none⟩ = some (.int .u8 x1) := (b3.cell hs1).trans cx1
  have hs3 : w.heap.size < w3.heap.size := Nat.lt_of_lt_of_le hs1 b3.size
  have hB3 := bT hB1 b3
  rw [← hw3]
  clear hw3 cx0 cx1 cx0' cx1' ci fi HC hs2
  clear R3
  obtain ⟨cap2, w5, hconv, hcap2, b5, hs5, hcell, hfr⟩ := conv_rule (codeS k n) hz w3
  have hB5 := bT hB3 b5
  have h7 : decide ((i : Int) < 7) = false := by simp; omega
  clear hcell hfr
  go_wp2_with fail
  clear hconv
  go_quiet (fail)
  go_wp2_with fail
  refine (Is_code k n _ HK.out h0 h1).mono ?_
  rintro e w7 ⟨rfl, b7⟩
  have hB7 := bT (bD hB5 nq) b7
  go_wp2_with fail
  refine (awake_any _ (ht.out.on hB7)).mono ?_
  rintro e w8 ⟨rfl, b8⟩
  go_wp2
  go_ret
  exact ⟨rfl, bT hB7 b8⟩

set_option maxHeartbeats 2000000 in
set_option maxRecDepth 100000 in
theorem Det_z_eq (k n x0 x1 : Int) (w : World) (ht : Hid (Tab w)) (HK : Hid (capB k = true)) (h0 : 0 ≤ n) (h1 : n ≤ 999999) (gx0 : 0 ≤ x0) (gx0' : x0 ≤ 255) (gx1 : 0 ≤ x1) (gx1' : x1 ≤ 255)
    (i : Nat) (hi : i < 8) (hx : x0 % 8 = i) (hx1 : (x1 != 0) = false) (hi7 : i < 7) (c c' : UInt8) (Hc : Hid (c = (codeL k n).getD i 0)) (Hc' : Hid (c' = (codeL k n).getD (i + 1) 0)) (hcc : ((c.toNat : Int) != c'.toNat) = false) :
    Calls Tryd.prog 9 #[.int .u8 k, .int .i64 n, .agg #[.int .u8 x0, .int .u8 x1]] w fun e w' => e = .returned (.bool true) ∧ Below w.heap.size w w' := by
  have hz : (codeS k n).size = 8 := rfl
  have hB := Below.refl w.heap.size w
  obtain ⟨d, hxor, hd⟩ := xor_byte c x1 gx1 gx1'
  clear hd
  go_enter Tryd.func9, Tryd.ntmps9
  go_wp2_with fail
  refine (Code_ok k n _ HK.out h0 h1 (ht.out.on (bA hB _))).mono ?_
  rintro e w1 ⟨rfl, b1⟩
  have hB1 := bT (bA hB _) b1
  have cx0 : w1.cell? ⟨w.heap.size, 0, none⟩ = some (.int .u8 x0) := (b1.cell (by simp)).trans (cell_new w _ _ _ 0)
  have cx1 : w1.cell? ⟨w.heap.size, 1, none⟩ = some (.int .u8 x1) := (b1.cell (by simp)).trans (cell_new w _ _ _ 1)
  have hs1 : w.heap.size < w1.heap.size := by have := b1.size; simp at this; omega
  obtain ⟨cap, w2, hconv, hcap, b2, hs2, hcell, hfr⟩ := conv_rule (codeS k n) hz w1
  have cx0' : w2.cell? ⟨w.heap.size, 0, none⟩ = some (.int .u8 x0) := (b2.cell hs1).trans cx0
  have cx1' : w2.cell? ⟨w.heap.size, 1, none⟩ = some (.int .u8 x1) := (b2.cell hs1).trans cx1
  have ci : w2.cell? ⟨w1.heap.size, i, none⟩ = some (.int .u8 (c.toNat : Int)) := by rw [hcell i hi, codeS_data, toNat_getD Hc.out]
  have fi := hfr i hi
  have HC := Lib.hid hcell
  clear hcell hfr
  go_wp2_with fail
  clear hconv
  go_region
  obtain ⟨w3, hw3⟩ : ∃ w3, w3 = (w2.setCell ⟨w1.heap.size, i, none⟩ (.int .u8 (d.toNat : Int))).drew := ⟨_, rfl⟩
  have R3 : ∀ j, j < 8 → w3.cell? ⟨w1.heap.size, j, none⟩ = some (.int .u8 ((((codeL k n).set i d).getD j 0).toNat : Int)) := by
    rw [hw3]; exact row_set (codeL_len k n) (by rw [← codeS_data]; exact HC.out) i hi d
  have b3 : Below w1.heap.size w1 w3 := by rw [hw3]; exact (b2.setCell (Nat.le_refl _) _).drew
  have cy1 : w3.cell? ⟨w.heap.size, 1, none⟩ = some (.int .u8 x1) := (b3.cell hs1).trans cx1
  have hs3 : w.heap.size < w3.heap.size := Nat.lt_of_lt_of_le hs1 b3.size
  have hB3 := bT hB1 b3
  rw [← hw3]
  clear hw3 cx0 cx1 cx0' cx1' ci fi HC hs2
  clear R3
  obtain ⟨cap2, w5, hconv, hcap2, b5, hs5, hcell, hfr⟩ := conv_rule (codeS k n) hz w3
  have hB5 := bT hB3 b5
  have h7 : (i : Int) < 7 := by omega
  have ci : w5.cell? ⟨w3.heap.size, i, none⟩ = some (.int .u8 (c.toNat : Int)) := by rw [hcell i hi, codeS_data, toNat_getD Hc.out]
  have ci' : w5.cell? ⟨w3.heap.size, i + 1, none⟩ = some (.int .u8 (c'.toNat : Int)) := by rw [hcell (i + 1) (by omega), codeS_data, toNat_getD Hc'.out]
  clear hcell hfr
  go_wp2_with fail
  clear hconv
  go_quiet (fail)
  go_wp2_with fail
  refine (Is_code k n _ HK.out h0 h1).mono ?_
  rintro e w7 ⟨rfl, b7⟩
  have hB7 := bT (bD hB5 nq) b7
  go_wp2_with fail
  refine (awake_any _ (ht.out.on hB7)).mono ?_
  rintro e w8 ⟨rfl, b8⟩
  go_wp2
  go_ret
  exact ⟨rfl, bT hB7 b8⟩

set_option maxHeartbeats 2000000 in
set_option maxRecDepth 100000 in
theorem Det_z_ne (k n x0 x1 : Int) (w : World) (ht : Hid (Tab w)) (HK : Hid (capB k = true)) (h0 : 0 ≤ n) (h1 : n ≤ 999999) (gx0 : 0 ≤ x0) (gx0' : x0 ≤ 255) (gx1 : 0 ≤ x1) (gx1' : x1 ≤ 255)
    (i : Nat) (hi : i < 8) (hx : x0 % 8 = i) (hx1 : (x1 != 0) = false) (hi7 : i < 7) (c c' : UInt8) (Hc : Hid (c = (codeL k n).getD i 0)) (Hc' : Hid (c' = (codeL k n).getD (i + 1) 0)) (Hcc : Hid (c ≠ c')) (hcc : ((c.toNat : Int) != c'.toNat) = true) :
    Calls Tryd.prog 9 #[.int .u8 k, .int .i64 n, .agg #[.int .u8 x0, .int .u8 x1]] w fun e w' => e = .returned (.bool true) ∧ Below w.heap.size w w' := by
  have hz : (codeS k n).size = 8 := rfl
  have hB := Below.refl w.heap.size w
  obtain ⟨d, hxor, hd⟩ := xor_byte c x1 gx1 gx1'
  clear hd
  go_enter Tryd.func9, Tryd.ntmps9
  go_wp2_with fail
  refine (Code_ok k n _ HK.out h0 h1 (ht.out.on (bA hB _))).mono ?_
  rintro e w1 ⟨rfl, b1⟩
  have hB1 := bT (bA hB _) b1
  have cx0 : w1.cell? ⟨w.heap.size, 0, none⟩ = some (.int .u8 x0) := (b1.cell (by simp)).trans (cell_new w _ _ _ 0)
  have cx1 : w1.cell? ⟨w.heap.size, 1, none⟩ = some (.int .u8 x1) := (b1.cell (by simp)).trans (cell_new w _ _ _ 1)
  have hs1 : w.heap.size < w1.heap.size := by have := b1.size; simp at this; omega
  obtain ⟨cap, w2, hconv, hcap, b2, hs2, hcell, hfr⟩ := conv_rule (codeS k n) hz w1
  have cx0' : w2.cell? ⟨w.heap.size, 0, none⟩ = some (.int .u8 x0) := (b2.cell hs1).trans cx0
  have cx1' : w2.cell? ⟨w.heap.size, 1, none⟩ = some (.int .u8 x1) := (b2.cell hs1).trans cx1
  have ci : w2.cell? ⟨w1.heap.size, i, none⟩ = some (.int .u8 (c.toNat : Int)) := by rw [hcell i hi, codeS_data, toNat_getD Hc.out]
  have fi := hfr i hi
  have HC := Lib.hid hcell
  clear hcell hfr
  go_wp2_with fail
  clear hconv
  go_region
  obtain ⟨w3, hw3⟩ : ∃ w3, w3 = (w2.setCell ⟨w1.heap.size, i, none⟩ (.int .u8 (d.toNat : Int))).drew := ⟨_, rfl⟩
  have R3 : ∀ j, j < 8 → w3.cell? ⟨w1.heap.size, j, none⟩ = some (.int .u8 ((((codeL k n).set i d).getD j 0).toNat : Int)) := by
    rw [hw3]; exact row_set (codeL_len k n) (by rw [← codeS_data]; exact HC.out) i hi d
  have b3 : Below w1.heap.size w1 w3 := by rw [hw3]; exact (b2.setCell (Nat.le_refl _) _).drew
  have cy1 : w3.cell? ⟨w.heap.size, 1, none⟩ = some (.int .u8 x1) := (b3.cell hs1).trans cx1
  have hs3 : w.heap.size < w3.heap.size := Nat.lt_of_lt_of_le hs1 b3.size
  have hB3 := bT hB1 b3
  rw [← hw3]
  clear hw3 cx0 cx1 cx0' cx1' ci fi HC hs2
  clear R3
  obtain ⟨cap2, w5, hconv, hcap2, b5, hs5, hcell, hfr⟩ := conv_rule (codeS k n) hz w3
  have hB5 := bT hB3 b5
  have h7 : (i : Int) < 7 := by omega
  have ci : w5.cell? ⟨w3.heap.size, i, none⟩ = some (.int .u8 (c.toNat : Int)) := by rw [hcell i hi, codeS_data, toNat_getD Hc.out]
  have ci' : w5.cell? ⟨w3.heap.size, i + 1, none⟩ = some (.int .u8 (c'.toNat : Int)) := by rw [hcell (i + 1) (by omega), codeS_data, toNat_getD Hc'.out]
  have fi := hfr i hi
  have fi' := hfr (i + 1) (by omega)
  have HC := Lib.hid hcell
  clear hcell hfr
  go_wp2_with fail
  clear hconv
  go_quiet (fail)
  go_wp2_with fail
  go_region
  obtain ⟨w6, hw6⟩ : ∃ w6, w6 = ((w5.drewN (nq + 1)).setCell ⟨w3.heap.size, i, none⟩ (.int .u8 (c'.toNat : Int))).setCell ⟨w3.heap.size, i + 1, none⟩ (.int .u8 (c.toNat : Int)) := ⟨_, rfl⟩
  have R6 : ∀ j, j < 8 → w6.cell? ⟨w3.heap.size, j, none⟩ = some (.int .u8 (((((codeL k n).set i c').set (i + 1) c).getD j 0).toNat : Int)) := by
    rw [hw6]; exact row_set (by rw [List.length_set, codeL_len]) (row_set (W := w5.drewN (nq + 1)) (codeL_len k n) (by rw [← codeS_data]; exact HC.out) i hi c') (i + 1) (by omega) c
  have b6 : Below w3.heap.size w3 w6 := by rw [hw6]; exact ((bD b5 (nq + 1)).setCell (Nat.le_refl _) _).setCell (Nat.le_refl _) _
  have hB6 := bT hB3 b6
  rw [← hw6]
  clear hw6 ci ci' fi fi' HC hs5
  have hback := back_rule w6 w3.heap.size cap2 (((codeL k n).set i c').set (i + 1) c) (by rw [List.length_set, List.length_set, codeL_len]) R6
  clear R6
  go_wp2_with fail
  clear hback
  refine (Is_swap k n _ HK.out h0 h1 i hi7 c c' Hc.out Hc'.out Hcc.out).mono ?_
  rintro e w9 ⟨rfl, b9⟩
  have hB9 := bT hB6 b9
  go_wp2_with fail
  refine (Is_code k n _ HK.out h0 h1).mono ?_
  rintro e w7 ⟨rfl, b7⟩
  have hB7 := bT hB9 b7
  go_wp2_with fail
  refine (awake_any _ (ht.out.on hB7)).mono ?_
  rintro e w8 ⟨rfl, b8⟩
  go_wp2
  go_ret
  exact ⟨rfl, bT hB7 b8⟩

set_option maxHeartbeats 2000000 in
set_option maxRecDepth 100000 in
theorem Det_x_end (k n x0 x1 : Int) (w : World) (ht : Hid (Tab w)) (HK : Hid (capB k = true)) (h0 : 0 ≤ n) (h1 : n ≤ 999999) (gx0 : 0 ≤ x0) (gx0' : x0 ≤ 255) (gx1 : 0 ≤ x1) (gx1' : x1 ≤ 255)
    (i : Nat) (hi : i < 8) (hx : x0 % 8 = i) (hx1 : (x1 != 0) = true) (hi7 : ¬ i < 7) :
    Calls Tryd.prog 9 #[.int .u8 k, .int .i64 n, .agg #[.int .u8 x0, .int .u8 x1]] w fun e w' => e = .returned (.bool true) ∧ Below w.heap.size w w' := by
  obtain ⟨c, Hc⟩ : ∃ c : UInt8, Hid (c = (codeL k n).getD i 0) := ⟨_, rfl⟩
  have hz : (codeS k n).size = 8 := rfl
  have hB := Below.refl w.heap.size w
  obtain ⟨d, hxor, hd⟩ := xor_byte c x1 gx1 gx1'
  have Hd := Lib.hid hd
  clear hd
  go_enter Tryd.func9, Tryd.ntmps9
  go_wp2_with fail
  refine (Code_ok k n _ HK.out h0 h1 (ht.out.on (bA hB _))).mono ?_
  rintro e w1 ⟨rfl, b1⟩
  have hB1 := bT (bA hB _) b1
  have cx0 : w1.cell? ⟨w.heap.size, 0, none⟩ = some (.int .u8 x0) := (b1.cell (by simp)).trans (cell_new w _ _ _ 0)
  have cx1 : w1.cell? ⟨w.heap.size, 1, none⟩ = some (.int .u8 x1) := (b1.cell (by simp)).trans (cell_new w _ _ _ 1)
  have hs1 : w.heap.size < w1.heap.size := by have := b1.size; simp at this; omega
  obtain ⟨cap, w2, hconv, hcap, b2, hs2, hcell, hfr⟩ := conv_rule (codeS k n) hz w1
  have cx0' : w2.cell? ⟨w.heap.size, 0, none⟩ = some (.int .u8 x0) := (b2.cell hs1).trans cx0
  have cx1' : w2.cell? ⟨w.heap.size, 1, none⟩ = some (.int .u8 x1) := (b2.cell hs1).trans cx1
  have ci : w2.cell? ⟨w1.heap.size, i, none⟩ = some (.int .u8 (c.toNat : Int)) := by rw [hcell i hi, codeS_data, toNat_getD Hc.out]
  have fi := hfr i hi
  have HC := Lib.hid hcell
  clear hcell hfr
  go_wp2_with fail
  clear hconv
  go_region
  obtain ⟨w3, hw3⟩ : ∃ w3, w3 = (w2.setCell ⟨w1.heap.size, i, none⟩ (.int .u8 (d.toNat : Int))).drew := ⟨_, rfl⟩
  have R3 : ∀ j, j < 8 → w3.cell? ⟨w1.heap.size, j, none⟩ = some (.int .u8 ((((codeL k n).set i d).getD j 0).toNat : Int)) := by
    rw [hw3]; exact row_set (codeL_len k n) (by rw [← codeS_data]; exact HC.out) i hi d
  have b3 : Below w1.heap.size w1 w3 := by rw [hw3]; exact (b2.setCell (Nat.le_refl _) _).drew
  have cy1 : w3.cell? ⟨w.heap.size, 1, none⟩ = some (.int .u8 x1) := (b3.cell hs1).trans cx1
  have hs3 : w.heap.size < w3.heap.size := Nat.lt_of_lt_of_le hs1 b3.size
  have hB3 := bT hB1 b3
  rw [← hw3]
  clear hw3 cx0 cx1 cx0' cx1' ci fi HC hs2
  have hback := back_rule w3 w1.heap.size cap ((codeL k n).set i d) (by rw [List.length_set, codeL_len]) R3
  clear R3
  go_wp2_with fail
  clear hback
  refine (Is_set k n _ HK.out h0 h1 i hi d (fun e => Hd.out (by intro e0; rw [e0] at hx1; simp at hx1) (e.trans Hc.out.symm))).mono ?_
  rintro e w4 ⟨rfl, b4⟩
  have hB4 := bT hB3 b4
  obtain ⟨cap2, w5, hconv, hcap2, b5, hs5, hcell, hfr⟩ := conv_rule (codeS k n) hz w4
  have hB5 := bT hB4 b5
  have h7 : decide ((i : Int) < 7) = false := by simp; omega
  clear hcell hfr
  go_wp2_with fail
  clear hconv
  go_quiet (fail)
  go_wp2_with fail
  refine (Is_code k n _ HK.out h0 h1).mono ?_
  rintro e w7 ⟨rfl, b7⟩
  have hB7 := bT (bD hB5 nq) b7
  go_wp2_with fail
  refine (awake_any _ (ht.out.on hB7)).mono ?_
  rintro e w8 ⟨rfl, b8⟩
  go_wp2
  go_ret
  exact ⟨rfl, bT hB7 b8⟩

set_option maxHeartbeats 2000000 in
set_option maxRecDepth 100000 in
theorem Det_x_eq (k n x0 x1 : Int) (w : World) (ht : Hid (Tab w)) (HK : Hid (capB k = true)) (h0 : 0 ≤ n) (h1 : n ≤ 999999) (gx0 : 0 ≤ x0) (gx0' : x0 ≤ 255) (gx1 : 0 ≤ x1) (gx1' : x1 ≤ 255)
    (i : Nat) (hi : i < 8) (hx : x0 % 8 = i) (hx1 : (x1 != 0) = true) (hi7 : i < 7) (c c' : UInt8) (Hc : Hid (c = (codeL k n).getD i 0)) (Hc' : Hid (c' = (codeL k n).getD (i + 1) 0)) (hcc : ((c.toNat : Int) != c'.toNat) = false) :
    Calls Tryd.prog 9 #[.int .u8 k, .int .i64 n, .agg #[.int .u8 x0, .int .u8 x1]] w fun e w' => e = .returned (.bool true) ∧ Below w.heap.size w w' := by
  have hz : (codeS k n).size = 8 := rfl
  have hB := Below.refl w.heap.size w
  obtain ⟨d, hxor, hd⟩ := xor_byte c x1 gx1 gx1'
  have Hd := Lib.hid hd
  clear hd
  go_enter Tryd.func9, Tryd.ntmps9
  go_wp2_with fail
  refine (Code_ok k n _ HK.out h0 h1 (ht.out.on (bA hB _))).mono ?_
  rintro e w1 ⟨rfl, b1⟩
  have hB1 := bT (bA hB _) b1
  have cx0 : w1.cell? ⟨w.heap.size, 0, none⟩ = some (.int .u8 x0) := (b1.cell (by simp)).trans (cell_new w _ _ _ 0)
  have cx1 : w1.cell? ⟨w.heap.size, 1, none⟩ = some (.int .u8 x1) := (b1.cell (by simp)).trans (cell_new w _ _ _ 1)
  have hs1 : w.heap.size < w1.heap.size := by have := b1.size; simp at this; omega
  obtain ⟨cap, w2, hconv, hcap, b2, hs2, hcell, hfr⟩ := conv_rule (codeS k n) hz w1
  have cx0' : w2.cell? ⟨w.heap.size, 0, none⟩ = some (.int .u8 x0) := (b2.cell hs1).trans cx0
  have cx1' : w2.cell? ⟨w.heap.size, 1, none⟩ = some (.int .u8 x1) := (b2.cell hs1).trans cx1
  have ci : w2.cell? ⟨w1.heap.size, i, none⟩ = some (.int .u8 (c.toNat : Int)) := by rw [hcell i hi, codeS_data, toNat_getD Hc.out]
  have fi := hfr i hi
  have HC := Lib.hid hcell
  clear hcell hfr
  go_wp2_with fail
  clear hconv
  go_region
  obtain ⟨w3, hw3⟩ : ∃ w3, w3 = (w2.setCell ⟨w1.heap.size, i, none⟩ (.int .u8 (d.toNat : Int))).drew := ⟨_, rfl⟩
  have R3 : ∀ j, j < 8 → w3.cell? ⟨w1.heap.size, j, none⟩ = some (.int .u8 ((((codeL k n).set i d).getD j 0).toNat : Int)) := by
    rw [hw3]; exact row_set (codeL_len k n) (by rw [← codeS_data]; exact HC.out) i hi d
  have b3 : Below w1.heap.size w1 w3 := by rw [hw3]; exact (b2.setCell (Nat.le_refl _) _).drew
  have cy1 : w3.cell? ⟨w.heap.size, 1, none⟩ = some (.int .u8 x1) := (b3.cell hs1).trans cx1
  have hs3 : w.heap.size < w3.heap.size := Nat.lt_of_lt_of_le hs1 b3.size
  have hB3 := bT hB1 b3
  rw [← hw3]
  clear hw3 cx0 cx1 cx0' cx1' ci fi HC hs2
  have hback := back_rule w3 w1.heap.size cap ((codeL k n).set i d) (by rw [List.length_set, codeL_len]) R3
  clear R3
  go_wp2_with fail
  clear hback
  refine (Is_set k n _ HK.out h0 h1 i hi d (fun e => Hd.out (by intro e0; rw [e0] at hx1; simp at hx1) (e.trans Hc.out.symm))).mono ?_
  rintro e w4 ⟨rfl, b4⟩
  have hB4 := bT hB3 b4
  obtain ⟨cap2, w5, hconv, hcap2, b5, hs5, hcell, hfr⟩ := conv_rule (codeS k n) hz w4
  have hB5 := bT hB4 b5
  have h7 : (i : Int) < 7 := by omega
  have ci : w5.cell? ⟨w4.heap.size, i, none⟩ = some (.int .u8 (c.toNat : Int)) := by rw [hcell i hi, codeS_data, toNat_getD Hc.out]
  have ci' : w5.cell? ⟨w4.heap.size, i + 1, none⟩ = some (.int .u8 (c'.toNat : Int)) := by rw [hcell (i + 1) (by omega), codeS_data, toNat_getD Hc'.out]
  clear hcell hfr
  go_wp2_with fail
  clear hconv
  go_quiet (fail)
  go_wp2_with fail
  refine (Is_code k n _ HK.out h0 h1).mono ?_
  rintro e w7 ⟨rfl, b7⟩
  have hB7 := bT (bD hB5 nq) b7
  go_wp2_with fail
  refine (awake_any _ (ht.out.on hB7)).mono ?_
  rintro e w8 ⟨rfl, b8⟩
  go_wp2
  go_ret
  exact ⟨rfl, bT hB7 b8⟩

set_option maxHeartbeats 2000000 in
set_option maxRecDepth 100000 in
theorem Det_x_ne (k n x0 x1 : Int) (w : World) (ht : Hid (Tab w)) (HK : Hid (capB k = true)) (h0 : 0 ≤ n) (h1 : n ≤ 999999) (gx0 : 0 ≤ x0) (gx0' : x0 ≤ 255) (gx1 : 0 ≤ x1) (gx1' : x1 ≤ 255)
    (i : Nat) (hi : i < 8) (hx : x0 % 8 = i) (hx1 : (x1 != 0) = true) (hi7 : i < 7) (c c' : UInt8) (Hc : Hid (c = (codeL k n).getD i 0)) (Hc' : Hid (c' = (codeL k n).getD (i + 1) 0)) (Hcc : Hid (c ≠ c')) (hcc : ((c.toNat : Int) != c'.toNat) = true) :
    Calls Tryd.prog 9 #[.int .u8 k, .int .i64 n, .agg #[.int .u8 x0, .int .u8 x1]] w fun e w' => e = .returned (.bool true) ∧ Below w.heap.size w w' := by
  have hz : (codeS k n).size = 8 := rfl
  have hB := Below.refl w.heap.size w
  obtain ⟨d, hxor, hd⟩ := xor_byte c x1 gx1 gx1'
  have Hd := Lib.hid hd
  clear hd
  go_enter Tryd.func9, Tryd.ntmps9
  go_wp2_with fail
  refine (Code_ok k n _ HK.out h0 h1 (ht.out.on (bA hB _))).mono ?_
  rintro e w1 ⟨rfl, b1⟩
  have hB1 := bT (bA hB _) b1
  have cx0 : w1.cell? ⟨w.heap.size, 0, none⟩ = some (.int .u8 x0) := (b1.cell (by simp)).trans (cell_new w _ _ _ 0)
  have cx1 : w1.cell? ⟨w.heap.size, 1, none⟩ = some (.int .u8 x1) := (b1.cell (by simp)).trans (cell_new w _ _ _ 1)
  have hs1 : w.heap.size < w1.heap.size := by have := b1.size; simp at this; omega
  obtain ⟨cap, w2, hconv, hcap, b2, hs2, hcell, hfr⟩ := conv_rule (codeS k n) hz w1
  have cx0' : w2.cell? ⟨w.heap.size, 0, none⟩ = some (.int .u8 x0) := (b2.cell hs1).trans cx0
  have cx1' : w2.cell? ⟨w.heap.size, 1, none⟩ = some (.int .u8 x1) := (b2.cell hs1).trans cx1
  have ci : w2.cell? ⟨w1.heap.size, i, none⟩ = some (.int .u8 (c.toNat : Int)) := by rw [hcell i hi, codeS_data, toNat_getD Hc.out]
  have fi := hfr i hi
  have HC := Lib.hid hcell
  clear hcell hfr
  go_wp2_with fail
  clear hconv
  go_region
  obtain ⟨w3, hw3⟩ : ∃ w3, w3 = (w2.setCell ⟨w1.heap.size, i, none⟩ (.int .u8 (d.toNat : Int))).drew := ⟨_, rfl⟩
  have R3 : ∀ j, j < 8 → w3.cell? ⟨w1.heap.size, j, none⟩ = some (.int .u8 ((((codeL k n).set i d).getD j 0).toNat : Int)) := by
    rw [hw3]; exact row_set (codeL_len k n) (by rw [← codeS_data]; exact HC.out) i hi d
  have b3 : Below w1.heap.size w1 w3 := by rw [hw3]; exact (b2.setCell (Nat.le_refl _) _).drew
  have cy1 : w3.cell? ⟨w.heap.size, 1, none⟩ = some (.int .u8 x1) := (b3.cell hs1).trans cx1
  have hs3 : w.heap.size < w3.heap.size := Nat.lt_of_lt_of_le hs1 b3.size
  have hB3 := bT hB1 b3
  rw [← hw3]
  clear hw3 cx0 cx1 cx0' cx1' ci fi HC hs2
  have hback := back_rule w3 w1.heap.size cap ((codeL k n).set i d) (by rw [List.length_set, codeL_len]) R3
  clear R3
  go_wp2_with fail
  clear hback
  refine (Is_set k n _ HK.out h0 h1 i hi d (fun e => Hd.out (by intro e0; rw [e0] at hx1; simp at hx1) (e.trans Hc.out.symm))).mono ?_
  rintro e w4 ⟨rfl, b4⟩
  have hB4 := bT hB3 b4
  obtain ⟨cap2, w5, hconv, hcap2, b5, hs5, hcell, hfr⟩ := conv_rule (codeS k n) hz w4
  have hB5 := bT hB4 b5
  have h7 : (i : Int) < 7 := by omega
  have ci : w5.cell? ⟨w4.heap.size, i, none⟩ = some (.int .u8 (c.toNat : Int)) := by rw [hcell i hi, codeS_data, toNat_getD Hc.out]
  have ci' : w5.cell? ⟨w4.heap.size, i + 1, none⟩ = some (.int .u8 (c'.toNat : Int)) := by rw [hcell (i + 1) (by omega), codeS_data, toNat_getD Hc'.out]
  have fi := hfr i hi
  have fi' := hfr (i + 1) (by omega)
  have HC := Lib.hid hcell
  clear hcell hfr
  go_wp2_with fail
  clear hconv
  go_quiet (fail)
  go_wp2_with fail
  go_region
  obtain ⟨w6, hw6⟩ : ∃ w6, w6 = ((w5.drewN (nq + 1)).setCell ⟨w4.heap.size, i, none⟩ (.int .u8 (c'.toNat : Int))).setCell ⟨w4.heap.size, i + 1, none⟩ (.int .u8 (c.toNat : Int)) := ⟨_, rfl⟩
  have R6 : ∀ j, j < 8 → w6.cell? ⟨w4.heap.size, j, none⟩ = some (.int .u8 (((((codeL k n).set i c').set (i + 1) c).getD j 0).toNat : Int)) := by
    rw [hw6]; exact row_set (by rw [List.length_set, codeL_len]) (row_set (W := w5.drewN (nq + 1)) (codeL_len k n) (by rw [← codeS_data]; exact HC.out) i hi c') (i + 1) (by omega) c
  have b6 : Below w4.heap.size w4 w6 := by rw [hw6]; exact ((bD b5 (nq + 1)).setCell (Nat.le_refl _) _).setCell (Nat.le_refl _) _
  have hB6 := bT hB4 b6
  rw [← hw6]
  clear hw6 ci ci' fi fi' HC hs5
  have hback := back_rule w6 w4.heap.size cap2 (((codeL k n).set i c').set (i + 1) c) (by rw [List.length_set, List.length_set, codeL_len]) R6
  clear R6
  go_wp2_with fail
  clear hback
  refine (Is_swap k n _ HK.out h0 h1 i hi7 c c' Hc.out Hc'.out Hcc.out).mono ?_
  rintro e w9 ⟨rfl, b9⟩
  have hB9 := bT hB6 b9
  go_wp2_with fail
  refine (Is_code k n _ HK.out h0 h1).mono ?_
  rintro e w7 ⟨rfl, b7⟩
  have hB7 := bT hB9 b7
  go_wp2_with fail
  refine (awake_any _ (ht.out.on hB7)).mono ?_
  rintro e w8 ⟨rfl, b8⟩
  go_wp2
  go_ret
  exact ⟨rfl, bT hB7 b8⟩

theorem IdentDetects_walk (k n x0 x1 : Int) (w : World) (h : Tab w) (gx0 : 0 ≤ x0) (gx0' : x0 ≤ 255) (gx1 : 0 ≤ x1) (gx1' : x1 ≤ 255) :
    Calls Tryd.prog 9 #[.int .u8 k, .int .i64 n, .agg #[.int .u8 x0, .int .u8 x1]] w fun e w' => e = .returned (.bool true) ∧ Below w.heap.size w w' := by
  by_cases hc : codeE k n = 0
  · obtain ⟨hk, h0, h1⟩ := codeE_zero hc
    obtain ⟨i, hi, hx⟩ : ∃ i : Nat, i < 8 ∧ x0 % 8 = i := ⟨(x0 % 8).toNat, by omega, by omega⟩
    by_cases hx1 : x1 = 0
    · have hx1' : (x1 != 0) = false := by simpa using hx1
      by_cases hi7 : i < 7
      · by_cases hcc : (codeL k n).getD i 0 = (codeL k n).getD (i + 1) 0
        · exact Det_z_eq k n x0 x1 w h hk h0 h1 gx0 gx0' gx1 gx1' i hi hx hx1' hi7 _ _ rfl rfl (by rw [hcc]; simp)
        · exact Det_z_ne k n x0 x1 w h hk h0 h1 gx0 gx0' gx1 gx1' i hi hx hx1' hi7 _ _ rfl rfl hcc (by simpa using ne_int hcc)
      · exact Det_z_end k n x0 x1 w h hk h0 h1 gx0 gx0' gx1 gx1' i hi hx hx1' hi7
    · have hx1' : (x1 != 0) = true := by simpa using hx1
      by_cases hi7 : i < 7
      · by_cases hcc : (codeL k n).getD i 0 = (codeL k n).getD (i + 1) 0
        · exact Det_x_eq k n x0 x1 w h hk h0 h1 gx0 gx0' gx1 gx1' i hi hx hx1' hi7 _ _ rfl rfl (by rw [hcc]; simp)
        · exact Det_x_ne k n x0 x1 w h hk h0 h1 gx0 gx0' gx1 gx1' i hi hx hx1' hi7 _ _ rfl rfl hcc (by simpa using ne_int hcc)
      · exact Det_x_end k n x0 x1 w h hk h0 h1 gx0 gx0' gx1 gx1' i hi hx hx1' hi7
  · have ht := Lib.hid h
    have hc1 : (codeE k n != 0) = true := by simpa using hc
    have hB := Below.refl w.heap.size w
    clear h hc
    go_enter Tryd.func9, Tryd.ntmps9
    go_wp2_with fail
    refine (Code_any k n _ (ht.out.on (bA hB _))).mono ?_
    rintro e w1 ⟨rfl, b1⟩
    have hB1 := bT (bA hB _) b1
    go_wp2_with fail
    refine (awake_any _ (ht.out.on hB1)).mono ?_
    rintro e w2 ⟨rfl, b2⟩
    go_wp2
    go_ret
    exact ⟨rfl, bT hB1 b2⟩
end Go.Proofs.YtfmjconjgfhfbaaDoor.Id
