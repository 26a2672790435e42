/- Plain words on bytes: classes of bytes, names, check letters, codes. No Go. -/
import Derived.Below
namespace Go.Proofs.YtgonghmihghhnaaDoor.Id

def digB (n : Int) : Bool := decide (48 ≤ n ∧ n ≤ 57)
def capB (n : Int) : Bool := decide (65 ≤ n ∧ n ≤ 90)
theorem digB_yes {n : Int} (h1 : 48 ≤ n) (h2 : n ≤ 57) : digB n = true := by simp [digB, h1, h2]
theorem digB_lo {n : Int} (h1 : n < 48) : digB n = false := by simp [digB]; omega
theorem digB_hi {n : Int} (h1 : 57 < n) : digB n = false := by simp [digB]; omega
theorem capB_yes {n : Int} (h1 : 65 ≤ n) (h2 : n ≤ 90) : capB n = true := by simp [capB, h1, h2]
theorem capB_lo {n : Int} (h1 : n < 65) : capB n = false := by simp [capB]; omega
theorem capB_hi {n : Int} (h1 : 90 < n) : capB n = false := by simp [capB]; omega

/-- the weighted sum of bytes, the first with the weight i + 1 -/
def lsum : Nat → List UInt8 → Int
  | _, [] => 0
  | i, c :: cs => ((i : Int) + 1) * (c.toNat : Int) + lsum (i + 1) cs
def letM (l : List UInt8) : Int := lsum 0 l % 23
theorem lsum_snoc (c : UInt8) : ∀ (l : List UInt8) (i : Nat), lsum i (l ++ [c]) = lsum i l + ((i : Int) + l.length + 1) * (c.toNat : Int)
  | [], i => by simp [lsum]
  | d :: ds, i => by
    rw [List.cons_append, lsum, lsum, lsum_snoc c ds (i + 1), List.length_cons]
    have : ((i + 1 : Nat) : Int) + (ds.length : Int) + 1 = (i : Int) + ((ds.length + 1 : Nat) : Int) + 1 := by omega
    rw [this]
    omega
theorem letM_range (l : List UInt8) : 0 ≤ letM l ∧ letM l < 23 := by unfold letM; omega
theorem letM_snoc (l : List UInt8) (c : UInt8) : letM (l ++ [c]) = (letM l + ((l.length : Int) % 23 + 1) * (c.toNat : Int)) % 23 := by
  unfold letM
  rw [lsum_snoc]
  have e : ((0 : Nat) : Int) + (l.length : Int) + 1 = 23 * ((l.length : Int) / 23) + ((l.length : Int) % 23 + 1) := by omega
  rw [e, Int.add_mul, Int.mul_assoc]
  generalize (l.length : Int) / 23 * (c.toNat : Int) = q
  generalize ((l.length : Int) % 23 + 1) * (c.toNat : Int) = r
  omega
theorem letM_snoc' (l : List UInt8) (c : UInt8) : letM (l ++ [c]) = (letM l + ((l.length : Int) + 1) % 23 * (c.toNat : Int)) % 23 := by
  unfold letM
  rw [lsum_snoc]
  have e : ((0 : Nat) : Int) + (l.length : Int) + 1 = 23 * (((l.length : Int) + 1) / 23) + ((l.length : Int) + 1) % 23 := by omega
  rw [e, Int.add_mul, Int.mul_assoc]
  generalize ((l.length : Int) + 1) / 23 * (c.toNat : Int) = q
  generalize ((l.length : Int) + 1) % 23 * (c.toNat : Int) = r
  omega
theorem weight_range (k : Nat) (c : UInt8) : 0 ≤ ((k : Int) % 23 + 1) * (c.toNat : Int) ∧ ((k : Int) % 23 + 1) * (c.toNat : Int) ≤ 5865 := by
  have h1 : 0 ≤ (k : Int) % 23 + 1 := by omega
  have h2 : (k : Int) % 23 + 1 ≤ 23 := by omega
  have h3 : (c.toNat : Int) ≤ 255 := by have := c.toNat_lt; omega
  exact ⟨Int.mul_nonneg h1 (by omega), Int.le_trans (Int.mul_le_mul_of_nonneg_right h2 (by omega)) (by omega)⟩
theorem weight_range' (k : Nat) (c : UInt8) : 0 ≤ ((k : Int) + 1) % 23 * (c.toNat : Int) ∧ ((k : Int) + 1) % 23 * (c.toNat : Int) ≤ 5865 := by
  have h1 : 0 ≤ ((k : Int) + 1) % 23 := by omega
  have h2 : ((k : Int) + 1) % 23 ≤ 23 := by omega
  have h3 : (c.toNat : Int) ≤ 255 := by have := c.toNat_lt; omega
  exact ⟨Int.mul_nonneg h1 (by omega), Int.le_trans (Int.mul_le_mul_of_nonneg_right h2 (by omega)) (by omega)⟩
theorem take_snoc (s : ByteArray) (k : Nat) (h : k < s.size) : s.data.toList.take (k + 1) = s.data.toList.take k ++ [s[k]] := by
  rw [List.take_succ_eq_append_getElem (by simpa using h)]; rfl
theorem take_len (s : ByteArray) (k : Nat) (h : k ≤ s.size) : (s.data.toList.take k).length = k := by
  rw [List.length_take, Array.length_toList]
  exact Nat.min_eq_left h
theorem take_all (s : ByteArray) : s.data.toList.take s.size = s.data.toList := List.take_of_length_le (by rw [Array.length_toList]; exact Nat.le_refl _)

/-! names -/
def lowB (c : Int) : Bool := decide (97 ≤ c ∧ c ≤ 122)
def nchB (c : Int) : Bool := lowB c || decide (c = 95) || digB c
def headB : List UInt8 → Bool
  | [] => false
  | c :: _ => lowB c.toNat
def nameB (l : List UInt8) : Bool := decide (l.length ≤ 16) && headB l && l.all (fun c => nchB c.toNat)
theorem nchB_low {c : Int} (h : 97 ≤ c) (h2 : c ≤ 122) : nchB c = true := by simp [nchB, lowB, h, h2]
theorem nchB_us {c : Int} (h : c = 95) : nchB c = true := by simp [nchB, h]
theorem nchB_dig {c : Int} (h : 48 ≤ c) (h2 : c ≤ 57) : nchB c = true := by simp [nchB, digB_yes h h2]
theorem nchB_no {c : Int} (h : c < 97 ∨ 122 < c) (h1 : c ≠ 95) (h2 : digB c = false) : nchB c = false := by
  have : lowB c = false := by simp [lowB]; omega
  simp [nchB, this, h1, h2]
theorem nameB_empty : nameB [] = false := by decide
theorem nameB_long {l : List UInt8} (h : 16 < l.length) : nameB l = false := by
  have : decide (l.length ≤ 16) = false := by simp; omega
  simp [nameB, this]
theorem headB_at (s : ByteArray) (h : 0 < s.size) : headB s.data.toList = lowB (s[0].toNat : Int) := by
  have e : s.data.toList = s[0] :: s.data.toList.tail := by
    have := take_snoc s 0 h
    rw [List.take_zero, List.nil_append] at this
    cases hl : s.data.toList with
    | nil => rw [hl] at this; simp at this
    | cons a as => rw [hl] at this; simp at this; rw [this]; rfl
  rw [e]; rfl
theorem nameB_head {s : ByteArray} (h : 0 < s.size) (h1 : lowB (s[0].toNat : Int) = false) : nameB s.data.toList = false := by
  simp [nameB, headB_at s h, h1]
def nall (s : ByteArray) (k : Nat) : Bool := (s.data.toList.take k).all (fun c => nchB c.toNat)
theorem nall_zero (s : ByteArray) : nall s 0 = true := rfl
theorem nall_succ (s : ByteArray) (k : Nat) (h : k < s.size) : nall s (k + 1) = (nall s k && nchB (s[k].toNat : Int)) := by
  unfold nall
  rw [take_snoc s k h, List.all_append]; simp
theorem all_no (s : ByteArray) (k : Nat) (h : k < s.size) (p : UInt8 → Bool) (hp : p s[k] = false) : s.data.toList.all p = false := by
  rw [List.all_eq_false]
  exact ⟨s[k], by rw [Array.mem_toList_iff]; exact Array.getElem_mem _, by simpa using hp⟩
theorem nameB_all {s : ByteArray} (k : Nat) (h : k < s.size) (h1 : nchB (s[k].toNat : Int) = false) : nameB s.data.toList = false := by
  simp [nameB, all_no s k h (fun c => nchB c.toNat) h1]
theorem nameB_yes {s : ByteArray} (h : 0 < s.size) (h16 : s.size ≤ 16) (h1 : digB (s[0].toNat : Int) = false) (h2 : (s[0].toNat : Int) ≠ 95) (h3 : nall s s.size = true) : nameB s.data.toList = true := by
  have e : decide (s.data.toList.length ≤ 16) = true := by simpa using h16
  have h4 : s.data.toList.all (fun c => nchB c.toNat) = true := by
    unfold nall at h3
    rw [take_all] at h3
    exact h3
  have h5 : nchB (s[0].toNat : Int) = true := by
    cases hn : nchB (s[0].toNat : Int) with
    | true => rfl
    | false => rw [all_no s 0 h (fun c => nchB c.toNat) hn] at h4; cases h4
  have h6 : lowB (s[0].toNat : Int) = true := by simpa [nchB, h1, h2] using h5
  simp only [nameB, headB_at s h, h6, h4, e, Bool.and_self]
end Go.Proofs.YtgonghmihghhnaaDoor.Id
