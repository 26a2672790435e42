/- Plain words on codes. No Go. -/
import Derived.Test.YtgonghmihghhnaaDoorId0
import Derived.Lib.Atoi
import Derived.Lib.ItoaNum
import GoSem.Core.Utf8
namespace Go.Proofs.YtgonghmihghhnaaDoor.Id

def bN (n : Int) : UInt8 := UInt8.ofNat n.toNat
theorem bN_val {n : Int} (h0 : 0 ≤ n) (h1 : n < 256) : ((bN n).toNat : Int) = n := by
  unfold bN
  rw [UInt8.toNat_ofNat', Nat.mod_eq_of_lt (by omega)]
  omega
theorem bN_of (c : UInt8) : bN (c.toNat : Int) = c := by
  unfold bN
  rw [Int.toNat_natCast]; exact UInt8.ofNat_toNat
def digs (n : Int) : List UInt8 := [bN (48 + n / 100000 % 10), bN (48 + n / 10000 % 10), bN (48 + n / 1000 % 10), bN (48 + n / 100 % 10), bN (48 + n / 10 % 10), bN (48 + n % 10)]
def code7 (k n : Int) : List UInt8 := bN k :: digs n
def codeL (k n : Int) : List UInt8 := code7 k n ++ [bN (65 + letM (code7 k n))]
def codeS (k n : Int) : ByteArray := ⟨(codeL k n).toArray⟩
def codeE (k n : Int) : Int := if capB k = false then 10 else if n < 0 ∨ 999999 < n then 9 else 0
def codeR (k n : Int) : ByteArray := if codeE k n = 0 then codeS k n else ⟨#[]⟩
theorem codeE_kind {k : Int} (n : Int) (h : capB k = false) : codeE k n = 10 := by simp [codeE, h]
theorem codeE_range {k n : Int} (h : capB k = true) (h2 : n < 0 ∨ 999999 < n) : codeE k n = 9 := by simp [codeE, h, h2]
theorem codeE_ok {k n : Int} (h : capB k = true) (h0 : 0 ≤ n) (h1 : n ≤ 999999) : codeE k n = 0 := by
  have : ¬ (n < 0 ∨ 999999 < n) := by omega
  simp [codeE, h, this]
theorem codeR_kind {k : Int} (n : Int) (h : capB k = false) : codeR k n = ⟨#[]⟩ := by simp [codeR, codeE_kind n h]
theorem codeR_range {k n : Int} (h : capB k = true) (h2 : n < 0 ∨ 999999 < n) : codeR k n = ⟨#[]⟩ := by simp [codeR, codeE_range h h2]
theorem codeR_ok {k n : Int} (h : capB k = true) (h0 : 0 ≤ n) (h1 : n ≤ 999999) : codeR k n = codeS k n := by simp [codeR, codeE_ok h h0 h1]

def numL (l : List UInt8) : Int := l.foldl (fun n c => 10 * n + ((c.toNat : Int) - 48)) 0
def splitE : List UInt8 → Int
  | [c0, c1, c2, c3, c4, c5, c6, c7] =>
    if capB c0.toNat = false then 10
    else if digB c1.toNat = false then 5 else if digB c2.toNat = false then 5 else if digB c3.toNat = false then 5
    else if digB c4.toNat = false then 5 else if digB c5.toNat = false then 5 else if digB c6.toNat = false then 5
    else if (c7.toNat : Int) = 65 + letM [c0, c1, c2, c3, c4, c5, c6] then 0 else 16
  | _ => 3
def splitK (l : List UInt8) : Int := if splitE l = 0 then ((l.getD 0 0).toNat : Int) else 0
def splitN (l : List UInt8) : Int := if splitE l = 0 then numL ((l.drop 1).take 6) else 0
def isB (l : List UInt8) (kind : Int) : Bool := (splitE l == 0) && (splitK l == kind)
def nextE (l : List UInt8) : Int := if splitE l = 0 then codeE (splitK l) (splitN l + 1) else splitE l
def nextR (l : List UInt8) : ByteArray := if splitE l = 0 then codeR (splitK l) (splitN l + 1) else ⟨#[]⟩
theorem eight {s : ByteArray} (h : s.size = 8) : ∃ c0 c1 c2 c3 c4 c5 c6 c7 : UInt8, s = ⟨#[c0, c1, c2, c3, c4, c5, c6, c7]⟩ := by
  have hl : s.data.toList.length = 8 := by rw [Array.length_toList]; exact h
  obtain ⟨⟨l⟩⟩ := s
  match l, hl with
  | [c0, c1, c2, c3, c4, c5, c6, c7], _ => exact ⟨c0, c1, c2, c3, c4, c5, c6, c7, rfl⟩
theorem splitE_short {s : ByteArray} (h : s.size ≠ 8) : splitE s.data.toList = 3 := by
  have hl : s.data.toList.length ≠ 8 := by rw [Array.length_toList]; exact h
  generalize s.data.toList = l at hl
  unfold splitE
  split
  · simp at hl
  · rfl
theorem dig_mod {n : Int} (h : (!digB n) = false) : (n - 48) % 256 = n - 48 := by
  simp [digB] at h; omega
theorem spl_10 (c0 c1 c2 c3 c4 c5 c6 c7 : UInt8) (h0 : (!capB c0.toNat) = true) : splitE [c0, c1, c2, c3, c4, c5, c6, c7] = 10 := by simp at h0; simp [splitE, h0]
theorem spl_51 (c0 c1 c2 c3 c4 c5 c6 c7 : UInt8) (h0 : (!capB c0.toNat) = false) (h1 : (!digB c1.toNat) = true) : splitE [c0, c1, c2, c3, c4, c5, c6, c7] = 5 := by simp at h0 h1; simp [splitE, h0, h1]
theorem spl_52 (c0 c1 c2 c3 c4 c5 c6 c7 : UInt8) (h0 : (!capB c0.toNat) = false) (h1 : (!digB c1.toNat) = false) (h2 : (!digB c2.toNat) = true) : splitE [c0, c1, c2, c3, c4, c5, c6, c7] = 5 := by simp at h0 h1 h2; simp [splitE, h0, h1, h2]
theorem spl_53 (c0 c1 c2 c3 c4 c5 c6 c7 : UInt8) (h0 : (!capB c0.toNat) = false) (h1 : (!digB c1.toNat) = false) (h2 : (!digB c2.toNat) = false) (h3 : (!digB c3.toNat) = true) : splitE [c0, c1, c2, c3, c4, c5, c6, c7] = 5 := by simp at h0 h1 h2 h3; simp [splitE, h0, h1, h2, h3]
theorem spl_54 (c0 c1 c2 c3 c4 c5 c6 c7 : UInt8) (h0 : (!capB c0.toNat) = false) (h1 : (!digB c1.toNat) = false) (h2 : (!digB c2.toNat) = false) (h3 : (!digB c3.toNat) = false) (h4 : (!digB c4.toNat) = true) : splitE [c0, c1, c2, c3, c4, c5, c6, c7] = 5 := by simp at h0 h1 h2 h3 h4; simp [splitE, h0, h1, h2, h3, h4]
theorem spl_55 (c0 c1 c2 c3 c4 c5 c6 c7 : UInt8) (h0 : (!capB c0.toNat) = false) (h1 : (!digB c1.toNat) = false) (h2 : (!digB c2.toNat) = false) (h3 : (!digB c3.toNat) = false) (h4 : (!digB c4.toNat) = false) (h5 : (!digB c5.toNat) = true) : splitE [c0, c1, c2, c3, c4, c5, c6, c7] = 5 := by simp at h0 h1 h2 h3 h4 h5; simp [splitE, h0, h1, h2, h3, h4, h5]
theorem spl_56 (c0 c1 c2 c3 c4 c5 c6 c7 : UInt8) (h0 : (!capB c0.toNat) = false) (h1 : (!digB c1.toNat) = false) (h2 : (!digB c2.toNat) = false) (h3 : (!digB c3.toNat) = false) (h4 : (!digB c4.toNat) = false) (h5 : (!digB c5.toNat) = false) (h6 : (!digB c6.toNat) = true) : splitE [c0, c1, c2, c3, c4, c5, c6, c7] = 5 := by simp at h0 h1 h2 h3 h4 h5 h6; simp [splitE, h0, h1, h2, h3, h4, h5, h6]
theorem spl_16 (c0 c1 c2 c3 c4 c5 c6 c7 : UInt8) (h0 : (!capB c0.toNat) = false) (h1 : (!digB c1.toNat) = false) (h2 : (!digB c2.toNat) = false) (h3 : (!digB c3.toNat) = false) (h4 : (!digB c4.toNat) = false) (h5 : (!digB c5.toNat) = false) (h6 : (!digB c6.toNat) = false) (h7 : ((c7.toNat : Int) != 65 + letM [c0, c1, c2, c3, c4, c5, c6]) = true) : splitE [c0, c1, c2, c3, c4, c5, c6, c7] = 16 := by simp at h0 h1 h2 h3 h4 h5 h6 h7; simp [splitE, h0, h1, h2, h3, h4, h5, h6, h7]
theorem spl_0 (c0 c1 c2 c3 c4 c5 c6 c7 : UInt8) (h0 : (!capB c0.toNat) = false) (h1 : (!digB c1.toNat) = false) (h2 : (!digB c2.toNat) = false) (h3 : (!digB c3.toNat) = false) (h4 : (!digB c4.toNat) = false) (h5 : (!digB c5.toNat) = false) (h6 : (!digB c6.toNat) = false) (h7 : ((c7.toNat : Int) != 65 + letM [c0, c1, c2, c3, c4, c5, c6]) = false) : splitE [c0, c1, c2, c3, c4, c5, c6, c7] = 0 := by simp at h0 h1 h2 h3 h4 h5 h6 h7; simp [splitE, h0, h1, h2, h3, h4, h5, h6, h7]
theorem spl_num (c1 c2 c3 c4 c5 c6 : UInt8) (h1 : (!digB c1.toNat) = false) (h2 : (!digB c2.toNat) = false) (h3 : (!digB c3.toNat) = false) (h4 : (!digB c4.toNat) = false) (h5 : (!digB c5.toNat) = false) (h6 : (!digB c6.toNat) = false) :
    10 * (10 * (10 * (10 * (10 * (((c1.toNat : Int) - 48) % 256) + ((c2.toNat : Int) - 48) % 256) + ((c3.toNat : Int) - 48) % 256) + ((c4.toNat : Int) - 48) % 256) + ((c5.toNat : Int) - 48) % 256) + ((c6.toNat : Int) - 48) % 256 = numL [c1, c2, c3, c4, c5, c6] := by
  rw [dig_mod h1, dig_mod h2, dig_mod h3, dig_mod h4, dig_mod h5, dig_mod h6]
  simp [numL]
theorem dig_val {c : UInt8} (h : (!digB c.toNat) = false) : Lib.digitVal c = some (c.toNat - 48) := by
  simp [digB] at h
  unfold Lib.digitVal
  rw [if_pos (by omega)]
theorem dig_int {c : UInt8} (h : (!digB c.toNat) = false) : ((c.toNat - 48 : Nat) : Int) = (c.toNat : Int) - 48 := by
  simp [digB] at h
  omega
theorem dig_ne {c : UInt8} (h : (!digB c.toNat) = false) : (c == 45) = false ∧ (c == 43) = false := by
  simp [digB] at h
  constructor <;> (rw [beq_eq_false_iff_ne]; rintro rfl; simp at h)
theorem atoi6 (c1 c2 c3 c4 c5 c6 : UInt8) (h1 : (!digB c1.toNat) = false) (h2 : (!digB c2.toNat) = false) (h3 : (!digB c3.toNat) = false) (h4 : (!digB c4.toNat) = false) (h5 : (!digB c5.toNat) = false) (h6 : (!digB c6.toNat) = false) :
    Lib.atoi [c1, c2, c3, c4, c5, c6] = some (numL [c1, c2, c3, c4, c5, c6]) := by
  unfold Lib.atoi
  simp only [(dig_ne h1).1, (dig_ne h1).2]
  simp only [Bool.false_eq_true, if_false, Lib.decNat, List.isEmpty_cons, Lib.decFrom, dig_val h1, dig_val h2, dig_val h3, dig_val h4, dig_val h5, dig_val h6, Option.map_some, numL, List.foldl_cons, List.foldl_nil]
  have e1 := dig_int h1; have e2 := dig_int h2; have e3 := dig_int h3; have e4 := dig_int h4; have e5 := dig_int h5; have e6 := dig_int h6
  congr 1
  omega
theorem enc_small {n : Int} (h0 : 0 ≤ n) (h1 : n < 128) : Utf8.encode n = ⟨#[bN n]⟩ := by
  have hv : Utf8.valid n = true := by simp [Utf8.valid]; omega
  have hn : n.toNat < 128 := by omega
  simp [Utf8.encode, hv, hn, bN]
theorem itoa7 {n : Int} (h0 : 0 ≤ n) (h1 : n ≤ 999999) : Lib.itoa (1000000 + n) = 49 :: digs n := by
  obtain ⟨m, rfl⟩ := Int.eq_ofNat_of_zero_le h0
  have hm : m ≤ 999999 := by omega
  have e : (1000000 + (m : Int)).toNat = 1000000 + m := by omega
  have e9 : ¬ (1000000 + (m : Int) < 0) := by omega
  unfold Lib.itoa
  rw [if_neg e9, e]
  rw [Lib.decDigits, dif_neg (by omega), Lib.decDigits, dif_neg (by omega), Lib.decDigits, dif_neg (by omega), Lib.decDigits, dif_neg (by omega), Lib.decDigits, dif_neg (by omega), Lib.decDigits, dif_neg (by omega), Lib.decDigits, dif_pos (by omega)]
  have hd : ∀ a : Nat, bN (48 + (a : Int)) = UInt8.ofNat (48 + a) := fun a => by unfold bN; congr 1
  have q0 : (48 : Int) + (m : Int) % 10 = 48 + (((1000000 + m) % 10 : Nat) : Int) := by omega
  have q1 : (48 : Int) + (m : Int) / 10 % 10 = 48 + (((1000000 + m) / 10 % 10 : Nat) : Int) := by omega
  have q2 : (48 : Int) + (m : Int) / 100 % 10 = 48 + (((1000000 + m) / 10 / 10 % 10 : Nat) : Int) := by omega
  have q3 : (48 : Int) + (m : Int) / 1000 % 10 = 48 + (((1000000 + m) / 10 / 10 / 10 % 10 : Nat) : Int) := by omega
  have q4 : (48 : Int) + (m : Int) / 10000 % 10 = 48 + (((1000000 + m) / 10 / 10 / 10 / 10 % 10 : Nat) : Int) := by omega
  have q5 : (48 : Int) + (m : Int) / 100000 % 10 = 48 + (((1000000 + m) / 10 / 10 / 10 / 10 / 10 % 10 : Nat) : Int) := by omega
  have q6 : (1000000 + m) / 10 / 10 / 10 / 10 / 10 / 10 = 1 := by omega
  unfold digs
  rw [q0, q1, q2, q3, q4, q5, hd, hd, hd, hd, hd, hd, q6]
  rfl
theorem splitK_no {l : List UInt8} {e : Int} (h : splitE l = e) (he : e ≠ 0) : splitK l = 0 := by simp [splitK, h, he]
theorem splitN_no {l : List UInt8} {e : Int} (h : splitE l = e) (he : e ≠ 0) : splitN l = 0 := by simp [splitN, h, he]
theorem splitK_yes {c0 : UInt8} {l : List UInt8} (h : splitE (c0 :: l) = 0) : splitK (c0 :: l) = c0.toNat := by simp [splitK, h]
theorem splitN_yes {l : List UInt8} (h : splitE l = 0) : splitN l = numL ((l.drop 1).take 6) := by simp [splitN, h]
end Go.Proofs.YtgonghmihghhnaaDoor.Id
