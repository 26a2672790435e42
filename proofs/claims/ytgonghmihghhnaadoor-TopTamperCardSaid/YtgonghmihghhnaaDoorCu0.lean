/- custody: links, plain. No program. -/
import Derived.Test.YtgonghmihghhnaaDoorMem
import Derived.Test.YtgonghmihghhnaaDoorIdD
namespace Go.Proofs.YtgonghmihghhnaaDoor.Cu
open Go.RowKit Go.Proofs.YtgonghmihghhnaaDoor.Id

structure Lk where
  it : ByteArray
  pa : ByteArray
  t : Int
  vo : Int
  sp : ByteArray
  ha : Int
def Lk.cells (x : Lk) : List Value := [.string x.it, .string x.pa, .int .i64 x.t, .int .i64 x.vo, .string x.sp, .int .u64 x.ha]
def Lk.val (x : Lk) : Value := .agg #[.string x.it, .string x.pa, .int .i64 x.t, .int .i64 x.vo, .string x.sp, .int .u64 x.ha]
theorem cells_len (x : Lk) : x.cells.length = 6 := rfl
def kcells (ls : List Lk) : List Value := ls.flatMap Lk.cells
theorem kcells_len (ls : List Lk) : (kcells ls).length = ls.length * 6 := flat_len _ 6 cells_len ls
theorem kcells_at {ls : List Lk} {i : Nat} {x : Lk} (h : ls[i]? = some x) {j : Nat} (hj : j < 6) : (kcells ls)[i * 6 + j]? = x.cells[j]? := flat_at _ 6 cells_len ls i x h j hj
theorem kcells_snoc (ls : List Lk) (x : Lk) : kcells (ls ++ [x]) = kcells ls ++ x.cells := by simp [kcells]
theorem lk_one (x : Lk) : ∀ u ∈ x.cells, u.oneCell' = true := by intro u hu; simp [Lk.cells] at hu; rcases hu with rfl | rfl | rfl | rfl | rfl | rfl <;> rfl
theorem kcells_one (ls : List Lk) : ∀ u ∈ kcells ls, u.oneCell' = true := by
  intro u hu
  obtain ⟨p, _, h⟩ := List.mem_flatMap.1 hu
  exact lk_one p u h

/-! where the link of an item stands; the volume of an item's children -/
def atFrom : Nat → List Lk → ByteArray → Int
  | _, [], _ => -1
  | i, x :: r, s => if x.it = s then (i : Int) else atFrom (i + 1) r s
def atI (ls : List Lk) (s : ByteArray) : Int := atFrom 0 ls s
theorem atFrom_cases (s : ByteArray) : ∀ (ls : List Lk) (i : Nat), (atFrom i ls s = -1 ∧ ∀ (j : Nat) (q : Lk), ls[j]? = some q → q.it ≠ s) ∨ ∃ (k : Nat) (p : Lk), ls[k]? = some p ∧ atFrom i ls s = ((i + k : Nat) : Int) ∧ p.it = s ∧ ∀ (j : Nat) (q : Lk), j < k → ls[j]? = some q → q.it ≠ s
  | [], i => .inl ⟨rfl, fun j q h => by simp at h⟩
  | x :: r, i => by
    by_cases hx : x.it = s
    · exact .inr ⟨0, x, rfl, by simp [atFrom, hx], hx, fun j q h => by omega⟩
    · rcases atFrom_cases s r (i + 1) with ⟨h1, h2⟩ | ⟨k, p, h1, h2, h3, h4⟩
      · refine .inl ⟨by simp [atFrom, hx, h1], fun j q h => ?_⟩
        cases j with
        | zero => obtain rfl : x = q := by simpa using h
                  exact hx
        | succ j => exact h2 j q (by simpa using h)
      · refine .inr ⟨k + 1, p, by simpa using h1, by simp only [atFrom, if_neg hx, h2]; omega, h3, fun j q hj h => ?_⟩
        cases j with
        | zero => obtain rfl : x = q := by simpa using h
                  exact hx
        | succ j => exact h4 j q (by omega) (by simpa using h)
theorem atI_cases (ls : List Lk) (s : ByteArray) : (atI ls s = -1 ∧ ∀ (j : Nat) (q : Lk), ls[j]? = some q → q.it ≠ s) ∨ ∃ (k : Nat) (p : Lk), ls[k]? = some p ∧ atI ls s = k ∧ p.it = s ∧ ∀ (j : Nat) (q : Lk), j < k → ls[j]? = some q → q.it ≠ s := by
  rcases atFrom_cases s ls 0 with h | ⟨k, p, h1, h2, h3, h4⟩
  · exact .inl h
  · exact .inr ⟨k, p, h1, by unfold atI; rw [h2]; omega, h3, h4⟩
theorem atI_hit {ls : List Lk} {s : ByteArray} {k : Nat} {p : Lk} (h : ls[k]? = some p) (hn : ∀ (j : Nat) (q : Lk), j < k → ls[j]? = some q → q.it ≠ s) (e : p.it = s) : atI ls s = k := by
  rcases atI_cases ls s with ⟨_, h2⟩ | ⟨m, q, h1, h2, h3, h4⟩
  · exact absurd e (h2 k p h)
  · have : m = k := by
      rcases Nat.lt_trichotomy m k with hlt | hlt | hlt
      · exact absurd h3 (hn m q hlt h1)
      · exact hlt
      · exact absurd e (h4 k p hlt h)
    rw [h2, this]
theorem atI_none {ls : List Lk} {s : ByteArray} (hn : ∀ (j : Nat) (q : Lk), ls[j]? = some q → q.it ≠ s) : atI ls s = -1 := by
  rcases atI_cases ls s with ⟨h, _⟩ | ⟨m, q, h1, _, h3, _⟩
  · exact h
  · exact absurd h3 (hn m q h1)
theorem atI_range (ls : List Lk) (s : ByteArray) : -1 ≤ atI ls s ∧ atI ls s < ls.length := by
  rcases atI_cases ls s with ⟨h, _⟩ | ⟨k, p, h1, h, _⟩
  · rw [h]; omega
  · have := (List.getElem?_eq_some_iff.1 h1).1
    rw [h]; omega
theorem atI_snoc (ls : List Lk) (x : Lk) (s : ByteArray) (h : atI ls x.it < 0) : atI (ls ++ [x]) s = if x.it = s then (ls.length : Int) else atI ls s := by
  by_cases e : x.it = s
  · rw [if_pos e]
    subst e
    rcases atI_cases ls x.it with ⟨_, h2⟩ | ⟨k, _, _, h2, _⟩
    · refine atI_hit (p := x) (by simp) (fun j q hj hq => ?_) rfl
      rw [List.getElem?_append_left hj] at hq
      exact h2 j q hq
    · omega
  · rw [if_neg e]
    rcases atI_cases ls s with ⟨h1, h2⟩ | ⟨k, p, h1, h2, h3, h4⟩
    · rw [h1]
      refine atI_none (fun j q hq => ?_)
      rw [List.getElem?_append] at hq
      split at hq
      · exact h2 j q hq
      · rw [List.getElem?_singleton] at hq
        split at hq
        · obtain rfl : x = q := by simpa using hq
          exact e
        · simp at hq
    · have hk := (List.getElem?_eq_some_iff.1 h1).1
      rw [h2]
      refine atI_hit (p := p) (by rw [List.getElem?_append_left hk]; exact h1) (fun j q hj hq => ?_) h3
      rw [List.getElem?_append_left (by omega)] at hq
      exact h4 j q hj hq
def volS (ls : List Lk) (s : ByteArray) : Int := (ls.map (fun x => if x.pa = s then x.vo else 0)).sum
theorem volS_nil (s : ByteArray) : volS [] s = 0 := rfl
theorem volS_snoc (ls : List Lk) (x : Lk) (s : ByteArray) : volS (ls ++ [x]) s = volS ls s + if x.pa = s then x.vo else 0 := by simp [volS]

/-! the hash -/
def fstep (h : Int) (c : UInt8) : Int := IntKind.u64.wrap (bits .xor .u64 h c.toNat * 1099511628211)
def fnv (h : Int) (l : List UInt8) : Int := l.foldl fstep h
def be8 (n : Int) : List UInt8 := [72057594037927936, 281474976710656, 1099511627776, 4294967296, 16777216, 65536, 256, 1].map (fun d : Int => UInt8.ofNat ((n / d).toNat % 256))
def chainH (prev : Int) (l : List UInt8) : Int := fnv (fnv 14695981039346656037 (be8 prev)) l
def textL (x : Lk) : List UInt8 := x.it.data.toList ++ 32 :: (x.pa.data.toList ++ 32 :: (x.sp.data.toList ++ 32 :: (Lib.itoa x.t ++ 32 :: Lib.itoa x.vo)))
def hashL (prev : Int) (x : Lk) : Int := chainH prev (textL x)

/-! what can be added -/
def emptyB : ByteArray := ⟨#[]⟩
/-- the parent of a link: the link's own species alone, if it has none -/
def upO (ls : List Lk) (x : Lk) : Option Lk := if x.pa = emptyB then some ⟨emptyB, emptyB, 0, 0, x.sp, 0⟩ else if atI ls x.pa < 0 then none else ls[(atI ls x.pa).toNat]?
def nameOk (x : Lk) : Bool := decide (splitE x.it.data.toList = 0) && (decide (splitK x.it.data.toList = 80) == decide (x.pa = emptyB))
def canU (ls : List Lk) (x u : Lk) : Int :=
  if x.t < u.t ∨ x.t < 0 ∨ 10000000 < x.t then 15
  else if nameB x.sp.data.toList = false ∨ x.sp ≠ u.sp then 24
  else if x.vo < 0 ∨ 1125899906842624 < x.vo then 9
  else if x.pa ≠ emptyB ∧ u.vo < volS ls x.pa + x.vo then 23
  else if 1024 ≤ ls.length then 12 else 0
def canE (ls : List Lk) (x : Lk) : Int :=
  if nameOk x = false then 6
  else if 0 ≤ atI ls x.it then 7
  else match upO ls x with
    | none => 8
    | some u => canU ls x u
def upH (ls : List Lk) (x : Lk) : Int := match upO ls x with | none => 0 | some u => u.ha
def afterH (ls : List Lk) (x : Lk) : Int := hashL (upH ls x) x
def withH (x : Lk) (h : Int) : Lk := { x with ha := h }
def addK (ls : List Lk) (x : Lk) : List Lk := if canE ls x = 0 then ls ++ [withH x (afterH ls x)] else ls
end Go.Proofs.YtgonghmihghhnaaDoor.Cu
