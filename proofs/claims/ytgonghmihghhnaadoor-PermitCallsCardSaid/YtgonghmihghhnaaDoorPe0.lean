/- Plain words on permits. No Go. -/
import Derived.Test.YtgonghmihghhnaaDoorMem
import Derived.Test.YtgonghmihghhnaaDoorIdC
import Derived.Test.YtgonghmihghhnaaDoorId0
namespace Go.Proofs.YtgonghmihghhnaaDoor.Pe

structure Perm where
  pid : ByteArray
  psp : ByteArray
  pfr : Int
  pun : Int
  pqu : Int
def Perm.cells (p : Perm) : List Value := [.string p.pid, .string p.psp, .int .i64 p.pfr, .int .i64 p.pun, .int .i64 p.pqu]
theorem cells_len (p : Perm) : p.cells.length = 5 := rfl
def pcells (ps : List Perm) : List Value := ps.flatMap Perm.cells
theorem pcells_len (ps : List Perm) : (pcells ps).length = ps.length * 5 := flat_len _ 5 cells_len ps
theorem pcells_at {ps : List Perm} {i : Nat} {p : Perm} (h : ps[i]? = some p) {j : Nat} (hj : j < 5) : (pcells ps)[i * 5 + j]? = p.cells[j]? := flat_at _ 5 cells_len ps i p h j hj
theorem str_eq {a b : ByteArray} : (a.toList == b.toList) = decide (a = b) := by
  rw [ByteArray.toList_eq, ByteArray.toList_eq, Bool.eq_iff_iff, beq_iff_eq, decide_eq_true_iff]
  constructor
  · intro h
    exact ByteArray.ext (Array.toList_inj.1 h)
  · intro h; rw [h]
def findFrom : Nat → List Perm → ByteArray → Int
  | _, [], _ => -1
  | i, p :: ps, id => if p.pid = id then i else findFrom (i + 1) ps id
def findI (ps : List Perm) (id : ByteArray) : Int := findFrom 0 ps id
theorem findFrom_hit (id : ByteArray) : ∀ (ps : List Perm) (i k : Nat) (p : Perm), ps[k]? = some p → (∀ (j : Nat) (q : Perm), j < k → ps[j]? = some q → q.pid ≠ id) → p.pid = id → findFrom i ps id = ((i + k : Nat) : Int)
  | [], _, _, _, h, _, _ => by simp at h
  | q :: ps, i, 0, p, h, _, e => by
    obtain rfl : q = p := by simpa using h
    rw [findFrom, if_pos e]; rfl
  | q :: ps, i, k + 1, p, h, hn, e => by
    rw [findFrom, if_neg (hn 0 q (by omega) rfl), findFrom_hit id ps (i + 1) k p (by simpa using h) (fun j r hj hr => hn (j + 1) r (by omega) (by simpa using hr)) e]
    omega
theorem findFrom_none (id : ByteArray) : ∀ (ps : List Perm) (i : Nat), (∀ (j : Nat) (q : Perm), ps[j]? = some q → q.pid ≠ id) → findFrom i ps id = -1
  | [], _, _ => rfl
  | q :: ps, i, hn => by
    rw [findFrom, if_neg (hn 0 q rfl), findFrom_none id ps (i + 1) (fun j r hr => hn (j + 1) r (by simpa using hr))]
theorem findI_hit {ps : List Perm} {id : ByteArray} {k : Nat} {p : Perm} (h : ps[k]? = some p) (hn : ∀ (j : Nat) (q : Perm), j < k → ps[j]? = some q → q.pid ≠ id) (e : p.pid = id) : findI ps id = k := by
  unfold findI; rw [findFrom_hit id ps 0 k p h hn e]; omega
theorem findI_none {ps : List Perm} {id : ByteArray} (hn : ∀ (j : Nat) (q : Perm), ps[j]? = some q → q.pid ≠ id) : findI ps id = -1 := findFrom_none id ps 0 hn
/-- an answer of findI: none, or the first place -/
theorem findFrom_cases (id : ByteArray) : ∀ (ps : List Perm) (i : Nat), (findFrom i ps id = -1 ∧ ∀ (j : Nat) (q : Perm), ps[j]? = some q → q.pid ≠ id) ∨ ∃ (k : Nat) (p : Perm), ps[k]? = some p ∧ findFrom i ps id = ((i + k : Nat) : Int) ∧ p.pid = id ∧ ∀ (j : Nat) (q : Perm), j < k → ps[j]? = some q → q.pid ≠ id
  | [], i => .inl ⟨rfl, fun j q h => by simp at h⟩
  | p :: ps, i => by
    by_cases e : p.pid = id
    · exact .inr ⟨0, p, rfl, by rw [findFrom, if_pos e]; rfl, e, fun j q h => by omega⟩
    · rcases findFrom_cases id ps (i + 1) with ⟨h1, h2⟩ | ⟨k, q, h1, h2, h3, h4⟩
      · refine .inl ⟨by rw [findFrom, if_neg e, h1], fun j q hq => ?_⟩
        match j, hq with
        | 0, hq => obtain rfl : p = q := by simpa using hq
                   exact e
        | j + 1, hq => exact h2 j q (by simpa using hq)
      · refine .inr ⟨k + 1, q, by simpa using h1, by rw [findFrom, if_neg e, h2]; omega, h3, fun j r hj hr => ?_⟩
        match j, hr with
        | 0, hr => obtain rfl : p = r := by simpa using hr
                   exact e
        | j + 1, hr => exact h4 j r (by omega) (by simpa using hr)
theorem findI_cases (ps : List Perm) (id : ByteArray) : (findI ps id = -1 ∧ ∀ (j : Nat) (q : Perm), ps[j]? = some q → q.pid ≠ id) ∨ ∃ (k : Nat) (p : Perm), ps[k]? = some p ∧ findI ps id = k ∧ p.pid = id ∧ ∀ (j : Nat) (q : Perm), j < k → ps[j]? = some q → q.pid ≠ id := by
  rcases findFrom_cases id ps 0 with h | ⟨k, p, h1, h2, h3, h4⟩
  · exact .inl h
  · exact .inr ⟨k, p, h1, by unfold findI; rw [h2]; omega, h3, h4⟩

/-! the state: permits, and what is left of each -/
def timeB (t : Int) : Bool := decide (0 ≤ t ∧ t ≤ 10000000)
def addE (ps : List Perm) (p : Perm) : Int :=
  if Id.isB p.pid.data.toList 80 = false ∨ Id.nameB p.psp.data.toList = false then 6
  else if 0 ≤ findI ps p.pid then 7
  else if p.pfr < 0 ∨ 10000000 < p.pun ∨ p.pun ≤ p.pfr then 15
  else if p.pqu < 1 ∨ 1125899906842624 < p.pqu then 9
  else if 16 ≤ ps.length then 12 else 0
def addP (ps : List Perm) (p : Perm) : List Perm := if addE ps p = 0 then ps ++ [p] else ps
def addL (ps : List Perm) (ls : List Int) (p : Perm) : List Int := if addE ps p = 0 then ls ++ [p.pqu] else ls
def fellE (ps : List Perm) (s sp : ByteArray) (at_ : Int) : Int :=
  if findI ps s < 0 then 8 else
  match ps[(findI ps s).toNat]? with
  | some p => if p.psp ≠ sp then 24 else if at_ < p.pfr ∨ p.pun ≤ at_ then 15 else 0
  | none => 8
def leftN (ps : List Perm) (ls : List Int) (s : ByteArray) : Int := if findI ps s < 0 then 0 else ls.getD (findI ps s).toNat 0
def leftB (ps : List Perm) (s : ByteArray) : Bool := decide (0 ≤ findI ps s)
def useE (ps : List Perm) (ls : List Int) (s : ByteArray) (v : Int) : Int :=
  if findI ps s < 0 then 8 else if v < 1 ∨ 1125899906842624 < v then 9 else if ls.getD (findI ps s).toNat 0 < v then 23 else 0
def useL (ps : List Perm) (ls : List Int) (s : ByteArray) (v : Int) : List Int := if useE ps ls s v = 0 then ls.set (findI ps s).toNat (ls.getD (findI ps s).toNat 0 - v) else ls
/-- what was used of each, as the program keeps it -/
def ucells (ps : List Perm) (ls : List Int) : List Value := List.zipWith (fun p l => Value.int .i64 (p.pqu - l)) ps ls
theorem ucells_len {ps : List Perm} {ls : List Int} (h : ls.length = ps.length) : (ucells ps ls).length = ps.length := by simp [ucells, h]
theorem ucells_at {ps : List Perm} {ls : List Int} {i : Nat} {p : Perm} {l : Int} (hp : ps[i]? = some p) (hl : ls[i]? = some l) : (ucells ps ls)[i]? = some (.int .i64 (p.pqu - l)) := by
  simp [ucells, List.getElem?_zipWith, hp, hl]
theorem ucells_snoc {ps : List Perm} {ls : List Int} (h : ls.length = ps.length) (p : Perm) : ucells (ps ++ [p]) (ls ++ [p.pqu]) = ucells ps ls ++ [.int .i64 0] := by
  unfold ucells
  rw [List.zipWith_append (by omega)]
  simp
theorem ucells_set {ps : List Perm} {ls : List Int} (i : Nat) (p : Perm) (hp : ps[i]? = some p) (x : Int) : ucells ps (ls.set i x) = (ucells ps ls).set i (.int .i64 (p.pqu - x)) := by
  unfold ucells
  apply List.ext_getElem?
  intro j
  rw [List.getElem?_zipWith, List.getElem?_set, List.getElem?_set, List.getElem?_zipWith]
  by_cases e : i = j
  · subst e
    by_cases hl : i < ls.length
    · have hpl := (List.getElem?_eq_some_iff.1 hp).1
      rw [if_pos rfl, if_pos rfl, if_pos hl, hp, if_pos (by rw [List.length_zipWith]; omega)]
    · rw [if_pos rfl, if_pos rfl, if_neg hl, if_neg (by rw [List.length_zipWith]; omega), hp]
  · rw [if_neg e, if_neg e]
/-- the bounds that hold of every register -/
def Inv (ps : List Perm) (ls : List Int) : Prop := ls.length = ps.length ∧ ps.length ≤ 16 ∧ ∀ (i : Nat) (p : Perm) (l : Int), ps[i]? = some p → ls[i]? = some l → 0 ≤ l ∧ l ≤ p.pqu ∧ p.pqu ≤ 1125899906842624
theorem Inv.nil : Inv [] [] := ⟨rfl, by simp, fun i p l h => by simp at h⟩
theorem Inv.left {ps : List Perm} {ls : List Int} (h : Inv ps ls) {i : Nat} {p : Perm} (hp : ps[i]? = some p) : ∃ l, ls[i]? = some l ∧ 0 ≤ l ∧ l ≤ p.pqu ∧ p.pqu ≤ 1125899906842624 := by
  have hi := (List.getElem?_eq_some_iff.1 hp).1
  have hl : ls[i]? = some (ls[i]'(by rw [h.1]; exact hi)) := List.getElem?_eq_getElem (by rw [h.1]; exact hi)
  exact ⟨_, hl, h.2.2 i p _ hp hl⟩
theorem Inv.add {ps : List Perm} {ls : List Int} (h : Inv ps ls) (p : Perm) : Inv (addP ps p) (addL ps ls p) := by
  unfold addP addL
  by_cases e : addE ps p = 0
  · rw [if_pos e, if_pos e]
    have hq : 1 ≤ p.pqu ∧ p.pqu ≤ 1125899906842624 ∧ ps.length < 16 := by
      unfold addE at e
      split at e
      · omega
      split at e
      · omega
      split at e
      · omega
      split at e
      · omega
      split at e
      · omega
      omega
    refine ⟨by simp [h.1], by simp; omega, fun i q l hq' hl => ?_⟩
    by_cases hi : i < ps.length
    · rw [List.getElem?_append_left hi] at hq'
      rw [List.getElem?_append_left (by rw [h.1]; exact hi)] at hl
      exact h.2.2 i q l hq' hl
    · have hi' : i = ps.length := by
        have := (List.getElem?_eq_some_iff.1 hq').1
        simp at this; omega
      subst hi'
      rw [List.getElem?_append_right (Nat.le_refl _)] at hq'
      rw [List.getElem?_append_right (by rw [h.1]; exact Nat.le_refl _)] at hl
      simp at hq'
      rw [h.1] at hl
      simp at hl
      subst hq' hl
      omega
  · rw [if_neg e, if_neg e]; exact h
theorem Inv.use {ps : List Perm} {ls : List Int} (h : Inv ps ls) (s : ByteArray) (v : Int) : Inv ps (useL ps ls s v) := by
  unfold useL
  by_cases e : useE ps ls s v = 0
  · rw [if_pos e]
    refine ⟨by simp [h.1], h.2.1, fun i p l hp hl => ?_⟩
    obtain ⟨l0, hl0, b⟩ := h.left hp
    rw [List.getElem?_set] at hl
    split at hl
    · rename_i ei
      split at hl
      · obtain rfl := Option.some.inj hl
        have hv : 1 ≤ v ∧ v ≤ ls.getD (findI ps s).toNat 0 := by
          unfold useE at e
          split at e
          · omega
          split at e
          · omega
          split at e
          · omega
          omega
        have : ls.getD (findI ps s).toNat 0 = l0 := by rw [ei, List.getD_eq_getElem?_getD, hl0]; rfl
        omega
      · simp at hl
    · exact h.2.2 i p l hp hl
  · rw [if_neg e]; exact h
end Go.Proofs.YtgonghmihghhnaaDoor.Pe
