/- custody: small, few; the register that is played, walked. -/
import Derived.Test.YtmgegffcgmcclaaDoorCl1
namespace Go.Proofs.YtmgegffcgmcclaaDoor.Cu
open Go.RowKit Go.Proofs.YtmgegffcgmcclaaDoor.Id Go.Maps

def okC (o : COp) : Prop := o.it.size ≤ 100 ∧ o.pa.size ≤ 100 ∧ o.sp.size ≤ 100
def okK (o : Lk) : Prop := o.it.size ≤ 100 ∧ o.pa.size ≤ 100 ∧ o.sp.size ≤ 100
def regL (os : List COp) : List Lk := os.foldl (fun ls o => addK ls o.lk) []
theorem regL_succ {os : List COp} {k : Nat} {o : COp} (h : os[k]? = some o) : regL (os.take (k + 1)) = addK (regL (os.take k)) o.lk := by
  unfold regL
  rw [List.take_add_one, h]
  simp
set_option maxHeartbeats 2000000 in
set_option maxRecDepth 100000 in
set_option linter.all false in
theorem small_any (v : Value) (os : List COp) (w : World) (hs : SliceIs w 5 v os.length (opcells os)) :
    Calls Tryd.prog 11 #[v] w fun e w' => ∃ b : Bool, e = .returned (.bool b) ∧ Below w.heap.size w w' ∧ (b = true → os.length ≤ 120 ∧ ∀ (i : Nat) (o : COp), os[i]? = some o → okC o) := by
  rcases hs.2.2 with ⟨h0, A, c, rfl⟩ | ⟨g, off, c, rfl, hc, hg, hx⟩
  · have hE := Lib.hid h0
    rw [h0]
    clear hs h0
    go_enter Tryd.func11, Tryd.ntmps11
    go_wp2
    refine wp_loop_rounds 1 ?_
    rw [rounds_succ]
    go_wp2
    go_ret
    refine ⟨true, rfl, Below.refl _ _, fun _ => ⟨by omega, fun i o h => ?_⟩⟩
    rw [List.eq_nil_of_length_eq_zero hE.out] at h
    simp at h
  · have hl := hs.2.1
    have hX := Lib.hid hx
    clear hs hx
    by_cases h60 : os.length ≤ 120
    · have h60' : decide ((120 : Int) < os.length) = false := by simp; omega
      go_enter Tryd.func11, Tryd.ntmps11
      go_wp2
      go_loopw [3] (fun i wr => ∃ k : Nat, k ≤ os.length ∧ i = .int .i64 k ∧ w = wr ∧ Hid (∀ (j : Nat) (o : COp), j < k → os[j]? = some o → okC o)) (fun i _ => os.length - (intOf i).toNat)
      case atStart => exact ⟨0, Nat.zero_le _, rfl, rfl, fun j q hj => by omega⟩
      case round =>
        obtain ⟨k, hk, rfl, rfl, HN⟩ := hrel
        by_cases hlt : k < os.length
        · obtain ⟨o, ho⟩ : ∃ o, os[k]? = some o := ⟨_, List.getElem?_eq_getElem hlt⟩
          have d0 : w.cell? ⟨g, off + k * 5 + 0, none⟩ = some (.string o.it) := hX.out (k * 5 + 0) _ (opcells_at ho (j := 0) (by omega))
          have d1 : w.cell? ⟨g, off + k * 5 + 1, none⟩ = some (.string o.pa) := hX.out (k * 5 + 1) _ (opcells_at ho (j := 1) (by omega))
          have d2 : w.cell? ⟨g, off + k * 5 + 2, none⟩ = some (.string o.sp) := hX.out (k * 5 + 2) _ (opcells_at ho (j := 2) (by omega))
          rw [show off + k * 5 + 0 = off + k * 5 from rfl] at d0
          have HO := Lib.hid ho
          clear ho
          by_cases c1 : o.it.size ≤ 100
          · have c1' : decide ((100 : Int) < o.it.size) = false := by simp; omega
            by_cases c2 : o.pa.size ≤ 100
            · have c2' : decide ((100 : Int) < o.pa.size) = false := by simp; omega
              by_cases c3 : o.sp.size ≤ 100
              · have c3' : decide ((100 : Int) < o.sp.size) = false := by simp; omega
                have HN' : Hid (∀ (j : Nat) (q : COp), j < k + 1 → os[j]? = some q → okC q) := fun j q hj hq => by
                  by_cases e : j = k
                  · subst e
                    rw [HO.out] at hq
                    obtain rfl := Option.some.inj hq
                    exact ⟨c1, c2, c3⟩
                  · exact HN.out j q (by omega) hq
                clear c1 c2 c3
                go_wp2
                go_roundw
                case rel => exact ⟨k + 1, by omega, by go_num, trivial, HN'⟩
                case measure => simp [intOf]; omega
              · have c3' : decide ((100 : Int) < o.sp.size) = true := by simp; omega
                clear c1 c2 c3
                go_wp2
                go_ret
                exact ⟨false, rfl, Below.refl _ _, fun h => nomatch h⟩
            · have c2' : decide ((100 : Int) < o.pa.size) = true := by simp; omega
              clear c1 c2
              go_wp2
              go_ret
              exact ⟨false, rfl, Below.refl _ _, fun h => nomatch h⟩
          · have c1' : decide ((100 : Int) < o.it.size) = true := by simp; omega
            clear c1
            go_wp2
            go_ret
            exact ⟨false, rfl, Below.refl _ _, fun h => nomatch h⟩
        · obtain rfl : k = os.length := by omega
          go_wp2
          go_ret
          exact ⟨true, rfl, Below.refl _ _, fun _ => ⟨h60, fun i o h => HN.out i o (List.getElem?_eq_some_iff.1 h).1 h⟩⟩
    · have h60' : decide ((120 : Int) < os.length) = true := by simp; omega
      go_enter Tryd.func11, Tryd.ntmps11
      go_wp2
      go_ret
      exact ⟨false, rfl, Below.refl _ _, fun h => nomatch h⟩
set_option maxHeartbeats 2000000 in
set_option maxRecDepth 100000 in
set_option linter.all false in
theorem few_any (v : Value) (os : List Lk) (w : World) (hs : SliceIs w 6 v os.length (kcells os)) :
    Calls Tryd.prog 18 #[v] w fun e w' => ∃ b : Bool, e = .returned (.bool b) ∧ Below w.heap.size w w' ∧ (b = true → os.length ≤ 120 ∧ ∀ (i : Nat) (o : Lk), os[i]? = some o → okK o) := by
  rcases hs.2.2 with ⟨h0, A, c, rfl⟩ | ⟨g, off, c, rfl, hc, hg, hx⟩
  · have hE := Lib.hid h0
    rw [h0]
    clear hs h0
    go_enter Tryd.func18, Tryd.ntmps18
    go_wp2
    refine wp_loop_rounds 1 ?_
    rw [rounds_succ]
    go_wp2
    go_ret
    refine ⟨true, rfl, Below.refl _ _, fun _ => ⟨by omega, fun i o h => ?_⟩⟩
    rw [List.eq_nil_of_length_eq_zero hE.out] at h
    simp at h
  · have hl := hs.2.1
    have hX := Lib.hid hx
    clear hs hx
    by_cases h60 : os.length ≤ 120
    · have h60' : decide ((120 : Int) < os.length) = false := by simp; omega
      go_enter Tryd.func18, Tryd.ntmps18
      go_wp2
      go_loopw [3] (fun i wr => ∃ k : Nat, k ≤ os.length ∧ i = .int .i64 k ∧ w = wr ∧ Hid (∀ (j : Nat) (o : Lk), j < k → os[j]? = some o → okK o)) (fun i _ => os.length - (intOf i).toNat)
      case atStart => exact ⟨0, Nat.zero_le _, rfl, rfl, fun j q hj => by omega⟩
      case round =>
        obtain ⟨k, hk, rfl, rfl, HN⟩ := hrel
        by_cases hlt : k < os.length
        · obtain ⟨o, ho⟩ : ∃ o, os[k]? = some o := ⟨_, List.getElem?_eq_getElem hlt⟩
          have d0 : w.cell? ⟨g, off + k * 6 + 0, none⟩ = some (.string o.it) := hX.out (k * 6 + 0) _ (kcells_at ho (j := 0) (by omega))
          have d1 : w.cell? ⟨g, off + k * 6 + 1, none⟩ = some (.string o.pa) := hX.out (k * 6 + 1) _ (kcells_at ho (j := 1) (by omega))
          have d2 : w.cell? ⟨g, off + k * 6 + 4, none⟩ = some (.string o.sp) := hX.out (k * 6 + 4) _ (kcells_at ho (j := 4) (by omega))
          rw [show off + k * 6 + 0 = off + k * 6 from rfl] at d0
          have HO := Lib.hid ho
          clear ho
          by_cases c1 : o.it.size ≤ 100
          · have c1' : decide ((100 : Int) < o.it.size) = false := by simp; omega
            by_cases c2 : o.pa.size ≤ 100
            · have c2' : decide ((100 : Int) < o.pa.size) = false := by simp; omega
              by_cases c3 : o.sp.size ≤ 100
              · have c3' : decide ((100 : Int) < o.sp.size) = false := by simp; omega
                have HN' : Hid (∀ (j : Nat) (q : Lk), j < k + 1 → os[j]? = some q → okK q) := fun j q hj hq => by
                  by_cases e : j = k
                  · subst e
                    rw [HO.out] at hq
                    obtain rfl := Option.some.inj hq
                    exact ⟨c1, c2, c3⟩
                  · exact HN.out j q (by omega) hq
                clear c1 c2 c3
                go_wp2
                go_roundw
                case rel => exact ⟨k + 1, by omega, by go_num, trivial, HN'⟩
                case measure => simp [intOf]; omega
              · have c3' : decide ((100 : Int) < o.sp.size) = true := by simp; omega
                clear c1 c2 c3
                go_wp2
                go_ret
                exact ⟨false, rfl, Below.refl _ _, fun h => nomatch h⟩
            · have c2' : decide ((100 : Int) < o.pa.size) = true := by simp; omega
              clear c1 c2
              go_wp2
              go_ret
              exact ⟨false, rfl, Below.refl _ _, fun h => nomatch h⟩
          · have c1' : decide ((100 : Int) < o.it.size) = true := by simp; omega
            clear c1
            go_wp2
            go_ret
            exact ⟨false, rfl, Below.refl _ _, fun h => nomatch h⟩
        · obtain rfl : k = os.length := by omega
          go_wp2
          go_ret
          exact ⟨true, rfl, Below.refl _ _, fun _ => ⟨h60, fun i o h => HN.out i o (List.getElem?_eq_some_iff.1 h).1 h⟩⟩
    · have h60' : decide ((120 : Int) < os.length) = true := by simp; omega
      go_enter Tryd.func18, Tryd.ntmps18
      go_wp2
      go_ret
      exact ⟨false, rfl, Below.refl _ _, fun h => nomatch h⟩

set_option maxHeartbeats 8000000 in
set_option maxRecDepth 100000 in
set_option linter.all false in
theorem register_any (v : Value) (os : List COp) (w : World) (htab : Tab w) (hs : SliceIs w 5 v os.length (opcells os)) (hok : ∀ (i : Nat) (o : COp), os[i]? = some o → okC o) :
    Calls Tryd.prog 21 #[v] w fun e w' => ∃ b, e = .returned (.pointer (some ⟨b, 0, none⟩)) ∧ CLive w w' b (regL os) := by
  have HT := Lib.hid htab
  have HS := Lib.hid hs
  have HOK := Lib.hid hok
  have hl := hs.2.1
  obtain ⟨A, c, rfl⟩ := slice_shape hs
  clear hs htab hok
  go_enter Tryd.func21, Tryd.ntmps21
  go_wp2_with fail
  refine (New_live w).mono ?_
  rintro e w1 ⟨b, rfl, hL⟩
  have HL : Hid (CLive w w1 b (regL (os.take 0))) := hL
  clear hL
  have hll : ∀ W, (Builtin.len_ #[22] 3 #[.slice A os.length c]).run Tryd.prog W = .ok (.int .i64 os.length) W := fun W => by simp [Builtin.len_, run_underlying undOps]; rfl
  go_wp2_with fail
  go_loopw [4] (fun i wr => ∃ k : Nat, k ≤ os.length ∧ i = .int .i64 k ∧ Hid (CLive w wr b (regL (os.take k)))) (fun i _ => os.length - (intOf i).toNat)
  case atStart => exact ⟨0, Nat.zero_le _, rfl, HL⟩
  case round =>
    obtain ⟨k, hk, rfl, HK⟩ := hrel
    by_cases hlt : k < os.length
    · obtain ⟨o, ho⟩ : ∃ o, os[k]? = some o := ⟨_, List.getElem?_eq_getElem hlt⟩
      obtain ⟨g, off, rfl, hc, hg, hcx⟩ := slice_addr HS.out (by omega)
      have HC := Lib.hid (fun (W : World) (hW : Below w.heap.size w W) =>
        have d := fun (j : Nat) (u : Value) (h : (opcells os)[j]? = some u) => (hW.cell (p := ⟨g, off + j, none⟩) hg).trans (hcx j u h)
        And.intro (show W.cell? ⟨g, off + k * 5, none⟩ = some (.string o.it) from d (k * 5) _ (opcells_at ho (j := 0) (by omega))) (And.intro (show W.cell? ⟨g, off + k * 5 + 1, none⟩ = some (.string o.pa) from d (k * 5 + 1) _ (opcells_at ho (j := 1) (by omega))) (And.intro (show W.cell? ⟨g, off + k * 5 + 2, none⟩ = some (.string o.sp) from d (k * 5 + 2) _ (opcells_at ho (j := 2) (by omega))) (And.intro (show W.cell? ⟨g, off + k * 5 + 3, none⟩ = some (.int .i64 o.t) from d (k * 5 + 3) _ (opcells_at ho (j := 3) (by omega))) (show W.cell? ⟨g, off + k * 5 + 4, none⟩ = some (.int .i64 o.vo) from d (k * 5 + 4) _ (opcells_at ho (j := 4) (by omega)))))))
      obtain ⟨s1, s2, s3⟩ := HOK.out k o ho
      have HN := Lib.hid (regL_succ ho)
      have HKd := Lib.hid (HK.out.below (bd (Below.refl _ _)))
      have HAD := Lib.hid (HKd.out.add o.lk rfl (HT.out.on HKd.out.wb) (show o.it.size ≤ 1000 by omega) (show o.pa.size ≤ 1000 by omega) (show o.sp.size ≤ 1000 by omega))
      clear ho hcx s1 s2 s3
      go_wp2_with fail
      go_region_held3 (fun w' => w'.cell? ⟨g, off + k * 5, none⟩ = some (.string o.it) ∧ w'.cell? ⟨g, off + k * 5 + 1, none⟩ = some (.string o.pa) ∧ w'.cell? ⟨g, off + k * 5 + 2, none⟩ = some (.string o.sp) ∧ w'.cell? ⟨g, off + k * 5 + 3, none⟩ = some (.int .i64 o.t) ∧ w'.cell? ⟨g, off + k * 5 + 4, none⟩ = some (.int .i64 o.vo)) (first | exact HC.out _ HK4.out.wb | exact HC.out _ HKd.out.wb)
        (first
          | (go_at_call 14; refine HAD.out.mono ?_; rintro e w4 ⟨rfl, hL⟩; have HK4 := Lib.hid hL; clear hL))
      have HK5 : Hid (CLive w w4 b (regL (os.take (k + 1)))) := by unfold Hid; rw [HN.out]; exact HK4.out
      go_wp2_with fail
      go_roundw
      case rel => exact ⟨k + 1, by omega, by go_num, HK5⟩
      case measure => simp [intOf]; omega
    · obtain rfl : k = os.length := by omega
      have HK5 : Hid (CLive w wr b (regL os)) := by unfold Hid; rw [← List.take_length (l := os)]; exact HK.out
      go_wp2_with fail
      go_ret
      exact ⟨b, rfl, HK5.out⟩
end Go.Proofs.YtmgegffcgmcclaaDoor.Cu
