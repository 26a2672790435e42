/- custody: New and Add, walked. -/
import Derived.Test.YtgonghmihghhnaaDoorCu5
namespace Go.Proofs.YtgonghmihghhnaaDoor.Cu
open Go.RowKit Go.Proofs.YtgonghmihghhnaaDoor.Id Go.Maps

set_option maxHeartbeats 2000000 in
theorem New_any (w : World) : Calls Tryd.prog 11 #[] w fun e w' => ∃ b, e = .returned (.pointer (some ⟨b, 0, none⟩)) ∧ CReg w' (fun k => w.heap.size ≤ k) b [] ∧ Below w.heap.size w w' := by
  have hmm := @run_makeMap Tryd.prog
  go_enter Tryd.func11, Tryd.ntmps11
  go_wp2
  have e1 : (w.alloc (.map #[] 0)).heap.size = w.heap.size + 1 := by simp
  have hm2 := World.ownsMap_made (H := Unit) (w.alloc (.map #[] 0)) Tryd.prog 9 (plainElem Tryd.prog 3)
  rw [e1] at hm2
  have e2 : ((w.alloc (.map #[] 0)).alloc (.map #[] 0)).heap.size = w.heap.size + 1 + 1 := by simp
  have hb := heap_alloc_new ((w.alloc (.map #[] 0)).alloc (.map #[] 0)) (.cells #[.slice none 0 0, .map (some w.heap.size), .map (some (w.heap.size + 1))] 79)
  rw [e2] at hb
  go_ret
  exact ⟨_, rfl, ⟨.slice none 0 0, w.heap.size, w.heap.size + 1, .map [], .map [], hb, World.ownsRow_nil _ _ _ _, ((World.ownsMap_made w _ _ _).alloc _).alloc _, hm2.alloc _, IsAt.nil, IsUsed.nil, by omega, CInv.nil, by omega, Nat.le_refl _, by omega, fun k h => by simp [Value.ownBlock] at h⟩, bA (bA (bA (Below.refl _ _) _) _) _⟩
theorem CAdded.start {F : Nat → Prop} {b : Nat} {ls : List Lk} {w w1 w2 : World} (h : CAdded F b ls w1 w2) (hb : Below w.heap.size w w1) : CAdded F b ls w w2 := by
  obtain ⟨F', h1, h2, h3, h4⟩ := h
  have := hb.size
  exact ⟨F', h1, h2, fun k hk => by rcases h3 k hk with h | h; exact .inl h; exact .inr (by omega), (Keeps.of_below F hb).trans h4 (fun _ h => .inl h)⟩
theorem withH_cells (x : Lk) (h : Int) : (withH x h).val = .agg #[.string x.it, .string x.pa, .int .i64 x.t, .int .i64 x.vo, .string x.sp, .int .u64 h] := rfl
theorem Add_nil (a b c : ByteArray) (t v : Int) (w : World) : Calls Tryd.prog 13 #[.pointer none, .string a, .string b, .string c, .int .i64 t, .int .i64 v] w fun e w' => e = .returned (.tuple #[.int .u64 0, .int .i64 1]) ∧ Below w.heap.size w w' := by
  go_enter Tryd.func13, Tryd.ntmps13
  go_wp2
  go_ret2
  exact ⟨rfl, Below.refl _ _⟩
set_option maxHeartbeats 4000000 in
set_option maxRecDepth 100000 in
set_option linter.all false in
theorem Add_tight (b : Nat) (F : Nat → Prop) (ls : List Lk) (x : Lk) (hx0 : x.ha = 0) (w : World) (hR : CReg w F b ls) (hF : ∀ k, F k → k < w.heap.size) (htab : Tab w) (q1 : x.it.size ≤ 1000) (q2 : x.pa.size ≤ 1000) (q3 : x.sp.size ≤ 1000) :
    Calls Tryd.prog 13 #[.pointer (some ⟨b, 0, none⟩), .string x.it, .string x.pa, .string x.sp, .int .i64 x.t, .int .i64 x.vo] w fun e w' => e = .returned (.tuple #[.int .u64 (chkH ls x), .int .i64 (canE ls x)]) ∧ CAdded F b (addK ls x) w w' := by
  have HW := Lib.hid (bA (Below.refl w.heap.size w) (.cells #[.string x.it, .string x.pa, .int .i64 x.t, .int .i64 x.vo, .string x.sp, .int .u64 0] 36))
  have HR1 := Lib.hid (hR.below HW.out)
  have HT := Lib.hid (htab.on HW.out)
  have hxv : Hid (x.val = .agg #[.string x.it, .string x.pa, .int .i64 x.t, .int .i64 x.vo, .string x.sp, .int .u64 0]) := Lib.hid (by rw [Lk.val, hx0])
  have XR := Lib.hid (fun (W : World) (hW : Below (w.alloc (.cells #[.string x.it, .string x.pa, .int .i64 x.t, .int .i64 x.vo, .string x.sp, .int .u64 0] 36)).heap.size (w.alloc (.cells #[.string x.it, .string x.pa, .int .i64 x.t, .int .i64 x.vo, .string x.sp, .int .u64 0] 36)) W) => (hW.block w.heap.size (by simp)).trans (heap_alloc_new w (.cells #[.string x.it, .string x.pa, .int .i64 x.t, .int .i64 x.vo, .string x.sp, .int .u64 0] 36)))
  have hCK := check_any b F ls x (w.alloc (.cells #[.string x.it, .string x.pa, .int .i64 x.t, .int .i64 x.vo, .string x.sp, .int .u64 0] 36)) HR1.out HT.out q1 q2 q3
  rw [hxv.out] at hCK
  have HCK := Lib.hid hCK
  have HF := Lib.hid hF
  have HR := Lib.hid hR
  clear hCK hF hR htab hx0
  go_enter Tryd.func13, Tryd.ntmps13
  go_wp2_with fail
  refine HCK.out.mono ?_
  rintro e w2 ⟨rfl, b2⟩
  have B2 := Lib.hid (HW.out.trans (b2.mono HW.out.size))
  have X2 := Lib.hid (XR.out w2 b2)
  clear b2
  by_cases hc : canE ls x = 0
  · have HC := Lib.hid hc
    have hch : chkH ls x = afterH ls x := if_pos hc
    rw [hch, HC.out]
    clear hc hch
    obtain ⟨z0, z1, z2, z3, z4, z5, z6⟩ := cells6 X2.out
    have zf := z6 5
    go_upto_region 8 with fail
    have X3 := Lib.hid (heap_setCell_same w2 w.heap.size 5 _ _ (.int .u64 (afterH ls x)) X2.out)
    have B3 := Lib.hid (B2.out.setCell (p := ⟨w.heap.size, 5, none⟩) (Nat.le_refl _) (.int .u64 (afterH ls x)))
    have HR3 := Lib.hid (HR.out.below B3.out)
    clear z0 z1 z2 z3 z4 z5 z6 zf
    generalize w2.setCell ⟨w.heap.size, 5, none⟩ (.int .u64 (afterH ls x)) = w3 at X3 B3 HR3 ⊢
    have X3' : Hid (w3.heap[w.heap.size]? = some (.cells #[.string x.it, .string x.pa, .int .i64 x.t, .int .i64 x.vo, .string x.sp, .int .u64 (afterH ls x)] 36 (0, 0))) := X3
    obtain ⟨z0, z1, z2, z3, z4, z5, z6⟩ := cells6 X3'.out
    have hP := put_any b F ls (withH x (afterH ls x)) w3 HR3.out (canE_zero HC.out).2.1 (HR3.out.inv.add HC.out)
    rw [withH_cells] at hP
    have HP := Lib.hid hP
    clear hP
    go_wp2_with fail
    refine HP.out.mono ?_
    rintro e w4 ⟨rfl, hA⟩
    have HA := Lib.hid hA
    clear hA
    go_wp2_with fail
    go_ret2
    exact ⟨by rw [show chkH ls x = afterH ls x from if_pos HC.out, HC.out]; rfl, by rw [show addK ls x = ls ++ [withH x (afterH ls x)] from if_pos HC.out]; exact HA.out.start B3.out⟩
  · have hc' : (canE ls x != 0) = true := by simpa using hc
    have hce : Hid (chkH ls x = 0) := Lib.hid (if_neg hc)
    have hk : Hid (addK ls x = ls) := Lib.hid (if_neg hc)
    obtain ⟨cc, hcc⟩ : ∃ cc, Hid (canE ls x = cc) := ⟨_, rfl⟩
    rw [hce.out, hcc.out]
    rw [hcc.out] at hc'
    clear hc
    go_wp2_with fail
    go_ret2
    exact ⟨by rw [hce.out, hcc.out]; rfl, by rw [hk.out]; exact ⟨F, HR.out.below B2.out, fun _ h => h, fun _ h => .inl h, Keeps.of_below F B2.out⟩⟩
theorem Add_any (b : Nat) (F : Nat → Prop) (ls : List Lk) (x : Lk) (hx0 : x.ha = 0) (w : World) (hR : CReg w F b ls) (htab : Tab w) (q1 : x.it.size ≤ 1000) (q2 : x.pa.size ≤ 1000) (q3 : x.sp.size ≤ 1000) :
    Calls Tryd.prog 13 #[.pointer (some ⟨b, 0, none⟩), .string x.it, .string x.pa, .string x.sp, .int .i64 x.t, .int .i64 x.vo] w fun e w' => e = .returned (.tuple #[.int .u64 (chkH ls x), .int .i64 (canE ls x)]) ∧ CAdded F b (addK ls x) w w' := by
  obtain ⟨F0, h1, h2⟩ := hR.tight
  exact (Add_tight b F0 ls x hx0 w h1 (fun k hk => (h2 k hk).2) htab q1 q2 q3).mono fun _ _ h => ⟨h.1, h.2.wide (fun k hk => (h2 k hk).1)⟩
end Go.Proofs.YtgonghmihghhnaaDoor.Cu
