/- the law TopTamper, walked. -/
import Derived.Test.YtgonghmihghhnaaDoorTt3
namespace Go.Proofs.YtgonghmihghhnaaDoor.Cu
open Go.RowKit Go.Proofs.YtgonghmihghhnaaDoor.Id Go.Maps

/-- a register of links that were added -/
def GLive (w W : World) (b : Nat) : Prop := ∃ ls, CLive w W b ls ∧ Good ls
set_option maxHeartbeats 16000000 in
set_option maxRecDepth 100000 in
set_option linter.all false in
theorem TopTamper_any (v : Value) (os : List Claim) (a f : Int) (w : World) (htab : Tab w) (hs : SliceIs w 6 v os.length (ccells os)) (ha0 : 0 ≤ a) (ha1 : a < 256) (hf0 : 0 ≤ f) (hf1 : f < 256) :
    Calls Tryd.prog 3 #[v, .int .u8 a, .int .u8 f] w fun e w' => e = .returned (.bool true) ∧ Below w.heap.size w w' := by
  have HT := Lib.hid htab
  have HS := Lib.hid hs
  have hl := hs.2.1
  obtain ⟨A, c, rfl⟩ := slice_shape hs
  have hll : ∀ W, (Builtin.len_ #[22] 3 #[.slice A os.length c]).run Tryd.prog W = .ok (.int .i64 os.length) W := fun W => by simp [Builtin.len_, run_underlying Top.undCls]; rfl
  clear hs htab
  by_cases h40 : os.length ≤ 40
  case neg =>
    have h40' : decide ((40 : Int) < os.length) = true := by simp; omega
    go_enter Tryd.func3, Tryd.ntmps3
    go_wp2_with fail
    refine (custodyAwake_any _ HT.out).mono ?_
    rintro e w1 ⟨rfl, b1⟩
    go_wp2_with fail
    go_ret
    exact ⟨rfl, b1⟩
  have h40' : decide ((40 : Int) < os.length) = false := by simp; omega
  go_enter Tryd.func3, Tryd.ntmps3
  go_wp2_with fail
  refine (New_live w).mono ?_
  rintro e w1 ⟨b, rfl, hL⟩
  have HG0 : Hid (GLive w w1 b) := Lib.hid ⟨[], hL, Good.nil⟩
  clear hL
  go_wp2_with fail
  go_loopw [8] (fun i wr => ∃ k : Nat, k ≤ os.length ∧ i = .int .i64 k ∧ Hid (GLive w wr b)) (fun i _ => os.length - (intOf i).toNat)
  case atStart => exact ⟨0, Nat.zero_le _, rfl, HG0⟩
  case round =>
    obtain ⟨k, hk, rfl, HGL⟩ := hrel
    obtain ⟨ls, hL, hG⟩ := HGL.out
    have HL := Lib.hid hL
    have HG := Lib.hid hG
    clear hL hG HGL
    by_cases hlt : k < os.length
    · obtain ⟨o, ho⟩ : ∃ o, os[k]? = some o := ⟨_, List.getElem?_eq_getElem hlt⟩
      obtain ⟨g, off, rfl, hc, hg, hcx⟩ := slice_addr HS.out (by omega)
      have d := fun (j : Nat) (u : Value) (h : (ccells os)[j]? = some u) => (HL.out.wb.cell (p := ⟨g, off + j, none⟩) hg).trans (hcx j u h)
      have d0 : wr.cell? ⟨g, off + k * 6, none⟩ = some (.int .u8 o.kind) := d (k * 6) _ (ccells_at ho (j := 0) (by omega))
      have d1 : wr.cell? ⟨g, off + k * 6 + 1, none⟩ = some (.int .u8 o.item) := d (k * 6 + 1) _ (ccells_at ho (j := 1) (by omega))
      have d2 : wr.cell? ⟨g, off + k * 6 + 2, none⟩ = some (.int .u8 o.of_) := d (k * 6 + 2) _ (ccells_at ho (j := 2) (by omega))
      have d3 : wr.cell? ⟨g, off + k * 6 + 3, none⟩ = some (.int .i64 o.t) := d (k * 6 + 3) _ (ccells_at ho (j := 3) (by omega))
      have d4 : wr.cell? ⟨g, off + k * 6 + 4, none⟩ = some (.int .i64 o.vo) := d (k * 6 + 4) _ (ccells_at ho (j := 4) (by omega))
      have d5 : wr.cell? ⟨g, off + k * 6 + 5, none⟩ = some (.bool o.oak) := d (k * 6 + 5) _ (ccells_at ho (j := 5) (by omega))
      have HAP := Lib.hid (HL.out.ap (bA (Below.refl wr.heap.size wr) (.cells #[.int .u8 o.kind, .int .u8 o.item, .int .u8 o.of_, .int .i64 o.t, .int .i64 o.vo, .bool o.oak] 27)))
      have PC := Lib.hid (fun (W : World) (hW : W.heap[wr.heap.size]? = some (.cells #[.int .u8 o.kind, .int .u8 o.item, .int .u8 o.of_, .int .i64 o.t, .int .i64 o.vo, .bool o.oak] 27 (0, 0))) => cells6 hW)
      have PB := Lib.hid (heap_alloc_new wr (.cells #[.int .u8 o.kind, .int .u8 o.item, .int .u8 o.of_, .int .i64 o.t, .int .i64 o.vo, .bool o.oak] 27))
      have SP := Lib.hid (fun (W : World) (hW : W.heap[wr.heap.size]? = some (.cells #[.int .u8 o.kind, .int .u8 o.item, .int .u8 o.of_, .int .i64 o.t, .int .i64 o.vo, .bool o.oak] 27 (0, 0))) => And.intro (PC.out W hW).1 (And.intro (PC.out W hW).2.1 (And.intro (PC.out W hW).2.2.2.1 (PC.out W hW).2.2.2.2.1)))
      obtain ⟨cs, hcs⟩ : ∃ cs, Hid (codeT (o.kind.tmod 3) (o.item.tmod 4) = cs) := ⟨_, rfl⟩
      have HCODE := Lib.hid (fun W => code_any o.kind o.item W o.hk o.hi)
      rw [hcs.out] at HCODE
      have HSZ : Hid (cs.size ≤ 1000) := Lib.hid (by rw [← hcs.out, codeT_size]; decide)
      have ho0 := o.ho
      clear d ho hcx
      obtain ⟨r, hr⟩ : ∃ r, o.kind.tmod 3 = r := ⟨_, rfl⟩
      by_cases hr0 : r = 0
      · have hr0' : (r != 0) = false := by simpa using hr0
        have BH := Lib.hid (Below.refl (wr.alloc (.cells #[.int .u8 o.kind, .int .u8 o.item, .int .u8 o.of_, .int .i64 o.t, .int .i64 o.vo, .bool o.oak] 27)).heap.size (wr.alloc (.cells #[.int .u8 o.kind, .int .u8 o.item, .int .u8 o.of_, .int .i64 o.t, .int .i64 o.vo, .bool o.oak] 27)))
        clear hr0
        have PB5 := Lib.hid ((BH.out.block wr.heap.size (by simp)).trans PB.out)
        have HAP5 := Lib.hid (HAP.out.below BH.out)
        obtain ⟨p0, p1, p2, p3, p4, p5, _⟩ := PC.out (wr.alloc (.cells #[.int .u8 o.kind, .int .u8 o.item, .int .u8 o.of_, .int .i64 o.t, .int .i64 o.vo, .bool o.oak] 27)) PB5.out
        go_upto_region 13 with fail
        go_region_held3 (fun w' => w'.cell? ⟨wr.heap.size, 0, none⟩ = some (.int .u8 o.kind) ∧ w'.cell? ⟨wr.heap.size, 1, none⟩ = some (.int .u8 o.item) ∧ w'.cell? ⟨wr.heap.size, 3, none⟩ = some (.int .i64 o.t) ∧ w'.cell? ⟨wr.heap.size, 4, none⟩ = some (.int .i64 o.vo))
          (first | exact SP.out _ PB7.out | exact SP.out _ PB6.out | exact SP.out _ PB5.out)
          (first
            | (go_at_call 12; refine (HCODE.out _).mono ?_; rintro e w6 ⟨rfl, b6⟩; have PB6 := Lib.hid ((b6.block wr.heap.size (Array.getElem?_eq_some_iff.1 PB5.out).1).trans PB5.out); have HAP6 := Lib.hid (HAP5.out.below (bT (bd (Below.refl _ _)) b6)); clear b6)
            | (go_at_call 13; refine (HAP6.out.add ⟨cs, ⟨#[]⟩, o.t, o.vo, ⟨#[112, 105, 110, 101]⟩, 0⟩ rfl (HT.out.on HAP6.out.live.wb) HSZ.out (show (⟨#[]⟩ : ByteArray).size ≤ 1000 by decide) (show (⟨#[112, 105, 110, 101]⟩ : ByteArray).size ≤ 1000 by decide)).mono ?_; rintro e w7 ⟨rfl, hL7, hK7⟩; have PB7 := Lib.hid ((hK7 wr.heap.size (Nat.le_refl _) (by simp)).trans PB6.out); have HL7 := Lib.hid hL7; clear hL7 hK7))
        have HG7 : Hid (GLive w w7 b) := Lib.hid ⟨_, HL7.out, HG.out.add _⟩
        clear HL7
        go_wp2_with fail
        go_roundw
        case rel => exact ⟨k + 1, by omega, by go_num, HG7⟩
        case measure => simp [intOf]; omega
      · have hr0' : (r != 0) = true := by simpa using hr0
        clear hr0
        go_wp2_with fail
        refine (code_any (o.of_ / 4) o.of_ _ ⟨by omega, by omega⟩ ho0).mono ?_
        rintro e w5 ⟨rfl, b5⟩
        have BH := Lib.hid b5
        have hs8 := codeT_size ((o.of_ / 4).tmod 3) (o.of_.tmod 4)
        generalize codeT ((o.of_ / 4).tmod 3) (o.of_.tmod 4) = ps at hs8 ⊢
        clear b5 d0 d1 d2 d3 d4 d5
        have PB5 := Lib.hid ((BH.out.block wr.heap.size (by simp)).trans PB.out)
        have HAP5 := Lib.hid (HAP.out.below BH.out)
        obtain ⟨p0, p1, p2, p3, p4, p5, _⟩ := PC.out w5 PB5.out
        go_upto_region 13 with fail
        go_region_held3 (fun w' => w'.cell? ⟨wr.heap.size, 0, none⟩ = some (.int .u8 o.kind) ∧ w'.cell? ⟨wr.heap.size, 1, none⟩ = some (.int .u8 o.item) ∧ w'.cell? ⟨wr.heap.size, 3, none⟩ = some (.int .i64 o.t) ∧ w'.cell? ⟨wr.heap.size, 4, none⟩ = some (.int .i64 o.vo))
          (first | exact SP.out _ PB7.out | exact SP.out _ PB6.out | exact SP.out _ PB5.out)
          (first
            | (go_at_call 12; refine (HCODE.out _).mono ?_; rintro e w6 ⟨rfl, b6⟩; have PB6 := Lib.hid ((b6.block wr.heap.size (Array.getElem?_eq_some_iff.1 PB5.out).1).trans PB5.out); have HAP6 := Lib.hid (HAP5.out.below (bT (bd (Below.refl _ _)) b6)); clear b6)
            | (go_at_call 13; refine (HAP6.out.add ⟨cs, ps, o.t, o.vo, ⟨#[112, 105, 110, 101]⟩, 0⟩ rfl (HT.out.on HAP6.out.live.wb) HSZ.out (show ps.size ≤ 1000 by omega) (show (⟨#[112, 105, 110, 101]⟩ : ByteArray).size ≤ 1000 by decide)).mono ?_; rintro e w7 ⟨rfl, hL7, hK7⟩; have PB7 := Lib.hid ((hK7 wr.heap.size (Nat.le_refl _) (by simp)).trans PB6.out); have HL7 := Lib.hid hL7; clear hL7 hK7))
        have HG7 : Hid (GLive w w7 b) := Lib.hid ⟨_, HL7.out, HG.out.add _⟩
        clear HL7
        go_wp2_with fail
        go_roundw
        case rel => exact ⟨k + 1, by omega, by go_num, HG7⟩
        case measure => simp [intOf]; omega
    · obtain rfl : k = os.length := by omega
      have HI := Lib.hid HG.out.cinv
      have hlen := HI.out.len
      go_wp2_with fail
      refine (HL.out.links).mono ?_
      rintro e w3 ⟨v3, rfl, hf, b3⟩
      have HF := Lib.hid hf.slice
      have B3 := Lib.hid (bT HL.out.wb b3)
      obtain ⟨A3, c3, rfl⟩ := slice_shape hf.slice
      by_cases hl0 : ls.length = 0
      case pos =>
        have hl3 : ∀ W, (Builtin.len_ #[33] 3 #[.slice A3 0 c3]).run Tryd.prog W = .ok (.int .i64 0) W := fun W => by simp [Builtin.len_, run_underlying und_links]; rfl
        rw [hl0]
        go_wp2_with fail
        refine (custodyAwake_any _ (HT.out.on B3.out)).mono ?_
        rintro e w4 ⟨rfl, b4⟩
        go_wp2_with fail
        go_ret
        exact ⟨rfl, bT B3.out b4⟩
      have hl3 : ∀ W, (Builtin.len_ #[33] 3 #[.slice A3 ls.length c3]).run Tryd.prog W = .ok (.int .i64 ls.length) W := fun W => by simp [Builtin.len_, run_underlying und_links]; rfl
      have hl0' : ((ls.length : Int) == 0) = false := by rw [beq_eq_false_iff_ne]; omega
      rcases hf.2.2 with ⟨h0, _⟩ | ⟨g, cs, e3, hgb, hgw, hcs⟩
      · exact absurd h0 hl0
      cases e3
      have HGW := Lib.hid hgw
      have HGB := Lib.hid (Nat.le_trans HL.out.wb.size hgb)
      clear hf b3 hgb hgw hcs
      obtain ⟨i, hi⟩ : ∃ i : Nat, a.tmod (ls.length : Int) = i := ⟨(a.tmod (ls.length : Int)).toNat, by rw [Int.toNat_of_nonneg (Int.tmod_nonneg _ ha0)]⟩
      have hil : i < ls.length := by
        have h1 := Int.tmod_lt_of_pos a (b := (ls.length : Int)) (by omega)
        rw [hi] at h1
        omega
      obtain ⟨x, hx⟩ : ∃ x, ls[i]? = some x := ⟨_, List.getElem?_eq_getElem hil⟩
      have HX := Lib.hid hx
      have SC := Lib.hid (fun (W : World) (hW : Below w3.heap.size w3 W) (j : Nat) (q : Lk) (hq : ls[j]? = some q) => slice_cells0 HF.out hq rfl hW)
      obtain ⟨x0, x1, x2, x3, x4, x5⟩ := SC.out w3 (Below.refl _ _) i x hx
      clear hx
      go_upto_region 21 with fail
      have RX := Lib.hid (heap_alloc_new w3 (.cells #[.string x.it, .string x.pa, .int .i64 x.t, .int .i64 x.vo, .string x.sp, .int .u64 x.ha] 36))
      have B4 := Lib.hid (bA (Below.refl w3.heap.size w3) (.cells #[.string x.it, .string x.pa, .int .i64 x.t, .int .i64 x.vo, .string x.sp, .int .u64 x.ha] 36))
      clear x0 x1 x2 x3 x4 x5
      generalize w3.alloc (.cells #[.string x.it, .string x.pa, .int .i64 x.t, .int .i64 x.vo, .string x.sp, .int .u64 x.ha] 36) = w4 at RX B4 ⊢
      have HRX := Lib.hid (Array.getElem?_eq_some_iff.1 RX.out).1
      go_loopw [14, 15] (fun p q wr => ∃ k : Nat, k ≤ i ∧ q = .int .i64 k ∧ p = .int .u64 (pvL (ls.take k) x.pa) ∧ Hid (Below w4.heap.size w4 wr)) (fun _ q _ => i - (intOf q).toNat)
      case atStart => exact ⟨0, Nat.zero_le _, rfl, (by rw [List.take_zero, pvL_nil]), Below.refl _ _⟩
      case round =>
        obtain ⟨k, hk, rfl, rfl, HBr⟩ := hrel
        have RXr := Lib.hid ((HBr.out.block w3.heap.size HRX.out).trans RX.out)
        have BXr := Lib.hid (bT B4.out HBr.out)
        obtain ⟨_, x1, _⟩ := cells6 RXr.out
        by_cases hlt : k < i
        · obtain ⟨q, hq⟩ : ∃ q, ls[k]? = some q := ⟨_, List.getElem?_eq_getElem (by omega)⟩
          obtain ⟨q0, _, _, _, _, q5⟩ := SC.out wr BXr.out k q hq
          have hkl : k < ls.length := by omega
          have HSN : Hid (pvL (ls.take (k + 1)) x.pa = if q.it = x.pa then q.ha else pvL (ls.take k) x.pa) := Lib.hid (by rw [take_snoc hq, pvL_snoc (take_at HI.out hq)])
          clear hq
          by_cases he : q.it = x.pa
          · have he' : (q.it.toList == x.pa.toList) = true := by rw [str_eq]; simpa using he
            have HS2 : Hid (pvL (ls.take (k + 1)) x.pa = q.ha) := Lib.hid (by rw [HSN.out, if_pos he])
            clear he
            go_wp2_with fail
            go_quiet (fail)
            go_wp2_with fail
            go_roundw
            case rel => exact ⟨k + 1, by omega, by go_num, by rw [HS2.out], bD HBr.out _⟩
            case measure => simp [intOf]; omega
          · have he' : (q.it.toList == x.pa.toList) = false := by rw [str_eq]; simpa using he
            have HS2 : Hid (pvL (ls.take (k + 1)) x.pa = pvL (ls.take k) x.pa) := Lib.hid (by rw [HSN.out, if_neg he])
            clear he
            go_wp2_with fail
            go_quiet (fail)
            go_wp2_with fail
            go_roundw
            case rel => exact ⟨k + 1, by omega, by go_num, by rw [HS2.out], bD HBr.out _⟩
            case measure => simp [intOf]; omega
        · obtain rfl : k = i := by omega
          obtain ⟨pv, hpv⟩ : ∃ pv, Hid (pvL (ls.take k) x.pa = pv) := ⟨_, rfl⟩
          have HPV : Hid (0 ≤ pv) := Lib.hid (by rw [← hpv.out]; exact (pvL_range (HG.out.take k).cinv x.pa).1)
          rw [hpv.out]
          obtain ⟨_, _, x2, x3, x4, x5, x6⟩ := cells6 RXr.out
          obtain ⟨fm, hfm⟩ : ∃ fm, f.tmod 4 = fm := ⟨_, rfl⟩
          have hf4 : fm = 0 ∨ fm = 1 ∨ fm = 2 ∨ fm = 3 := by
            have h1 := Int.tmod_nonneg 4 hf0
            have h2 := Int.tmod_lt_of_pos f (b := 4) (by decide)
            rw [hfm] at h1 h2
            omega
          rcases hf4 with rfl | rfl | rfl | rfl
          · go_upto_region 34 with fail
            obtain ⟨y, hy⟩ : ∃ y, y = tamL x 0 := ⟨_, rfl⟩
            have hy2 : y = { x with vo := bits .xor .i64 x.vo 1 } := by rw [hy]; simp [tamL]
            have RY : Hid ((wr.setCell ⟨w3.heap.size, 3, none⟩ (.int .i64 (bits .xor .i64 x.vo 1))).heap[w3.heap.size]? = some (.cells #[.string y.it, .string y.pa, .int .i64 y.t, .int .i64 y.vo, .string y.sp, .int .u64 y.ha] 36 (0, 0))) := by
              unfold Hid
              rw [hy2]
              exact heap_setCell_same wr w3.heap.size 3 _ _ _ RXr.out
            have B5 := Lib.hid (below_set (j := 3) (u := .int .i64 (bits .xor .i64 x.vo 1)) BXr.out (Nat.le_refl _) BXr.out.size)
            have HYS : Hid (y.it.size ≤ 1000 ∧ y.pa.size ≤ 1000 ∧ y.sp.size ≤ 1000) := Lib.hid (by rw [hy]; exact tam_small 0 (HI.out.small k x HX.out))
            have HYR : Hid ((-9223372036854775808 ≤ y.t ∧ y.t ≤ 9223372036854775807) ∧ (-9223372036854775808 ≤ y.vo ∧ y.vo ≤ 9223372036854775807)) := Lib.hid (by rw [hy]; exact tam_range 0 (canE_ranges (HG.out.after HX.out).1))
            have HDP : Hid (hashL pv y ≠ y.ha → (verF [] (ls.set k y)).2 ≠ 0 ∧ (verF [] (ls.set k y)).1 = k) := Lib.hid (by rw [hy, ← hpv.out]; exact fun h => tamper HG.out HX.out (.inr h) (by simp))
            clear hy hy2 x1
            generalize wr.setCell ⟨w3.heap.size, 3, none⟩ (.int .i64 (bits .xor .i64 x.vo 1)) = w5 at RY B5 ⊢
            obtain ⟨bh, hbh⟩ : ∃ bh, (hashL pv y == y.ha) = bh := ⟨_, rfl⟩
            have HLH := Lib.hid (fun W => rLHash_any pv y W HPV.out HYS.out.1 HYS.out.2.1 HYS.out.2.2 HYR.out.1 HYR.out.2)
            unfold Lk.val at HLH
            obtain ⟨ι, hne, fw, j0, hj0, hF, hCC⟩ := below_class w5
            have FF := Lib.hid hF
            have FC := Lib.hid hCC
            have HR5 := Lib.hid (cells6 RY.out)
            have hb5 := Lib.hid (Array.getElem?_eq_some_iff.1 RY.out).1
            have y0 := fun n => ((FF.out n).cell (p := ⟨w3.heap.size, 0, none⟩) hb5.out).trans HR5.out.1
            have y1 := fun n => ((FF.out n).cell (p := ⟨w3.heap.size, 1, none⟩) hb5.out).trans HR5.out.2.1
            have y2 := fun n => ((FF.out n).cell (p := ⟨w3.heap.size, 2, none⟩) hb5.out).trans HR5.out.2.2.1
            have y3 := fun n => ((FF.out n).cell (p := ⟨w3.heap.size, 3, none⟩) hb5.out).trans HR5.out.2.2.2.1
            have y4 := fun n => ((FF.out n).cell (p := ⟨w3.heap.size, 4, none⟩) hb5.out).trans HR5.out.2.2.2.2.1
            have y5 := fun n => ((FF.out n).cell (p := ⟨w3.heap.size, 5, none⟩) hb5.out).trans HR5.out.2.2.2.2.2.1
            clear hF hCC
            refine wp_region_class fw j0 hj0 (by kernel_rfl) (by kernel_rfl) ?_
            repeat (first
              | go_big_quiet_step ((first
                  | (go_at_call 15; exact class_call FC.out (HLH.out _)))))
            refine wpQuiet_nil ?_
            rintro _ ⟨nq, rfl⟩
            have B6 := Lib.hid (bT B5.out (FF.out nq))
            have RY6 := Lib.hid (((FF.out nq).block w3.heap.size hb5.out).trans RY.out)
            clear y0 y1 y2 y3 y4 y5 hj0
            generalize fw nq = w6 at B6 RY6 ⊢
            clear FF FC
            cases bh with
            | true =>
              go_wp2_with fail
              refine (custodyAwake_any _ (HT.out.on (bT B3.out B6.out))).mono ?_
              rintro e w7 ⟨rfl, b7⟩
              go_wp2_with fail
              go_ret
              exact ⟨rfl, bT (bT B3.out B6.out) b7⟩
            | false =>
              have HD := Lib.hid (HDP.out (by simpa using hbh))
              clear hbh HDP
              have fz : ∀ j, w6.frozen? ⟨g, j, none⟩ = false := fun j => frozen_of_row _ _ _ _ _ ((B6.out.block g (Array.getElem?_eq_some_iff.1 HGW.out).1).trans HGW.out)
              obtain ⟨x0, x1, x2, x3, x4, x5⟩ := SC.out w6 B6.out k x HX.out
              obtain ⟨y0, y1, y2, y3, y4, y5, _⟩ := cells6 RY6.out
              have BW6 := Lib.hid (bT B3.out B6.out)
              go_upto_region 37 with fail
              change Code.wp _ _ _ _ (w6.setCells g (k * 6) y.cells)
              have K7 := setCells_keeps g y.cells (k * 6) w6
              have M7 : Hid (SliceIs (w6.setCells g (k * 6) y.cells) 6 (.slice (some ⟨g, 0, none⟩) ls.length ls.length) (ls.set k y).length (kcells (ls.set k y))) := by
                unfold Hid
                rw [List.length_set]
                exact set_slice rfl (HF.out.below B6.out) hil y
              have B7 := Lib.hid (BW6.out.trans (K7.below (fun q e => by rw [e]; exact HGB.out) BW6.out.size))
              clear K7 fz x0 x1 x2 x3 x4 x5 y0 y1 y2 y3 y4 y5
              generalize w6.setCells g (k * 6) y.cells = w7 at M7 B7 ⊢
              have HVF := Lib.hid (Verify_any _ (ls.set k y) w7 M7.out (HT.out.on B7.out) (set_small HI.out.small HYS.out))
              generalize verF [] (ls.set k y) = vq at HVF HD
              obtain ⟨n, m⟩ := vq
              have HVG : Hid (Calls Tryd.prog 16 #[.slice (some ⟨g, 0, none⟩) ls.length ls.length] w7 fun e w' => e = .returned (.tuple #[.int .i64 n, .int .i64 m]) ∧ Below w7.heap.size w7 w') := HVF
              have hm : (m != 0) = true := by simpa using HD.out.1
              have hn : n = (k : Int) := HD.out.2
              subst hn
              have hi0 : decide (0 ≤ (k : Int)) = true := by simp
              have hii : decide ((k : Int) ≤ (k : Int)) = true := by simp
              clear HVF HD
              go_wp2_with fail
              refine HVG.out.mono ?_
              rintro e w8 ⟨rfl, b8⟩
              have B8 := Lib.hid (bT B7.out b8)
              clear b8
              go_wp2_with fail
              refine (custodyAwake_any _ (HT.out.on B8.out)).mono ?_
              rintro e w9 ⟨rfl, b9⟩
              go_wp2_with fail
              go_ret
              exact ⟨rfl, bT B8.out b9⟩
          · go_upto_region 34 with fail
            obtain ⟨y, hy⟩ : ∃ y, y = tamL x 1 := ⟨_, rfl⟩
            have hy2 : y = { x with t := bits .xor .i64 x.t 1 } := by rw [hy]; simp [tamL]
            have RY : Hid ((wr.setCell ⟨w3.heap.size, 2, none⟩ (.int .i64 (bits .xor .i64 x.t 1))).heap[w3.heap.size]? = some (.cells #[.string y.it, .string y.pa, .int .i64 y.t, .int .i64 y.vo, .string y.sp, .int .u64 y.ha] 36 (0, 0))) := by
              unfold Hid
              rw [hy2]
              exact heap_setCell_same wr w3.heap.size 2 _ _ _ RXr.out
            have B5 := Lib.hid (below_set (j := 2) (u := .int .i64 (bits .xor .i64 x.t 1)) BXr.out (Nat.le_refl _) BXr.out.size)
            have HYS : Hid (y.it.size ≤ 1000 ∧ y.pa.size ≤ 1000 ∧ y.sp.size ≤ 1000) := Lib.hid (by rw [hy]; exact tam_small 1 (HI.out.small k x HX.out))
            have HYR : Hid ((-9223372036854775808 ≤ y.t ∧ y.t ≤ 9223372036854775807) ∧ (-9223372036854775808 ≤ y.vo ∧ y.vo ≤ 9223372036854775807)) := Lib.hid (by rw [hy]; exact tam_range 1 (canE_ranges (HG.out.after HX.out).1))
            have HDP : Hid (hashL pv y ≠ y.ha → (verF [] (ls.set k y)).2 ≠ 0 ∧ (verF [] (ls.set k y)).1 = k) := Lib.hid (by rw [hy, ← hpv.out]; exact fun h => tamper HG.out HX.out (.inr h) (by simp))
            clear hy hy2 x1
            generalize wr.setCell ⟨w3.heap.size, 2, none⟩ (.int .i64 (bits .xor .i64 x.t 1)) = w5 at RY B5 ⊢
            obtain ⟨bh, hbh⟩ : ∃ bh, (hashL pv y == y.ha) = bh := ⟨_, rfl⟩
            have HLH := Lib.hid (fun W => rLHash_any pv y W HPV.out HYS.out.1 HYS.out.2.1 HYS.out.2.2 HYR.out.1 HYR.out.2)
            unfold Lk.val at HLH
            obtain ⟨ι, hne, fw, j0, hj0, hF, hCC⟩ := below_class w5
            have FF := Lib.hid hF
            have FC := Lib.hid hCC
            have HR5 := Lib.hid (cells6 RY.out)
            have hb5 := Lib.hid (Array.getElem?_eq_some_iff.1 RY.out).1
            have y0 := fun n => ((FF.out n).cell (p := ⟨w3.heap.size, 0, none⟩) hb5.out).trans HR5.out.1
            have y1 := fun n => ((FF.out n).cell (p := ⟨w3.heap.size, 1, none⟩) hb5.out).trans HR5.out.2.1
            have y2 := fun n => ((FF.out n).cell (p := ⟨w3.heap.size, 2, none⟩) hb5.out).trans HR5.out.2.2.1
            have y3 := fun n => ((FF.out n).cell (p := ⟨w3.heap.size, 3, none⟩) hb5.out).trans HR5.out.2.2.2.1
            have y4 := fun n => ((FF.out n).cell (p := ⟨w3.heap.size, 4, none⟩) hb5.out).trans HR5.out.2.2.2.2.1
            have y5 := fun n => ((FF.out n).cell (p := ⟨w3.heap.size, 5, none⟩) hb5.out).trans HR5.out.2.2.2.2.2.1
            clear hF hCC
            refine wp_region_class fw j0 hj0 (by kernel_rfl) (by kernel_rfl) ?_
            repeat (first
              | go_big_quiet_step ((first
                  | (go_at_call 15; exact class_call FC.out (HLH.out _)))))
            refine wpQuiet_nil ?_
            rintro _ ⟨nq, rfl⟩
            have B6 := Lib.hid (bT B5.out (FF.out nq))
            have RY6 := Lib.hid (((FF.out nq).block w3.heap.size hb5.out).trans RY.out)
            clear y0 y1 y2 y3 y4 y5 hj0
            generalize fw nq = w6 at B6 RY6 ⊢
            clear FF FC
            cases bh with
            | true =>
              go_wp2_with fail
              refine (custodyAwake_any _ (HT.out.on (bT B3.out B6.out))).mono ?_
              rintro e w7 ⟨rfl, b7⟩
              go_wp2_with fail
              go_ret
              exact ⟨rfl, bT (bT B3.out B6.out) b7⟩
            | false =>
              have HD := Lib.hid (HDP.out (by simpa using hbh))
              clear hbh HDP
              have fz : ∀ j, w6.frozen? ⟨g, j, none⟩ = false := fun j => frozen_of_row _ _ _ _ _ ((B6.out.block g (Array.getElem?_eq_some_iff.1 HGW.out).1).trans HGW.out)
              obtain ⟨x0, x1, x2, x3, x4, x5⟩ := SC.out w6 B6.out k x HX.out
              obtain ⟨y0, y1, y2, y3, y4, y5, _⟩ := cells6 RY6.out
              have BW6 := Lib.hid (bT B3.out B6.out)
              go_upto_region 37 with fail
              change Code.wp _ _ _ _ (w6.setCells g (k * 6) y.cells)
              have K7 := setCells_keeps g y.cells (k * 6) w6
              have M7 : Hid (SliceIs (w6.setCells g (k * 6) y.cells) 6 (.slice (some ⟨g, 0, none⟩) ls.length ls.length) (ls.set k y).length (kcells (ls.set k y))) := by
                unfold Hid
                rw [List.length_set]
                exact set_slice rfl (HF.out.below B6.out) hil y
              have B7 := Lib.hid (BW6.out.trans (K7.below (fun q e => by rw [e]; exact HGB.out) BW6.out.size))
              clear K7 fz x0 x1 x2 x3 x4 x5 y0 y1 y2 y3 y4 y5
              generalize w6.setCells g (k * 6) y.cells = w7 at M7 B7 ⊢
              have HVF := Lib.hid (Verify_any _ (ls.set k y) w7 M7.out (HT.out.on B7.out) (set_small HI.out.small HYS.out))
              generalize verF [] (ls.set k y) = vq at HVF HD
              obtain ⟨n, m⟩ := vq
              have HVG : Hid (Calls Tryd.prog 16 #[.slice (some ⟨g, 0, none⟩) ls.length ls.length] w7 fun e w' => e = .returned (.tuple #[.int .i64 n, .int .i64 m]) ∧ Below w7.heap.size w7 w') := HVF
              have hm : (m != 0) = true := by simpa using HD.out.1
              have hn : n = (k : Int) := HD.out.2
              subst hn
              have hi0 : decide (0 ≤ (k : Int)) = true := by simp
              have hii : decide ((k : Int) ≤ (k : Int)) = true := by simp
              clear HVF HD
              go_wp2_with fail
              refine HVG.out.mono ?_
              rintro e w8 ⟨rfl, b8⟩
              have B8 := Lib.hid (bT B7.out b8)
              clear b8
              go_wp2_with fail
              refine (custodyAwake_any _ (HT.out.on B8.out)).mono ?_
              rintro e w9 ⟨rfl, b9⟩
              go_wp2_with fail
              go_ret
              exact ⟨rfl, bT B8.out b9⟩
          · go_upto_region 34 with fail
            obtain ⟨y, hy⟩ : ∃ y, y = tamL x 2 := ⟨_, rfl⟩
            have hy2 : y = { x with sp := ⟨#[111, 97, 107]⟩ } := by rw [hy]; simp [tamL]
            have RY : Hid ((wr.setCell ⟨w3.heap.size, 4, none⟩ (.string ⟨#[111, 97, 107]⟩)).heap[w3.heap.size]? = some (.cells #[.string y.it, .string y.pa, .int .i64 y.t, .int .i64 y.vo, .string y.sp, .int .u64 y.ha] 36 (0, 0))) := by
              unfold Hid
              rw [hy2]
              exact heap_setCell_same wr w3.heap.size 4 _ _ _ RXr.out
            have B5 := Lib.hid (below_set (j := 4) (u := .string ⟨#[111, 97, 107]⟩) BXr.out (Nat.le_refl _) BXr.out.size)
            have HYS : Hid (y.it.size ≤ 1000 ∧ y.pa.size ≤ 1000 ∧ y.sp.size ≤ 1000) := Lib.hid (by rw [hy]; exact tam_small 2 (HI.out.small k x HX.out))
            have HYR : Hid ((-9223372036854775808 ≤ y.t ∧ y.t ≤ 9223372036854775807) ∧ (-9223372036854775808 ≤ y.vo ∧ y.vo ≤ 9223372036854775807)) := Lib.hid (by rw [hy]; exact tam_range 2 (canE_ranges (HG.out.after HX.out).1))
            have HDP : Hid (hashL pv y ≠ y.ha → (verF [] (ls.set k y)).2 ≠ 0 ∧ (verF [] (ls.set k y)).1 = k) := Lib.hid (by rw [hy, ← hpv.out]; exact fun h => tamper HG.out HX.out (.inr h) (by simp))
            clear hy hy2 x1
            generalize wr.setCell ⟨w3.heap.size, 4, none⟩ (.string ⟨#[111, 97, 107]⟩) = w5 at RY B5 ⊢
            obtain ⟨bh, hbh⟩ : ∃ bh, (hashL pv y == y.ha) = bh := ⟨_, rfl⟩
            have HLH := Lib.hid (fun W => rLHash_any pv y W HPV.out HYS.out.1 HYS.out.2.1 HYS.out.2.2 HYR.out.1 HYR.out.2)
            unfold Lk.val at HLH
            obtain ⟨ι, hne, fw, j0, hj0, hF, hCC⟩ := below_class w5
            have FF := Lib.hid hF
            have FC := Lib.hid hCC
            have HR5 := Lib.hid (cells6 RY.out)
            have hb5 := Lib.hid (Array.getElem?_eq_some_iff.1 RY.out).1
            have y0 := fun n => ((FF.out n).cell (p := ⟨w3.heap.size, 0, none⟩) hb5.out).trans HR5.out.1
            have y1 := fun n => ((FF.out n).cell (p := ⟨w3.heap.size, 1, none⟩) hb5.out).trans HR5.out.2.1
            have y2 := fun n => ((FF.out n).cell (p := ⟨w3.heap.size, 2, none⟩) hb5.out).trans HR5.out.2.2.1
            have y3 := fun n => ((FF.out n).cell (p := ⟨w3.heap.size, 3, none⟩) hb5.out).trans HR5.out.2.2.2.1
            have y4 := fun n => ((FF.out n).cell (p := ⟨w3.heap.size, 4, none⟩) hb5.out).trans HR5.out.2.2.2.2.1
            have y5 := fun n => ((FF.out n).cell (p := ⟨w3.heap.size, 5, none⟩) hb5.out).trans HR5.out.2.2.2.2.2.1
            clear hF hCC
            refine wp_region_class fw j0 hj0 (by kernel_rfl) (by kernel_rfl) ?_
            repeat (first
              | go_big_quiet_step ((first
                  | (go_at_call 15; exact class_call FC.out (HLH.out _)))))
            refine wpQuiet_nil ?_
            rintro _ ⟨nq, rfl⟩
            have B6 := Lib.hid (bT B5.out (FF.out nq))
            have RY6 := Lib.hid (((FF.out nq).block w3.heap.size hb5.out).trans RY.out)
            clear y0 y1 y2 y3 y4 y5 hj0
            generalize fw nq = w6 at B6 RY6 ⊢
            clear FF FC
            cases bh with
            | true =>
              go_wp2_with fail
              refine (custodyAwake_any _ (HT.out.on (bT B3.out B6.out))).mono ?_
              rintro e w7 ⟨rfl, b7⟩
              go_wp2_with fail
              go_ret
              exact ⟨rfl, bT (bT B3.out B6.out) b7⟩
            | false =>
              have HD := Lib.hid (HDP.out (by simpa using hbh))
              clear hbh HDP
              have fz : ∀ j, w6.frozen? ⟨g, j, none⟩ = false := fun j => frozen_of_row _ _ _ _ _ ((B6.out.block g (Array.getElem?_eq_some_iff.1 HGW.out).1).trans HGW.out)
              obtain ⟨x0, x1, x2, x3, x4, x5⟩ := SC.out w6 B6.out k x HX.out
              obtain ⟨y0, y1, y2, y3, y4, y5, _⟩ := cells6 RY6.out
              have BW6 := Lib.hid (bT B3.out B6.out)
              go_upto_region 37 with fail
              change Code.wp _ _ _ _ (w6.setCells g (k * 6) y.cells)
              have K7 := setCells_keeps g y.cells (k * 6) w6
              have M7 : Hid (SliceIs (w6.setCells g (k * 6) y.cells) 6 (.slice (some ⟨g, 0, none⟩) ls.length ls.length) (ls.set k y).length (kcells (ls.set k y))) := by
                unfold Hid
                rw [List.length_set]
                exact set_slice rfl (HF.out.below B6.out) hil y
              have B7 := Lib.hid (BW6.out.trans (K7.below (fun q e => by rw [e]; exact HGB.out) BW6.out.size))
              clear K7 fz x0 x1 x2 x3 x4 x5 y0 y1 y2 y3 y4 y5
              generalize w6.setCells g (k * 6) y.cells = w7 at M7 B7 ⊢
              have HVF := Lib.hid (Verify_any _ (ls.set k y) w7 M7.out (HT.out.on B7.out) (set_small HI.out.small HYS.out))
              generalize verF [] (ls.set k y) = vq at HVF HD
              obtain ⟨n, m⟩ := vq
              have HVG : Hid (Calls Tryd.prog 16 #[.slice (some ⟨g, 0, none⟩) ls.length ls.length] w7 fun e w' => e = .returned (.tuple #[.int .i64 n, .int .i64 m]) ∧ Below w7.heap.size w7 w') := HVF
              have hm : (m != 0) = true := by simpa using HD.out.1
              have hn : n = (k : Int) := HD.out.2
              subst hn
              have hi0 : decide (0 ≤ (k : Int)) = true := by simp
              have hii : decide ((k : Int) ≤ (k : Int)) = true := by simp
              clear HVF HD
              go_wp2_with fail
              refine HVG.out.mono ?_
              rintro e w8 ⟨rfl, b8⟩
              have B8 := Lib.hid (bT B7.out b8)
              clear b8
              go_wp2_with fail
              refine (custodyAwake_any _ (HT.out.on B8.out)).mono ?_
              rintro e w9 ⟨rfl, b9⟩
              go_wp2_with fail
              go_ret
              exact ⟨rfl, bT B8.out b9⟩
          · go_upto_region 34 with fail
            obtain ⟨y, hy⟩ : ∃ y, y = tamL x 3 := ⟨_, rfl⟩
            have hy2 : y = { x with ha := bits .xor .u64 x.ha 1 } := by rw [hy]; simp [tamL]
            have RY : Hid ((wr.setCell ⟨w3.heap.size, 5, none⟩ (.int .u64 (bits .xor .u64 x.ha 1))).heap[w3.heap.size]? = some (.cells #[.string y.it, .string y.pa, .int .i64 y.t, .int .i64 y.vo, .string y.sp, .int .u64 y.ha] 36 (0, 0))) := by
              unfold Hid
              rw [hy2]
              exact heap_setCell_same wr w3.heap.size 5 _ _ _ RXr.out
            have B5 := Lib.hid (below_set (j := 5) (u := .int .u64 (bits .xor .u64 x.ha 1)) BXr.out (Nat.le_refl _) BXr.out.size)
            have HYS : Hid (y.it.size ≤ 1000 ∧ y.pa.size ≤ 1000 ∧ y.sp.size ≤ 1000) := Lib.hid (by rw [hy]; exact tam_small 3 (HI.out.small k x HX.out))
            have HYR : Hid ((-9223372036854775808 ≤ y.t ∧ y.t ≤ 9223372036854775807) ∧ (-9223372036854775808 ≤ y.vo ∧ y.vo ≤ 9223372036854775807)) := Lib.hid (by rw [hy]; exact tam_range 3 (canE_ranges (HG.out.after HX.out).1))
            have HD : Hid ((verF [] (ls.set k y)).2 ≠ 0 ∧ (verF [] (ls.set k y)).1 = k) := Lib.hid (by rw [hy]; exact tamper HG.out HX.out (.inl rfl) (by simp))
            clear hy hy2 x1
            generalize wr.setCell ⟨w3.heap.size, 5, none⟩ (.int .u64 (bits .xor .u64 x.ha 1)) = w5 at RY B5 ⊢
            go_quiet (fail)
            have B6 := Lib.hid (bD B5.out nq)
            have RY6 := Lib.hid (show (w5.drewN nq).heap[w3.heap.size]? = some (.cells #[.string y.it, .string y.pa, .int .i64 y.t, .int .i64 y.vo, .string y.sp, .int .u64 y.ha] 36 (0, 0)) from RY.out)
            generalize w5.drewN nq = w6 at B6 RY6 ⊢
            have fz : ∀ j, w6.frozen? ⟨g, j, none⟩ = false := fun j => frozen_of_row _ _ _ _ _ ((B6.out.block g (Array.getElem?_eq_some_iff.1 HGW.out).1).trans HGW.out)
            obtain ⟨x0, x1, x2, x3, x4, x5⟩ := SC.out w6 B6.out k x HX.out
            obtain ⟨y0, y1, y2, y3, y4, y5, _⟩ := cells6 RY6.out
            have BW6 := Lib.hid (bT B3.out B6.out)
            go_upto_region 37 with fail
            change Code.wp _ _ _ _ (w6.setCells g (k * 6) y.cells)
            have K7 := setCells_keeps g y.cells (k * 6) w6
            have M7 : Hid (SliceIs (w6.setCells g (k * 6) y.cells) 6 (.slice (some ⟨g, 0, none⟩) ls.length ls.length) (ls.set k y).length (kcells (ls.set k y))) := by
              unfold Hid
              rw [List.length_set]
              exact set_slice rfl (HF.out.below B6.out) hil y
            have B7 := Lib.hid (BW6.out.trans (K7.below (fun q e => by rw [e]; exact HGB.out) BW6.out.size))
            clear K7 fz x0 x1 x2 x3 x4 x5 y0 y1 y2 y3 y4 y5
            generalize w6.setCells g (k * 6) y.cells = w7 at M7 B7 ⊢
            have HVF := Lib.hid (Verify_any _ (ls.set k y) w7 M7.out (HT.out.on B7.out) (set_small HI.out.small HYS.out))
            generalize verF [] (ls.set k y) = vq at HVF HD
            obtain ⟨n, m⟩ := vq
            have HVG : Hid (Calls Tryd.prog 16 #[.slice (some ⟨g, 0, none⟩) ls.length ls.length] w7 fun e w' => e = .returned (.tuple #[.int .i64 n, .int .i64 m]) ∧ Below w7.heap.size w7 w') := HVF
            have hm : (m != 0) = true := by simpa using HD.out.1
            have hn : n = (k : Int) := HD.out.2
            subst hn
            have hi0 : decide (0 ≤ (k : Int)) = true := by simp
            have hii : decide ((k : Int) ≤ (k : Int)) = true := by simp
            clear HVF HD
            go_wp2_with fail
            refine HVG.out.mono ?_
            rintro e w8 ⟨rfl, b8⟩
            have B8 := Lib.hid (bT B7.out b8)
            clear b8
            go_wp2_with fail
            refine (custodyAwake_any _ (HT.out.on B8.out)).mono ?_
            rintro e w9 ⟨rfl, b9⟩
            go_wp2_with fail
            go_ret
            exact ⟨rfl, bT B8.out b9⟩
end Go.Proofs.YtgonghmihghhnaaDoor.Cu
