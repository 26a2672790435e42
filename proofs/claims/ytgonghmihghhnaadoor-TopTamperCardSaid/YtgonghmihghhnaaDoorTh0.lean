/- the reference's hash of a link, walked (from the texts of chapter 54). -/
import Derived.Test.YtgonghmihghhnaaDoorTg0
namespace Go.Proofs.YtgonghmihghhnaaDoor.Cu
open Go.RowKit Go.Proofs.YtgonghmihghhnaaDoor.Id Go.Maps

theorem rHash_any (s : ByteArray) (w : World) (hs : s.size ≤ 140737488355328) :
    Calls Tryd.prog 48 #[.string s] w fun e w' => e = .returned (.int .u64 (fnv 14695981039346656037 s.data.toList)) ∧ w = w' := by
  go_enter Tryd.func48, Tryd.ntmps48
  go_wp2
  go_loopw [3, 4] (fun a i wr => ∃ k : Nat, k ≤ s.size ∧ i = .int .i64 k ∧ a = .int .u64 (fnv 14695981039346656037 (s.data.toList.take k)) ∧ w = wr) (fun _ i _ => s.size - (intOf i).toNat)
  case atStart => exact ⟨0, Nat.zero_le _, rfl, rfl, rfl⟩
  case round =>
    obtain ⟨k, hk, rfl, rfl, rfl⟩ := hrel
    by_cases hlt : k < s.size
    · have hb : s.data.toList[k]? = some (s[k]'hlt) := by
        rw [Array.getElem?_toList]
        exact Array.getElem?_eq_getElem hlt
      have hn := Lib.hid (fnv_succ 14695981039346656037 hb)
      clear hb
      go_wp2
      go_roundw
      case rel =>
        refine ⟨k + 1, by omega, by go_num, ?_, trivial⟩
        rw [hn.out, u8w]
        rfl
      case measure => simp [intOf]; omega
    · obtain rfl : k = s.size := by omega
      have hall : s.data.toList.take s.size = s.data.toList := by
        rw [show s.size = s.data.toList.length from by rw [Array.length_toList]; rfl, List.take_length]
      rw [hall]
      go_wp2
      go_ret
      exact ⟨rfl, rfl⟩
theorem one_byte (W : World) (x : Int) : (convert 98 9 (.slice (some ⟨W.heap.size, 0, none⟩) 1 1)).run Tryd.prog (W.alloc (.cells #[.int .u8 x] 5)) = .ok (.string ⟨#[bN x]⟩) (W.alloc (.cells #[.int .u8 x] 5)) := by
  rw [run_convert_bytes_string _ _ _ 5 _ _ _ Tryd.underlying98 Tryd.underlying5 Tryd.underlying9]
  have hl := run_loadCells_list (P := Tryd.prog) (W.alloc (.cells #[.int .u8 x] 5)) ⟨W.heap.size, 0, none⟩ [.int .u8 x] (fun j v hj => by
    match j, hj with
    | 0, hj =>
      obtain rfl : v = .int .u8 x := by simpa using hj.symm
      exact (cell_of_row (W.alloc (.cells #[.int .u8 x] 5)) W.heap.size 0 _ _ _ (heap_alloc_new W _)))
  rw [run_bytesToString _ _ 1 1 [x] hl]
  rfl
theorem dig_last (n : Nat) : bN (48 + (n : Int) % 10) = UInt8.ofNat (48 + n % 10) := by
  unfold bN
  congr 1
set_option maxHeartbeats 2000000 in
set_option maxRecDepth 100000 in
theorem rdigits_any (n : Nat) : ∀ (w : World), n < 18446744073709551616 →
    Calls Tryd.prog 60 #[.int .u64 n] w fun e w' => e = .returned (.string ⟨(Lib.decDigits n).toArray⟩) ∧ Below w.heap.size w w' := by
  induction n using Nat.strongRecOn with
  | _ n ih =>
    intro w hn
    have HI := Lib.hid ih
    have hob := one_byte w (48 + (n : Int) % 10)
    clear ih
    by_cases h : n < 10
    · have h' : decide ((n : Int) < 10) = true := by simp; omega
      have HE : Hid ((⟨#[bN (48 + (n : Int) % 10)]⟩ : ByteArray) = ⟨(Lib.decDigits n).toArray⟩) := Lib.hid (by rw [Lib.decDigits_one h, dig_last, Nat.mod_eq_of_lt h])
      clear h
      go_enter Tryd.func60, Tryd.ntmps60
      go_wp2
      go_ret
      exact ⟨by rw [← HE.out]; rfl, bA (Below.refl _ _) _⟩
    · have h' : decide ((n : Int) < 10) = false := by simp; omega
      have hl : (Lib.decDigits (n / 10)).length ≤ 20 := by rw [Lib.decDigits_length]; exact nDigits_le 19 _ (by omega)
      have hsz : (⟨(Lib.decDigits (n / 10)).toArray⟩ : ByteArray).size ≤ 20 := by simpa [ByteArray.size] using hl
      have HE : Hid ((⟨(Lib.decDigits (n / 10)).toArray⟩ : ByteArray) ++ ⟨#[bN (48 + (n : Int) % 10)]⟩ = ⟨(Lib.decDigits n).toArray⟩) := Lib.hid (by
        rw [dig_last, show Lib.decDigits n = Lib.decDigits (n / 10) ++ [UInt8.ofNat (48 + n % 10)] by rw [Lib.decDigits, dif_neg h], ByteArray.mk_append_mk])
      have hc := HI.out (n / 10) (by omega) (w.alloc (.cells #[.int .u8 (48 + (n : Int) % 10)] 5)) (by omega)
      rw [show ((n / 10 : Nat) : Int) = (n : Int) / 10 by omega] at hc
      have HC := Lib.hid hc
      clear h hc hl
      go_enter Tryd.func60, Tryd.ntmps60
      go_wp2_with fail
      refine HC.out.mono ?_
      rintro e w1 ⟨rfl, b1⟩
      have B1 := Lib.hid (bB b1)
      clear b1
      generalize (⟨(Lib.decDigits (n / 10)).toArray⟩ : ByteArray) = S at HE hsz ⊢
      go_wp2_with fail
      go_ret
      exact ⟨by rw [← HE.out]; rfl, B1.out⟩
set_option maxHeartbeats 2000000 in
set_option maxRecDepth 100000 in
theorem rdec_pos (m : Nat) (w : World) (h1 : m ≤ 9223372036854775807) :
    Calls Tryd.prog 50 #[.int .i64 m] w fun e w' => e = .returned (.string ⟨(Lib.itoa m).toArray⟩) ∧ Below w.heap.size w w' := by
  have h' : decide ((m : Int) < 0) = false := by simp
  have hw : IntKind.u64.wrap (m : Int) = m := by rw [IntKind.wrap_u64]; omega
  have HC := Lib.hid (rdigits_any m w (by omega))
  have HE : Hid (Lib.itoa m = Lib.decDigits m) := Lib.hid (by unfold Lib.itoa; rw [if_neg (by omega)]; simp)
  go_enter Tryd.func50, Tryd.ntmps50
  go_wp2_with fail
  refine HC.out.mono ?_
  rintro e w1 ⟨rfl, b1⟩
  go_wp2_with fail
  go_ret
  exact ⟨by rw [HE.out]; rfl, b1⟩
set_option maxHeartbeats 2000000 in
set_option maxRecDepth 100000 in
theorem rdec_neg (m : Nat) (w : World) (h1 : m ≤ 9223372036854775807) :
    Calls Tryd.prog 50 #[.int .i64 (-((m : Int) + 1))] w fun e w' => e = .returned (.string ⟨(Lib.itoa (-((m : Int) + 1))).toArray⟩) ∧ Below w.heap.size w w' := by
  obtain ⟨n, hn⟩ : ∃ n : Int, n = -((m : Int) + 1) := ⟨_, rfl⟩
  rw [← hn]
  have h' : decide (n < 0) = true := by simp; omega
  have hw1 : IntKind.i64.wrap (n + 1) = n + 1 := by rw [IntKind.wrap_i64]; omega
  have hw2 : IntKind.i64.wrap (-(n + 1)) = m := by rw [IntKind.wrap_i64]; omega
  have hw3 : IntKind.u64.wrap (m : Int) = m := by rw [IntKind.wrap_u64]; omega
  have hw4 : IntKind.u64.wrap ((m : Int) + 1) = (m : Int) + 1 := by rw [IntKind.wrap_u64]; omega
  have hc := rdigits_any (m + 1) w (by omega)
  rw [show ((m + 1 : Nat) : Int) = (m : Int) + 1 by omega] at hc
  have HC := Lib.hid hc
  have hl : (Lib.decDigits (m + 1)).length ≤ 20 := by rw [Lib.decDigits_length]; exact nDigits_le 19 _ (by omega)
  have hsz : (⟨(Lib.decDigits (m + 1)).toArray⟩ : ByteArray).size ≤ 20 := by simpa [ByteArray.size] using hl
  have HE : Hid ((⟨#[45]⟩ : ByteArray) ++ ⟨(Lib.decDigits (m + 1)).toArray⟩ = ⟨(Lib.itoa n).toArray⟩) := Lib.hid (by
    unfold Lib.itoa
    rw [if_pos (by omega), show n.natAbs = m + 1 by omega, ByteArray.mk_append_mk]
    simp)
  clear hc hl hn
  go_enter Tryd.func50, Tryd.ntmps50
  go_wp2_with fail
  refine HC.out.mono ?_
  rintro e w1 ⟨rfl, b1⟩
  generalize (⟨(Lib.decDigits (m + 1)).toArray⟩ : ByteArray) = S at HE hsz ⊢
  go_wp2_with fail
  go_ret
  exact ⟨by rw [← HE.out]; rfl, b1⟩
theorem rdec_any (n : Int) (w : World) (h0 : -9223372036854775808 ≤ n) (h1 : n ≤ 9223372036854775807) :
    Calls Tryd.prog 50 #[.int .i64 n] w fun e w' => e = .returned (.string ⟨(Lib.itoa n).toArray⟩) ∧ Below w.heap.size w w' := by
  by_cases h : 0 ≤ n
  · obtain ⟨m, rfl⟩ := Int.eq_ofNat_of_zero_le h
    exact rdec_pos m w (by omega)
  · have c := rdec_neg (-(n + 1)).toNat w (by omega)
    rw [show -(((-(n + 1)).toNat : Int) + 1) = n by omega] at c
    exact c
theorem text_cat (a b c d e : ByteArray) : a ++ ⟨#[32]⟩ ++ b ++ ⟨#[32]⟩ ++ c ++ ⟨#[32]⟩ ++ d ++ ⟨#[32]⟩ ++ e = ⟨(a.data.toList ++ 32 :: (b.data.toList ++ 32 :: (c.data.toList ++ 32 :: (d.data.toList ++ 32 :: e.data.toList)))).toArray⟩ := by
  apply ByteArray.ext
  simp
theorem itoa_size {n : Int} (h0 : -9223372036854775808 ≤ n) (h1 : n ≤ 9223372036854775807) : (⟨(Lib.itoa n).toArray⟩ : ByteArray).size ≤ 21 := by
  have := itoa_len h0 h1
  simpa [ByteArray.size] using this
set_option maxHeartbeats 4000000 in
set_option maxRecDepth 100000 in
theorem rText_any (x : Lk) (w : World) (q1 : x.it.size ≤ 1000) (q2 : x.pa.size ≤ 1000) (q3 : x.sp.size ≤ 1000) (t0 : -9223372036854775808 ≤ x.t ∧ x.t ≤ 9223372036854775807) (v0 : -9223372036854775808 ≤ x.vo ∧ x.vo ≤ 9223372036854775807) :
    Calls Tryd.prog 37 #[x.val] w fun e w' => e = .returned (.string ⟨(textL x).toArray⟩) ∧ Below w.heap.size w w' := by
  have HW := Lib.hid (bA (Below.refl w.heap.size w) (.cells #[.string x.it, .string x.pa, .int .i64 x.t, .int .i64 x.vo, .string x.sp, .int .u64 x.ha] 36))
  have SB := Lib.hid (fun (W : World) (hW : Below (w.alloc (.cells #[.string x.it, .string x.pa, .int .i64 x.t, .int .i64 x.vo, .string x.sp, .int .u64 x.ha] 36)).heap.size (w.alloc (.cells #[.string x.it, .string x.pa, .int .i64 x.t, .int .i64 x.vo, .string x.sp, .int .u64 x.ha] 36)) W) =>
    have k := cells6 ((hW.block w.heap.size (by simp)).trans (heap_alloc_new w _))
    And.intro k.1 (And.intro k.2.1 (And.intro k.2.2.1 (And.intro k.2.2.2.1 k.2.2.2.2.1))))
  have HC1 := Lib.hid (fun W => rdec_any x.t W t0.1 t0.2)
  have HC2 := Lib.hid (fun W => rdec_any x.vo W v0.1 v0.2)
  have z1 := itoa_size t0.1 t0.2
  have z2 := itoa_size v0.1 v0.2
  have HE : Hid (x.it ++ ⟨#[32]⟩ ++ x.pa ++ ⟨#[32]⟩ ++ x.sp ++ ⟨#[32]⟩ ++ ⟨(Lib.itoa x.t).toArray⟩ ++ ⟨#[32]⟩ ++ ⟨(Lib.itoa x.vo).toArray⟩ = (⟨(textL x).toArray⟩ : ByteArray)) := Lib.hid (by rw [text_cat]; rfl)
  obtain ⟨S, hS⟩ : ∃ S, S = (⟨(Lib.itoa x.t).toArray⟩ : ByteArray) := ⟨_, rfl⟩
  obtain ⟨S2, hS2⟩ : ∃ S, S = (⟨(Lib.itoa x.vo).toArray⟩ : ByteArray) := ⟨_, rfl⟩
  rw [← hS] at HE z1 HC1
  rw [← hS2] at HE z2 HC2
  clear hS hS2
  unfold Lk.val
  go_enter Tryd.func37, Tryd.ntmps37
  go_wp2_with fail
  obtain ⟨ι, hne, f, i0, hi, hF, hCC⟩ := below_class (w.alloc (.cells #[.string x.it, .string x.pa, .int .i64 x.t, .int .i64 x.vo, .string x.sp, .int .u64 x.ha] 36))
  have HH := Lib.hid hF
  have HC := Lib.hid hCC
  have e0 := fun n => (SB.out _ (HH.out n)).1
  have e1 := fun n => (SB.out _ (HH.out n)).2.1
  have e2 := fun n => (SB.out _ (HH.out n)).2.2.1
  have e3 := fun n => (SB.out _ (HH.out n)).2.2.2.1
  have e4 := fun n => (SB.out _ (HH.out n)).2.2.2.2
  clear hF hCC
  refine wp_region_class f i0 hi (by kernel_rfl) (by kernel_rfl) ?_
  repeat (first
    | go_big_quiet_step ((first
        | (go_at_call_of 50 x.t; exact class_call HC.out (HC1.out _))
        | (go_at_call_of 50 x.vo; exact class_call HC.out (HC2.out _)))))
  refine wpQuiet_nil ?_
  rintro _ ⟨nq, rfl⟩
  go_wp2
  go_ret
  exact ⟨by rw [← HE.out]; rfl, HW.out.trans ((HH.out nq).mono HW.out.size)⟩
def bcells (l : List UInt8) : List Value := l.map (fun c => Value.int .u8 c.toNat)
theorem bcells_len (l : List UInt8) : (bcells l).length = l.length := by simp [bcells]
theorem bcells_snoc (l : List UInt8) (c : UInt8) : bcells (l ++ [c]) = bcells l ++ [.int .u8 c.toNat] := by simp [bcells]
theorem push_fold (l : List UInt8) : ∀ acc : ByteArray, (l.map (fun c => (c.toNat : Int))).foldl (fun r n => r.push (UInt8.ofNat n.toNat)) acc = ⟨acc.data ++ l.toArray⟩ := by
  induction l with
  | nil => intro acc; simp
  | cons c r ih =>
    intro acc
    rw [List.map_cons, List.foldl_cons, ih]
    apply ByteArray.ext
    simp [ByteArray.push]
theorem bytes_str {W : World} {g off n cap : Nat} (l : List UInt8) (hn : l.length = n) (h : ∀ (j : Nat) (v : Value), (bcells l)[j]? = some v → W.cell? ⟨g, off + j, none⟩ = some v) :
    (convert 98 9 (.slice (some ⟨g, off, none⟩) n cap)).run Tryd.prog W = .ok (.string ⟨l.toArray⟩) W := by
  rw [run_convert_bytes_string _ _ _ 5 _ _ _ Tryd.underlying98 Tryd.underlying5 Tryd.underlying9]
  have hl := run_loadCells_list (P := Tryd.prog) W ⟨g, off, none⟩ (bcells l) (fun j v hj => by
    have := h j v hj
    by_cases hj0 : j = 0
    · subst hj0; exact this
    · simp only [Addr.add, hj0, if_false]; exact this)
  have hbc : bcells l = (l.map (fun c => (c.toNat : Int))).map (Value.int .u8) := by simp [bcells]
  rw [bcells_len, hn, hbc] at hl
  rw [run_bytesToString _ _ n cap _ hl, push_fold]
  congr 3
  simp
theorem infoByte : (Tryd.prog.info? 5).map (fun i => (i.zero, i.size, i.bytes)) = some (some (.int .u8 0), 1, 1) := by kernel_rfl
theorem und_bytes : Tryd.prog.underlying 98 = some (.slice 5) := by kernel_rfl
theorem byte_of (n d : Int) (hd : 0 ≤ n / d) : n / d % 256 = ((UInt8.ofNat ((n / d).toNat % 256)).toNat : Int) := by
  rw [UInt8.toNat_ofNat']
  omega
theorem be8_at (n : Int) : ∀ (k : Nat) (c : UInt8), (be8 n)[k]? = some c → 0 ≤ n → n / ([72057594037927936, 281474976710656, 1099511627776, 4294967296, 16777216, 65536, 256, 1] : List Int).getD k 1 % 256 = c.toNat := by
  intro k c h h0
  have hk : k < 8 := (List.getElem?_eq_some_iff.1 h).1
  obtain rfl | rfl | rfl | rfl | rfl | rfl | rfl | rfl : k = 0 ∨ k = 1 ∨ k = 2 ∨ k = 3 ∨ k = 4 ∨ k = 5 ∨ k = 6 ∨ k = 7 := by omega
  all_goals
    have h' := Option.some.inj h
    rw [← h']
    exact byte_of _ _ (Int.ediv_nonneg h0 (by decide))
set_option maxHeartbeats 4000000 in
set_option maxRecDepth 100000 in
theorem rBytes_any (n : Int) (w : World) (h0 : 0 ≤ n) :
    Calls Tryd.prog 49 #[.int .u64 n] w fun e w' => e = .returned (.string ⟨(be8 n).toArray⟩) ∧ Below w.heap.size w w' := by
  have HAT := Lib.hid (fun k c h => be8_at n k c h h0)
  have HL : Hid ((be8 n).length = 8) := Lib.hid rfl
  go_enter Tryd.func49, Tryd.ntmps49
  go_wp2
  go_loopw [3, 4] (fun v i wr => ∃ k : Nat, k ≤ 8 ∧ i = .int .i64 k ∧ Hid (wr.ownsRow w.heap.size 5 1 v k (bcells ((be8 n).take k))) ∧ Hid (Below w.heap.size w wr)) (fun _ i _ => 8 - (intOf i).toNat)
  case atStart => exact ⟨0, Nat.zero_le _, rfl, World.ownsRow_nil _ _ _ _, Below.refl _ _⟩
  case round =>
    obtain ⟨k, hk, rfl, HO, HB⟩ := hrel
    by_cases hlt : k < 8
    · obtain ⟨c, hc⟩ : ∃ c, (be8 n)[k]? = some c := ⟨_, List.getElem?_eq_getElem (by rw [HL.out]; exact hlt)⟩
      have HV := Lib.hid (HAT.out k c hc)
      have HN : Hid ((be8 n).take (k + 1) = (be8 n).take k ++ [c]) := by unfold Hid; rw [List.take_add_one, hc]; rfl
      obtain ⟨A3, c3, rfl⟩ := own_shape HO.out
      obtain ⟨i0, hi, hz0, hz1, hz2⟩ := info_parts infoByte
      have hsw := HB.out.size
      clear hc
      generalize (be8 n).take k = xs at HO HN
      obtain rfl | rfl | rfl | rfl | rfl | rfl | rfl | rfl : k = 0 ∨ k = 1 ∨ k = 2 ∨ k = 3 ∨ k = 4 ∨ k = 5 ∨ k = 6 ∨ k = 7 := by omega
      · have HVk : Hid (n / 72057594037927936 % 256 = (c.toNat : Int)) := Lib.hid HV.out
        clear HV
        go_wp2_with (at_builtin; refine wpList_append_lies _ rfl (.tmp 9) (.tmp 17) _ (by rfl) w.heap.size 5 i0 _ 1 1 und_bytes hi hz0 hz1 hz2 rfl (by omega) (.slice A3 0 c3) 0 (bcells xs) (by rfl) (own_below HO.out (bA (Below.refl _ _) _)) ⟨wr.heap.size, 0, none⟩ 1 1 [.int .u8 (n / 72057594037927936 % 256)] (by rfl) rfl ?hnews (by intro u hu; simp at hu; subst hu; rfl) (by omega) (by unfold maxLen; omega) (by omega) (by simp; omega) (wr.heap.size + 1) (by simp) ?_)
        case hnews => exact World.news_of_block (heap_alloc_new wr _)
        intro g1 cap w4 hown hgrow hat hlt4
        have HN2 : Hid (w4.ownsRow w.heap.size 5 1 (.slice (some ⟨g1, 0, none⟩) (0 + 1) cap) (0 + 1) (bcells ((be8 n).take (0 + 1)))) := by unfold Hid; rw [HN.out, bcells_snoc, ← HVk.out]; exact hown
        have HB4 := Lib.hid (below_of_grown (bA HB.out _) hgrow (fun k e => (HO.out.lt k e).1))
        clear hown hgrow hat hlt4
        go_wp2_with fail
        go_roundw
        case rel => exact ⟨0 + 1, by omega, by go_num, HN2, HB4⟩
        case measure => simp [intOf]
      · have HVk : Hid (n / 281474976710656 % 256 = (c.toNat : Int)) := Lib.hid HV.out
        clear HV
        go_wp2_with (at_builtin; refine wpList_append_lies _ rfl (.tmp 9) (.tmp 17) _ (by rfl) w.heap.size 5 i0 _ 1 1 und_bytes hi hz0 hz1 hz2 rfl (by omega) (.slice A3 1 c3) 1 (bcells xs) (by rfl) (own_below HO.out (bA (Below.refl _ _) _)) ⟨wr.heap.size, 0, none⟩ 1 1 [.int .u8 (n / 281474976710656 % 256)] (by rfl) rfl ?hnews (by intro u hu; simp at hu; subst hu; rfl) (by omega) (by unfold maxLen; omega) (by omega) (by simp; omega) (wr.heap.size + 1) (by simp) ?_)
        case hnews => exact World.news_of_block (heap_alloc_new wr _)
        intro g1 cap w4 hown hgrow hat hlt4
        have HN2 : Hid (w4.ownsRow w.heap.size 5 1 (.slice (some ⟨g1, 0, none⟩) (1 + 1) cap) (1 + 1) (bcells ((be8 n).take (1 + 1)))) := by unfold Hid; rw [HN.out, bcells_snoc, ← HVk.out]; exact hown
        have HB4 := Lib.hid (below_of_grown (bA HB.out _) hgrow (fun k e => (HO.out.lt k e).1))
        clear hown hgrow hat hlt4
        go_wp2_with fail
        go_roundw
        case rel => exact ⟨1 + 1, by omega, by go_num, HN2, HB4⟩
        case measure => simp [intOf]
      · have HVk : Hid (n / 1099511627776 % 256 = (c.toNat : Int)) := Lib.hid HV.out
        clear HV
        go_wp2_with (at_builtin; refine wpList_append_lies _ rfl (.tmp 9) (.tmp 17) _ (by rfl) w.heap.size 5 i0 _ 1 1 und_bytes hi hz0 hz1 hz2 rfl (by omega) (.slice A3 2 c3) 2 (bcells xs) (by rfl) (own_below HO.out (bA (Below.refl _ _) _)) ⟨wr.heap.size, 0, none⟩ 1 1 [.int .u8 (n / 1099511627776 % 256)] (by rfl) rfl ?hnews (by intro u hu; simp at hu; subst hu; rfl) (by omega) (by unfold maxLen; omega) (by omega) (by simp; omega) (wr.heap.size + 1) (by simp) ?_)
        case hnews => exact World.news_of_block (heap_alloc_new wr _)
        intro g1 cap w4 hown hgrow hat hlt4
        have HN2 : Hid (w4.ownsRow w.heap.size 5 1 (.slice (some ⟨g1, 0, none⟩) (2 + 1) cap) (2 + 1) (bcells ((be8 n).take (2 + 1)))) := by unfold Hid; rw [HN.out, bcells_snoc, ← HVk.out]; exact hown
        have HB4 := Lib.hid (below_of_grown (bA HB.out _) hgrow (fun k e => (HO.out.lt k e).1))
        clear hown hgrow hat hlt4
        go_wp2_with fail
        go_roundw
        case rel => exact ⟨2 + 1, by omega, by go_num, HN2, HB4⟩
        case measure => simp [intOf]
      · have HVk : Hid (n / 4294967296 % 256 = (c.toNat : Int)) := Lib.hid HV.out
        clear HV
        go_wp2_with (at_builtin; refine wpList_append_lies _ rfl (.tmp 9) (.tmp 17) _ (by rfl) w.heap.size 5 i0 _ 1 1 und_bytes hi hz0 hz1 hz2 rfl (by omega) (.slice A3 3 c3) 3 (bcells xs) (by rfl) (own_below HO.out (bA (Below.refl _ _) _)) ⟨wr.heap.size, 0, none⟩ 1 1 [.int .u8 (n / 4294967296 % 256)] (by rfl) rfl ?hnews (by intro u hu; simp at hu; subst hu; rfl) (by omega) (by unfold maxLen; omega) (by omega) (by simp; omega) (wr.heap.size + 1) (by simp) ?_)
        case hnews => exact World.news_of_block (heap_alloc_new wr _)
        intro g1 cap w4 hown hgrow hat hlt4
        have HN2 : Hid (w4.ownsRow w.heap.size 5 1 (.slice (some ⟨g1, 0, none⟩) (3 + 1) cap) (3 + 1) (bcells ((be8 n).take (3 + 1)))) := by unfold Hid; rw [HN.out, bcells_snoc, ← HVk.out]; exact hown
        have HB4 := Lib.hid (below_of_grown (bA HB.out _) hgrow (fun k e => (HO.out.lt k e).1))
        clear hown hgrow hat hlt4
        go_wp2_with fail
        go_roundw
        case rel => exact ⟨3 + 1, by omega, by go_num, HN2, HB4⟩
        case measure => simp [intOf]
      · have HVk : Hid (n / 16777216 % 256 = (c.toNat : Int)) := Lib.hid HV.out
        clear HV
        go_wp2_with (at_builtin; refine wpList_append_lies _ rfl (.tmp 9) (.tmp 17) _ (by rfl) w.heap.size 5 i0 _ 1 1 und_bytes hi hz0 hz1 hz2 rfl (by omega) (.slice A3 4 c3) 4 (bcells xs) (by rfl) (own_below HO.out (bA (Below.refl _ _) _)) ⟨wr.heap.size, 0, none⟩ 1 1 [.int .u8 (n / 16777216 % 256)] (by rfl) rfl ?hnews (by intro u hu; simp at hu; subst hu; rfl) (by omega) (by unfold maxLen; omega) (by omega) (by simp; omega) (wr.heap.size + 1) (by simp) ?_)
        case hnews => exact World.news_of_block (heap_alloc_new wr _)
        intro g1 cap w4 hown hgrow hat hlt4
        have HN2 : Hid (w4.ownsRow w.heap.size 5 1 (.slice (some ⟨g1, 0, none⟩) (4 + 1) cap) (4 + 1) (bcells ((be8 n).take (4 + 1)))) := by unfold Hid; rw [HN.out, bcells_snoc, ← HVk.out]; exact hown
        have HB4 := Lib.hid (below_of_grown (bA HB.out _) hgrow (fun k e => (HO.out.lt k e).1))
        clear hown hgrow hat hlt4
        go_wp2_with fail
        go_roundw
        case rel => exact ⟨4 + 1, by omega, by go_num, HN2, HB4⟩
        case measure => simp [intOf]
      · have HVk : Hid (n / 65536 % 256 = (c.toNat : Int)) := Lib.hid HV.out
        clear HV
        go_wp2_with (at_builtin; refine wpList_append_lies _ rfl (.tmp 9) (.tmp 17) _ (by rfl) w.heap.size 5 i0 _ 1 1 und_bytes hi hz0 hz1 hz2 rfl (by omega) (.slice A3 5 c3) 5 (bcells xs) (by rfl) (own_below HO.out (bA (Below.refl _ _) _)) ⟨wr.heap.size, 0, none⟩ 1 1 [.int .u8 (n / 65536 % 256)] (by rfl) rfl ?hnews (by intro u hu; simp at hu; subst hu; rfl) (by omega) (by unfold maxLen; omega) (by omega) (by simp; omega) (wr.heap.size + 1) (by simp) ?_)
        case hnews => exact World.news_of_block (heap_alloc_new wr _)
        intro g1 cap w4 hown hgrow hat hlt4
        have HN2 : Hid (w4.ownsRow w.heap.size 5 1 (.slice (some ⟨g1, 0, none⟩) (5 + 1) cap) (5 + 1) (bcells ((be8 n).take (5 + 1)))) := by unfold Hid; rw [HN.out, bcells_snoc, ← HVk.out]; exact hown
        have HB4 := Lib.hid (below_of_grown (bA HB.out _) hgrow (fun k e => (HO.out.lt k e).1))
        clear hown hgrow hat hlt4
        go_wp2_with fail
        go_roundw
        case rel => exact ⟨5 + 1, by omega, by go_num, HN2, HB4⟩
        case measure => simp [intOf]
      · have HVk : Hid (n / 256 % 256 = (c.toNat : Int)) := Lib.hid HV.out
        clear HV
        go_wp2_with (at_builtin; refine wpList_append_lies _ rfl (.tmp 9) (.tmp 17) _ (by rfl) w.heap.size 5 i0 _ 1 1 und_bytes hi hz0 hz1 hz2 rfl (by omega) (.slice A3 6 c3) 6 (bcells xs) (by rfl) (own_below HO.out (bA (Below.refl _ _) _)) ⟨wr.heap.size, 0, none⟩ 1 1 [.int .u8 (n / 256 % 256)] (by rfl) rfl ?hnews (by intro u hu; simp at hu; subst hu; rfl) (by omega) (by unfold maxLen; omega) (by omega) (by simp; omega) (wr.heap.size + 1) (by simp) ?_)
        case hnews => exact World.news_of_block (heap_alloc_new wr _)
        intro g1 cap w4 hown hgrow hat hlt4
        have HN2 : Hid (w4.ownsRow w.heap.size 5 1 (.slice (some ⟨g1, 0, none⟩) (6 + 1) cap) (6 + 1) (bcells ((be8 n).take (6 + 1)))) := by unfold Hid; rw [HN.out, bcells_snoc, ← HVk.out]; exact hown
        have HB4 := Lib.hid (below_of_grown (bA HB.out _) hgrow (fun k e => (HO.out.lt k e).1))
        clear hown hgrow hat hlt4
        go_wp2_with fail
        go_roundw
        case rel => exact ⟨6 + 1, by omega, by go_num, HN2, HB4⟩
        case measure => simp [intOf]
      · have HVk : Hid (n % 256 = (c.toNat : Int)) := Lib.hid (by have h := HV.out; rw [show ([72057594037927936, 281474976710656, 1099511627776, 4294967296, 16777216, 65536, 256, 1] : List Int).getD 7 1 = 1 from rfl, Int.ediv_one] at h; exact h)
        clear HV
        go_wp2_with (at_builtin; refine wpList_append_lies _ rfl (.tmp 9) (.tmp 17) _ (by rfl) w.heap.size 5 i0 _ 1 1 und_bytes hi hz0 hz1 hz2 rfl (by omega) (.slice A3 7 c3) 7 (bcells xs) (by rfl) (own_below HO.out (bA (Below.refl _ _) _)) ⟨wr.heap.size, 0, none⟩ 1 1 [.int .u8 (n % 256)] (by rfl) rfl ?hnews (by intro u hu; simp at hu; subst hu; rfl) (by omega) (by unfold maxLen; omega) (by omega) (by simp; omega) (wr.heap.size + 1) (by simp) ?_)
        case hnews => exact World.news_of_block (heap_alloc_new wr _)
        intro g1 cap w4 hown hgrow hat hlt4
        have HN2 : Hid (w4.ownsRow w.heap.size 5 1 (.slice (some ⟨g1, 0, none⟩) (7 + 1) cap) (7 + 1) (bcells ((be8 n).take (7 + 1)))) := by unfold Hid; rw [HN.out, bcells_snoc, ← HVk.out]; exact hown
        have HB4 := Lib.hid (below_of_grown (bA HB.out _) hgrow (fun k e => (HO.out.lt k e).1))
        clear hown hgrow hat hlt4
        go_wp2_with fail
        go_roundw
        case rel => exact ⟨7 + 1, by omega, by go_num, HN2, HB4⟩
        case measure => simp [intOf]
    · obtain rfl : k = 8 := by omega
      have ht : (be8 n).take 8 = be8 n := rfl
      rw [ht] at HO
      obtain ⟨g, cap, rfl, _, hg⟩ := HO.out.form (by decide)
      have hcv := bytes_str (W := wr) (g := g) (off := 0) (n := 8) (cap := cap) (be8 n) rfl (fun j v hj => by
        rw [Nat.zero_add, HO.out.cellAt j (by have := (List.getElem?_eq_some_iff.1 hj).1; rw [bcells_len, HL.out] at this; omega)]
        exact hj)
      obtain ⟨B, hB⟩ : ∃ B, Hid (be8 n = B) := ⟨_, rfl⟩
      rw [hB.out] at hcv
      go_wp2
      go_ret
      exact ⟨by rw [hB.out]; rfl, HB.out⟩
set_option maxRecDepth 100000 in
theorem rChain_any (n : Int) (s : ByteArray) (w : World) (h0 : 0 ≤ n) (hs : s.size ≤ 100000000) :
    Calls Tryd.prog 36 #[.int .u64 n, .string s] w fun e w' => e = .returned (.int .u64 (chainH n s.data.toList)) ∧ Below w.heap.size w w' := by
  obtain ⟨B, hB⟩ : ∃ B : ByteArray, Hid ((⟨(be8 n).toArray⟩ : ByteArray) = B) := ⟨_, rfl⟩
  have HC := Lib.hid (rBytes_any n w h0)
  have hbs : B.size = 8 := by rw [← hB.out]; rfl
  rw [hB.out] at HC
  have HE : Hid (fnv 14695981039346656037 (B ++ s).data.toList = chainH n s.data.toList) := by
    unfold Hid
    rw [← hB.out]
    simp [chainH, fnv]
  have hsz : (B ++ s).size = 8 + s.size := by rw [ByteArray.size_append, hbs]
  go_enter Tryd.func36, Tryd.ntmps36
  go_wp2_with fail
  refine HC.out.mono ?_
  rintro e w1 ⟨rfl, b1⟩
  go_wp2_with fail
  refine (rHash_any (B ++ s) _ (by omega)).mono ?_
  rintro e w2 ⟨rfl, rfl⟩
  rw [HE.out]
  go_wp2_with fail
  go_ret
  exact ⟨rfl, b1⟩
theorem textL_size {x : Lk} (q1 : x.it.size ≤ 1000) (q2 : x.pa.size ≤ 1000) (q3 : x.sp.size ≤ 1000) (t0 : -9223372036854775808 ≤ x.t ∧ x.t ≤ 9223372036854775807) (v0 : -9223372036854775808 ≤ x.vo ∧ x.vo ≤ 9223372036854775807) : (⟨(textL x).toArray⟩ : ByteArray).size ≤ 10000 := by
  have z1 := itoa_len t0.1 t0.2
  have z2 := itoa_len v0.1 v0.2
  have e : ∀ s : ByteArray, s.data.toList.length = s.size := fun s => by rw [Array.length_toList]; rfl
  show (textL x).toArray.size ≤ 10000
  rw [List.size_toArray]
  unfold textL
  simp only [List.length_append, List.length_cons, e]
  omega
set_option maxRecDepth 100000 in
theorem rLHash_any (n : Int) (x : Lk) (w : World) (h0 : 0 ≤ n) (q1 : x.it.size ≤ 1000) (q2 : x.pa.size ≤ 1000) (q3 : x.sp.size ≤ 1000) (t0 : -9223372036854775808 ≤ x.t ∧ x.t ≤ 9223372036854775807) (v0 : -9223372036854775808 ≤ x.vo ∧ x.vo ≤ 9223372036854775807) :
    Calls Tryd.prog 15 #[.int .u64 n, x.val] w fun e w' => e = .returned (.int .u64 (hashL n x)) ∧ Below w.heap.size w w' := by
  have HW := Lib.hid (bA (Below.refl w.heap.size w) (.cells #[.string x.it, .string x.pa, .int .i64 x.t, .int .i64 x.vo, .string x.sp, .int .u64 x.ha] 36))
  have HT := Lib.hid (fun W => rText_any x W q1 q2 q3 t0 v0)
  have hsz := textL_size q1 q2 q3 t0 v0
  have HC := Lib.hid (fun W => rChain_any n ⟨(textL x).toArray⟩ W h0 (by omega))
  obtain ⟨S, hS⟩ : ∃ S : ByteArray, Hid ((⟨(textL x).toArray⟩ : ByteArray) = S) := ⟨_, rfl⟩
  have HE : Hid (chainH n S.data.toList = hashL n x) := by unfold Hid; rw [← hS.out]; rfl
  rw [hS.out] at HT HC
  unfold Lk.val at HT ⊢
  clear hsz q1 q2 q3 t0 v0 h0
  go_enter Tryd.func15, Tryd.ntmps15
  go_wp2_with fail
  refine (HT.out _).mono ?_
  rintro e w1 ⟨rfl, b1⟩
  have B1 := Lib.hid b1
  clear b1
  go_wp2_with fail
  refine (HC.out _).mono ?_
  rintro e w2 ⟨rfl, b2⟩
  rw [HE.out]
  have B2 := Lib.hid (bT B1.out b2)
  clear b2
  go_wp2_with fail
  go_ret
  exact ⟨rfl, HW.out.trans (B2.out.mono HW.out.size)⟩
end Go.Proofs.YtgonghmihghhnaaDoor.Cu
