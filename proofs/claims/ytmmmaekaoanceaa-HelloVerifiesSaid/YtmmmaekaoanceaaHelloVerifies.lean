/- 'HelloVerifies': just the hello is verified of whose owner the table knows the epoch and the tag; all else has one answer: the law hands back true. Conditions: none. -/
import Derived.Test.YtmmmaekaoanceaaHelloBack
import Derived.Test.YtmmmaekaoanceaaHelloC
import Derived.Test.YtmmmaekaoanceaaRow
namespace Go.Proofs.Ytmmmaekaoanceaa
open Go Go.RowKit Go.ChangeShapes Go.WideShapes Go.ChangeAt Go.Deep
open Go.ChangeMaps (open_string shut_string)

theorem xor_one_ne (n : Nat) : n ^^^ 1 ≠ n := by
  intro h
  have h2 : n ^^^ (n ^^^ 1) = n ^^^ n := by rw [h]
  rw [← Nat.xor_assoc, Nat.xor_self, Nat.zero_xor] at h2
  exact absurd h2 (by decide)
/-- what was issued last: nothing yet, or it is known -/
def Last (k : Nat) (t : Tab) (ow ep tg : Nat) : Prop := (k = 0 ∧ ow = 0 ∧ ep = 0 ∧ tg = 0 ∧ t = Tab.none) ∨ (0 < k ∧ knowsT t ow ep tg = true)
theorem issue_les (t : Tab) (o n k : Nat) (h : ∀ i, t.es i ≤ k) : ∀ i, (t.issue o n).es i ≤ k + 1 := by
  intro i
  have h1 := h i; have h2 := h o
  unfold Tab.issue
  simp only
  split <;> omega
theorem last_ver {k : Nat} {t : Tab} {ow ep tg : Nat} (h : Last k t ow ep tg) (ho : ow ≤ 2147483647) (he : ep ≤ 2147483647) (ht : tg < 18446744073709551616) :
    verT t (S (hL ow ep tg)) = (if k = 0 then (0, 16) else (ow, 0)) ∧ verT t (S (hL ow ep (tg ^^^ 1))) = (0, 16) := by
  have hx : tg ^^^ 1 < 18446744073709551616 := Nat.xor_lt_two_pow (n := 64) ht (by decide)
  have h1 := h_back ow ep tg ho he ht
  have h2 := h_back ow ep (tg ^^^ 1) ho he hx
  rcases h with ⟨rfl, rfl, rfl, rfl, rfl⟩ | ⟨hk, hkn⟩
  · exact ⟨by rw [if_pos rfl]; exact ver_no h1 (none_knows _ _ _), ver_no h2 (none_knows _ _ _)⟩
  · refine ⟨by rw [if_neg (by omega)]; exact ver_yes h1 hkn, ver_no h2 ?_⟩
    have h3 := of_decide_eq_true hkn
    unfold knowsT
    rw [decide_eq_false_iff_not]
    rintro ⟨_, _, _, h5⟩
    have h4 := h3.2.2.2
    rw [h4] at h5
    exact xor_one_ne tg (congrArg Prod.snd h5).symm

set_option maxHeartbeats 6400000 in
set_option maxRecDepth 100000 in
theorem helloVerifies_walk (v : Value) (l : List Int) {w0 : World} (hr0 : Row w0 v l 1 (fun x => [.int .u64 x])) (hl0 : ∀ x ∈ l, 0 ≤ x ∧ x ≤ 18446744073709551615) (b : ByteArray) (hb : b.size ≤ 140737488351232) (_ : World) :
    Calls Try.prog 12 #[v, .string b] w0 (Gives w0 (.bool true)) := by
  have hmb : b.size ≤ maxLen := by unfold maxLen; omega
  obtain ⟨p, cap, rfl, hl, hm, hrow⟩ := hr0
  unfold maxLen at hm
  have HL0 := Lib.hid hl0
  clear hl0
  by_cases h60 : 60 < l.length
  · go_enter Try.func12, Try.ntmps12
    go_wp2_with fail
    refine (awake22_any _).mono ?_
    rintro e w1 ⟨rfl, hu1⟩
    go_wp2_with fail
    go_ret
    exact Gives.mk rfl hu1
  · go_enter Try.func12, Try.ntmps12
    go_wp2_with fail
    refine (new_any _).mono ?_
    rintro e w1 ⟨d, rfl, hd, hD, hu1⟩
    go_wp2_with fail
    refine (macnew_any _).mono ?_
    rintro e w2 ⟨g, rfl, hg, hT, hu2⟩
    have hgd : g ≠ d := by have := hD.lt; omega
    have hD2 := hD.up' hu2
    have hwg : w0.heap.size ≤ g := Nat.le_trans hu1.size hg
    have hup2 := hu1.trans hu2
    clear hu1 hu2 hD
    go_wp2_with fail
    go_loopw [7, 8, 9, 10] (fun s7 s8 s9 i wr => ∃ (k : Nat) (t : Tab) (ow ep tg : Nat), k ≤ l.length ∧ i = .int .i64 k ∧ s7 = .int .i64 (ow : Nat) ∧ s8 = .int .i64 (ep : Nat) ∧ s9 = .int .u64 (tg : Nat) ∧ ow ≤ 8 ∧ ep ≤ 1000 ∧ tg < 18446744073709551616 ∧ Hid (Last k t ow ep tg) ∧ Hid (∀ i, t.es i ≤ k) ∧ TabAt wr g t ∧ DiceAt wr d [] ∧ Up w0 wr) (fun _ _ _ i _ => l.length - (intOf i).toNat)
    case atStart => exact ⟨0, Tab.none, 0, 0, 0, Nat.zero_le _, rfl, rfl, rfl, rfl, by omega, by omega, by omega, .inl ⟨rfl, rfl, rfl, rfl, rfl⟩, (fun _ => Nat.le_refl _), hT, hD2, hup2⟩
    case round =>
      clear hT hD2 hup2
      obtain ⟨k, t, ow, ep, tg, hk, rfl, rfl, rfl, rfl, how, hep, htg, hLa, hE, hT, hD, hup⟩ := hrel
      by_cases hlt : k < l.length
      · obtain ⟨bb, off, rfl, hbb, hc⟩ := hrow (by omega)
        have hx : l[k]? = some l[k] := List.getElem?_eq_getElem hlt
        have hxb := HL0.out _ (List.getElem_mem hlt)
        have hcell : ∀ w, Up w0 w → w.cell? ⟨bb, off + k, none⟩ = some (.int .u64 l[k]) := fun w hu => by
          rw [hu.cell hbb]; have := hc k _ hx 0 _ rfl; simpa using this
        obtain ⟨n, hn⟩ := Int.eq_ofNat_of_zero_le hxb.1
        rw [hn] at hcell hxb
        have HC := Lib.hid hcell
        have c0 := hcell wr hup
        have hes := hE.out (n % 9)
        have hn9 := Nat.mod_lt n (y := 9) (by decide)
        have HI := Lib.hid (issue_les t (n % 9) n k hE.out)
        have HK := Lib.hid (issue_knows t (n % 9) n (by omega))
        clear hc hx hcell hrow hn hLa hE
        go_wp2_with fail
        refine (put_room _ _ _ _ hD (by decide)).mono ?_
        rintro e w3 ⟨rfl, hD3, ho3⟩
        have hup3 := hup.only ho3 hd
        have hT3 := hT.only ho3 hgd
        have c3 := HC.out w3 hup3
        clear c0
        go_wp2_with fail
        rw [show (n : Int) % 9 = ((n % 9 : Nat) : Int) from by omega]
        refine (issue_ok (n % 9) n g d t [] _ (by omega) (by omega) hT3 hD3 hgd (by omega)).mono ?_
        rintro e w4 ⟨rfl, hT4, hD4, hu4⟩
        have hup4 := hu4.up w0 hwg hd hup3
        have hep2 : t.es (n % 9) + 1 ≤ 1000 := by omega
        have htg2 := tagN_lt n (t.es (n % 9) + 1) (n % 9)
        generalize t.es (n % 9) + 1 = ep2 at *
        generalize tagN n ep2 (n % 9) = tg2 at *
        generalize n % 9 = ow2 at *
        clear hT hT3 hD hD3 hup hup3 ho3 hu4 c3
        go_wp2_with fail
        go_roundw
        case rel => exact ⟨k + 1, _, ow2, ep2, tg2, by omega, by go_num, rfl, rfl, rfl, by omega, by omega, htg2, .inr ⟨Nat.succ_pos _, HK.out⟩, HI.out, hT4, hD4, hup4⟩
        case measure => simp [intOf]; omega
      · have hkl : k = l.length := by omega
        obtain ⟨hv1, hv2⟩ := last_ver hLa.out (by omega) (by omega) htg
        have hsz1 := hL_size ow ep tg (by omega) (by omega) (by omega)
        have hxl : tg ^^^ 1 < 18446744073709551616 := Nat.xor_lt_two_pow (n := 64) htg (by decide)
        have hsz2 := hL_size ow ep (tg ^^^ 1) (by omega) (by omega) hxl
        have HP1 := Lib.hid (show hputT (ow : Nat) (ep : Nat) (tg : Nat) = (S (hL ow ep tg), 0) by rw [hput_ok (by omega)]; simp only [Int.toNat_natCast]; rfl)
        have HP2 := Lib.hid (show hputT (ow : Nat) (ep : Nat) ((tg ^^^ 1 : Nat) : Int) = (S (hL ow ep (tg ^^^ 1)), 0) by rw [hput_ok (by omega)]; simp only [Int.toNat_natCast]; rfl)
        have HX := Lib.hid (show bits .xor .u64 (tg : Int) 1 = ((tg ^^^ 1 : Nat) : Int) from bits_xor_nat tg 1 htg (by decide))
        have HV2 := Lib.hid hv2
        obtain ⟨⟨n1, n2, n3, x⟩, ht⟩ : ∃ r, helloT b = r := ⟨_, rfl⟩
        have HT := Lib.hid ht
        clear hLa hE hrow hv2
        by_cases hk0 : k = 0
        · have hv3 : Hid (verT t (S (hL ow ep tg)) = (0, 16)) := by unfold Hid; rw [hv1, if_pos hk0]
          have hl0 : l.length ≤ 0 := by omega
          have f1 : decide (0 < l.length) = false := decide_eq_false (by omega)
          have f2 : decide ((0 : Int) < l.length) = false := decide_eq_false (by omega)
          have f3 : ((l.length : Int) == 0) = true := by rw [beq_iff_eq]; omega
          clear hl0
          clear hk0 hkl hv1
          by_cases hx : x = 0
          · subst hx
            cases hkn : knowsT t n1 n2 n3 with
            | true =>
              have HVB := Lib.hid (ver_yes ht hkn)
              have HK := Lib.hid hkn
              clear ht hkn
              go_wp2_with fail
              refine (refhtake_any b _ hmb).mono ?_
              rintro e w4 ⟨rfl, hu4⟩
              rw [HT.out]
              unfold helloV
              go_wp2_with fail
              refine (verify_any b g t _ hmb ((hT.up hu4).up ((Up.refl _).alloc _))).mono ?_
              rintro e w5 ⟨rfl, hu5⟩
              rw [HVB.out]
              unfold verV
              have hz5 := hu5.keep (blk_new w4 (.cells #[.int .i64 n1, .int .i64 n2, .int .u64 n3] 59))
              have z0 : w5.cell? ⟨w4.heap.size, 0, none⟩ = some (.int .i64 n1) := blk_cell hz5 0
              have z1 : w5.cell? ⟨w4.heap.size, 1, none⟩ = some (.int .i64 n2) := blk_cell hz5 1
              have z2 : w5.cell? ⟨w4.heap.size, 2, none⟩ = some (.int .u64 n3) := blk_cell hz5 2
              have hT6 := ((hT.up hu4).up ((Up.refl w4).alloc (.cells #[.int .i64 n1, .int .i64 n2, .int .u64 n3] 59))).up hu5
              have hup6 := ((hup.trans hu4).alloc (.cells #[.int .i64 n1, .int .i64 n2, .int .u64 n3] 59)).trans hu5
              clear hz5 hu4 hu5 hT hup
              go_wp2_with fail
              refine (knows_any n1 n2 n3 _ t _ hT6).mono ?_
              rintro e w6 ⟨rfl, rfl⟩
              rw [HK.out]
              go_wp2_with fail
              refine (refhput_any _ _ _ _ (by omega) (by omega) (by omega) (by omega) (by omega) (by omega)).mono ?_
              rintro e w7 ⟨rfl, hu7⟩
              rw [HP1.out]
              unfold hpairV
              go_wp2_with fail
              refine (verify_any _ g t _ (by unfold maxLen; omega) (hT6.up hu7)).mono ?_
              rintro e w8 ⟨rfl, hu8⟩
              rw [hv3.out]
              unfold verV
              have hT8 := (hT6.up hu7).up hu8
              have hup8 := (hup6.trans hu7).trans hu8
              clear hT6 hup6 hu7 hu8
              go_wp2_with fail
              rw [HX.out]
              refine (refhput_any _ _ _ _ (by omega) (by omega) (by omega) (by omega) (by omega) (by omega)).mono ?_
              rintro e w9 ⟨rfl, hu9⟩
              rw [HP2.out]
              unfold hpairV
              go_wp2_with fail
              refine (verify_any _ g t _ (by unfold maxLen; omega) (hT8.up hu9)).mono ?_
              rintro e w10 ⟨rfl, hu10⟩
              rw [HV2.out]
              unfold verV
              go_wp2_with fail
              refine (verify_nil _ _ (by unfold maxLen; omega)).mono ?_
              rintro e w11 ⟨rfl, hu11⟩
              unfold verV
              go_wp2_with fail
              refine (awake22_any _).mono ?_
              rintro e w12 ⟨rfl, hu12⟩
              go_wp2_with fail
              go_ret
              exact Gives.mk rfl ((((hup8.trans hu9).trans hu10).trans hu11).trans hu12)
            | false =>
              have HVB := Lib.hid (ver_no ht hkn)
              have HK := Lib.hid hkn
              clear ht hkn
              go_wp2_with fail
              refine (refhtake_any b _ hmb).mono ?_
              rintro e w4 ⟨rfl, hu4⟩
              rw [HT.out]
              unfold helloV
              go_wp2_with fail
              refine (verify_any b g t _ hmb ((hT.up hu4).up ((Up.refl _).alloc _))).mono ?_
              rintro e w5 ⟨rfl, hu5⟩
              rw [HVB.out]
              unfold verV
              have hz5 := hu5.keep (blk_new w4 (.cells #[.int .i64 n1, .int .i64 n2, .int .u64 n3] 59))
              have z0 : w5.cell? ⟨w4.heap.size, 0, none⟩ = some (.int .i64 n1) := blk_cell hz5 0
              have z1 : w5.cell? ⟨w4.heap.size, 1, none⟩ = some (.int .i64 n2) := blk_cell hz5 1
              have z2 : w5.cell? ⟨w4.heap.size, 2, none⟩ = some (.int .u64 n3) := blk_cell hz5 2
              have hT6 := ((hT.up hu4).up ((Up.refl w4).alloc (.cells #[.int .i64 n1, .int .i64 n2, .int .u64 n3] 59))).up hu5
              have hup6 := ((hup.trans hu4).alloc (.cells #[.int .i64 n1, .int .i64 n2, .int .u64 n3] 59)).trans hu5
              clear hz5 hu4 hu5 hT hup
              go_wp2_with fail
              refine (knows_any n1 n2 n3 _ t _ hT6).mono ?_
              rintro e w6 ⟨rfl, rfl⟩
              rw [HK.out]
              go_wp2_with fail
              refine (refhput_any _ _ _ _ (by omega) (by omega) (by omega) (by omega) (by omega) (by omega)).mono ?_
              rintro e w7 ⟨rfl, hu7⟩
              rw [HP1.out]
              unfold hpairV
              go_wp2_with fail
              refine (verify_any _ g t _ (by unfold maxLen; omega) (hT6.up hu7)).mono ?_
              rintro e w8 ⟨rfl, hu8⟩
              rw [hv3.out]
              unfold verV
              have hT8 := (hT6.up hu7).up hu8
              have hup8 := (hup6.trans hu7).trans hu8
              clear hT6 hup6 hu7 hu8
              go_wp2_with fail
              rw [HX.out]
              refine (refhput_any _ _ _ _ (by omega) (by omega) (by omega) (by omega) (by omega) (by omega)).mono ?_
              rintro e w9 ⟨rfl, hu9⟩
              rw [HP2.out]
              unfold hpairV
              go_wp2_with fail
              refine (verify_any _ g t _ (by unfold maxLen; omega) (hT8.up hu9)).mono ?_
              rintro e w10 ⟨rfl, hu10⟩
              rw [HV2.out]
              unfold verV
              go_wp2_with fail
              refine (verify_nil _ _ (by unfold maxLen; omega)).mono ?_
              rintro e w11 ⟨rfl, hu11⟩
              unfold verV
              go_wp2_with fail
              refine (awake22_any _).mono ?_
              rintro e w12 ⟨rfl, hu12⟩
              go_wp2_with fail
              go_ret
              exact Gives.mk rfl ((((hup8.trans hu9).trans hu10).trans hu11).trans hu12)
          · have HVB := Lib.hid (ver_bad (t := t) ht hx)
            have d1 : (x == 0) = false := by rw [beq_eq_false_iff_ne]; exact hx
            clear ht hx
            go_wp2_with fail
            refine (refhtake_any b _ hmb).mono ?_
            rintro e w4 ⟨rfl, hu4⟩
            rw [HT.out]
            unfold helloV
            go_wp2_with fail
            refine (verify_any b g t _ hmb ((hT.up hu4).up ((Up.refl _).alloc _))).mono ?_
            rintro e w5 ⟨rfl, hu5⟩
            rw [HVB.out]
            unfold verV
            have hz5 := hu5.keep (blk_new w4 (.cells #[.int .i64 n1, .int .i64 n2, .int .u64 n3] 59))
            have z0 : w5.cell? ⟨w4.heap.size, 0, none⟩ = some (.int .i64 n1) := blk_cell hz5 0
            have z1 : w5.cell? ⟨w4.heap.size, 1, none⟩ = some (.int .i64 n2) := blk_cell hz5 1
            have z2 : w5.cell? ⟨w4.heap.size, 2, none⟩ = some (.int .u64 n3) := blk_cell hz5 2
            have hT6 := ((hT.up hu4).up ((Up.refl w4).alloc (.cells #[.int .i64 n1, .int .i64 n2, .int .u64 n3] 59))).up hu5
            have hup6 := ((hup.trans hu4).alloc (.cells #[.int .i64 n1, .int .i64 n2, .int .u64 n3] 59)).trans hu5
            clear hz5 hu4 hu5 hT hup
            go_wp2_with fail
            refine (refhput_any _ _ _ _ (by omega) (by omega) (by omega) (by omega) (by omega) (by omega)).mono ?_
            rintro e w7 ⟨rfl, hu7⟩
            rw [HP1.out]
            unfold hpairV
            go_wp2_with fail
            refine (verify_any _ g t _ (by unfold maxLen; omega) (hT6.up hu7)).mono ?_
            rintro e w8 ⟨rfl, hu8⟩
            rw [hv3.out]
            unfold verV
            have hT8 := (hT6.up hu7).up hu8
            have hup8 := (hup6.trans hu7).trans hu8
            clear hT6 hup6 hu7 hu8
            go_wp2_with fail
            rw [HX.out]
            refine (refhput_any _ _ _ _ (by omega) (by omega) (by omega) (by omega) (by omega) (by omega)).mono ?_
            rintro e w9 ⟨rfl, hu9⟩
            rw [HP2.out]
            unfold hpairV
            go_wp2_with fail
            refine (verify_any _ g t _ (by unfold maxLen; omega) (hT8.up hu9)).mono ?_
            rintro e w10 ⟨rfl, hu10⟩
            rw [HV2.out]
            unfold verV
            go_wp2_with fail
            refine (verify_nil _ _ (by unfold maxLen; omega)).mono ?_
            rintro e w11 ⟨rfl, hu11⟩
            unfold verV
            go_wp2_with fail
            refine (awake22_any _).mono ?_
            rintro e w12 ⟨rfl, hu12⟩
            go_wp2_with fail
            go_ret
            exact Gives.mk rfl ((((hup8.trans hu9).trans hu10).trans hu11).trans hu12)
        · have hv3 : Hid (verT t (S (hL ow ep tg)) = (ow, 0)) := by unfold Hid; rw [hv1, if_neg hk0]
          have f1 : decide (0 < l.length) = true := decide_eq_true (by omega)
          have f2 : decide ((0 : Int) < l.length) = true := decide_eq_true (by omega)
          have f3 : ((l.length : Int) == 0) = false := by rw [beq_eq_false_iff_ne]; omega
          clear hk0 hkl hv1
          by_cases hx : x = 0
          · subst hx
            cases hkn : knowsT t n1 n2 n3 with
            | true =>
              have HVB := Lib.hid (ver_yes ht hkn)
              have HK := Lib.hid hkn
              clear ht hkn
              go_wp2_with fail
              refine (refhtake_any b _ hmb).mono ?_
              rintro e w4 ⟨rfl, hu4⟩
              rw [HT.out]
              unfold helloV
              go_wp2_with fail
              refine (verify_any b g t _ hmb ((hT.up hu4).up ((Up.refl _).alloc _))).mono ?_
              rintro e w5 ⟨rfl, hu5⟩
              rw [HVB.out]
              unfold verV
              have hz5 := hu5.keep (blk_new w4 (.cells #[.int .i64 n1, .int .i64 n2, .int .u64 n3] 59))
              have z0 : w5.cell? ⟨w4.heap.size, 0, none⟩ = some (.int .i64 n1) := blk_cell hz5 0
              have z1 : w5.cell? ⟨w4.heap.size, 1, none⟩ = some (.int .i64 n2) := blk_cell hz5 1
              have z2 : w5.cell? ⟨w4.heap.size, 2, none⟩ = some (.int .u64 n3) := blk_cell hz5 2
              have hT6 := ((hT.up hu4).up ((Up.refl w4).alloc (.cells #[.int .i64 n1, .int .i64 n2, .int .u64 n3] 59))).up hu5
              have hup6 := ((hup.trans hu4).alloc (.cells #[.int .i64 n1, .int .i64 n2, .int .u64 n3] 59)).trans hu5
              clear hz5 hu4 hu5 hT hup
              go_wp2_with fail
              refine (knows_any n1 n2 n3 _ t _ hT6).mono ?_
              rintro e w6 ⟨rfl, rfl⟩
              rw [HK.out]
              go_wp2_with fail
              refine (refhput_any _ _ _ _ (by omega) (by omega) (by omega) (by omega) (by omega) (by omega)).mono ?_
              rintro e w7 ⟨rfl, hu7⟩
              rw [HP1.out]
              unfold hpairV
              go_wp2_with fail
              refine (verify_any _ g t _ (by unfold maxLen; omega) (hT6.up hu7)).mono ?_
              rintro e w8 ⟨rfl, hu8⟩
              rw [hv3.out]
              unfold verV
              have hT8 := (hT6.up hu7).up hu8
              have hup8 := (hup6.trans hu7).trans hu8
              clear hT6 hup6 hu7 hu8
              go_wp2_with fail
              rw [HX.out]
              refine (refhput_any _ _ _ _ (by omega) (by omega) (by omega) (by omega) (by omega) (by omega)).mono ?_
              rintro e w9 ⟨rfl, hu9⟩
              rw [HP2.out]
              unfold hpairV
              go_wp2_with fail
              refine (verify_any _ g t _ (by unfold maxLen; omega) (hT8.up hu9)).mono ?_
              rintro e w10 ⟨rfl, hu10⟩
              rw [HV2.out]
              unfold verV
              go_wp2_with fail
              refine (verify_nil _ _ (by unfold maxLen; omega)).mono ?_
              rintro e w11 ⟨rfl, hu11⟩
              unfold verV
              go_wp2_with fail
              refine (awake22_any _).mono ?_
              rintro e w12 ⟨rfl, hu12⟩
              go_wp2_with fail
              go_ret
              exact Gives.mk rfl ((((hup8.trans hu9).trans hu10).trans hu11).trans hu12)
            | false =>
              have HVB := Lib.hid (ver_no ht hkn)
              have HK := Lib.hid hkn
              clear ht hkn
              go_wp2_with fail
              refine (refhtake_any b _ hmb).mono ?_
              rintro e w4 ⟨rfl, hu4⟩
              rw [HT.out]
              unfold helloV
              go_wp2_with fail
              refine (verify_any b g t _ hmb ((hT.up hu4).up ((Up.refl _).alloc _))).mono ?_
              rintro e w5 ⟨rfl, hu5⟩
              rw [HVB.out]
              unfold verV
              have hz5 := hu5.keep (blk_new w4 (.cells #[.int .i64 n1, .int .i64 n2, .int .u64 n3] 59))
              have z0 : w5.cell? ⟨w4.heap.size, 0, none⟩ = some (.int .i64 n1) := blk_cell hz5 0
              have z1 : w5.cell? ⟨w4.heap.size, 1, none⟩ = some (.int .i64 n2) := blk_cell hz5 1
              have z2 : w5.cell? ⟨w4.heap.size, 2, none⟩ = some (.int .u64 n3) := blk_cell hz5 2
              have hT6 := ((hT.up hu4).up ((Up.refl w4).alloc (.cells #[.int .i64 n1, .int .i64 n2, .int .u64 n3] 59))).up hu5
              have hup6 := ((hup.trans hu4).alloc (.cells #[.int .i64 n1, .int .i64 n2, .int .u64 n3] 59)).trans hu5
              clear hz5 hu4 hu5 hT hup
              go_wp2_with fail
              refine (knows_any n1 n2 n3 _ t _ hT6).mono ?_
              rintro e w6 ⟨rfl, rfl⟩
              rw [HK.out]
              go_wp2_with fail
              refine (refhput_any _ _ _ _ (by omega) (by omega) (by omega) (by omega) (by omega) (by omega)).mono ?_
              rintro e w7 ⟨rfl, hu7⟩
              rw [HP1.out]
              unfold hpairV
              go_wp2_with fail
              refine (verify_any _ g t _ (by unfold maxLen; omega) (hT6.up hu7)).mono ?_
              rintro e w8 ⟨rfl, hu8⟩
              rw [hv3.out]
              unfold verV
              have hT8 := (hT6.up hu7).up hu8
              have hup8 := (hup6.trans hu7).trans hu8
              clear hT6 hup6 hu7 hu8
              go_wp2_with fail
              rw [HX.out]
              refine (refhput_any _ _ _ _ (by omega) (by omega) (by omega) (by omega) (by omega) (by omega)).mono ?_
              rintro e w9 ⟨rfl, hu9⟩
              rw [HP2.out]
              unfold hpairV
              go_wp2_with fail
              refine (verify_any _ g t _ (by unfold maxLen; omega) (hT8.up hu9)).mono ?_
              rintro e w10 ⟨rfl, hu10⟩
              rw [HV2.out]
              unfold verV
              go_wp2_with fail
              refine (verify_nil _ _ (by unfold maxLen; omega)).mono ?_
              rintro e w11 ⟨rfl, hu11⟩
              unfold verV
              go_wp2_with fail
              refine (awake22_any _).mono ?_
              rintro e w12 ⟨rfl, hu12⟩
              go_wp2_with fail
              go_ret
              exact Gives.mk rfl ((((hup8.trans hu9).trans hu10).trans hu11).trans hu12)
          · have HVB := Lib.hid (ver_bad (t := t) ht hx)
            have d1 : (x == 0) = false := by rw [beq_eq_false_iff_ne]; exact hx
            clear ht hx
            go_wp2_with fail
            refine (refhtake_any b _ hmb).mono ?_
            rintro e w4 ⟨rfl, hu4⟩
            rw [HT.out]
            unfold helloV
            go_wp2_with fail
            refine (verify_any b g t _ hmb ((hT.up hu4).up ((Up.refl _).alloc _))).mono ?_
            rintro e w5 ⟨rfl, hu5⟩
            rw [HVB.out]
            unfold verV
            have hz5 := hu5.keep (blk_new w4 (.cells #[.int .i64 n1, .int .i64 n2, .int .u64 n3] 59))
            have z0 : w5.cell? ⟨w4.heap.size, 0, none⟩ = some (.int .i64 n1) := blk_cell hz5 0
            have z1 : w5.cell? ⟨w4.heap.size, 1, none⟩ = some (.int .i64 n2) := blk_cell hz5 1
            have z2 : w5.cell? ⟨w4.heap.size, 2, none⟩ = some (.int .u64 n3) := blk_cell hz5 2
            have hT6 := ((hT.up hu4).up ((Up.refl w4).alloc (.cells #[.int .i64 n1, .int .i64 n2, .int .u64 n3] 59))).up hu5
            have hup6 := ((hup.trans hu4).alloc (.cells #[.int .i64 n1, .int .i64 n2, .int .u64 n3] 59)).trans hu5
            clear hz5 hu4 hu5 hT hup
            go_wp2_with fail
            refine (refhput_any _ _ _ _ (by omega) (by omega) (by omega) (by omega) (by omega) (by omega)).mono ?_
            rintro e w7 ⟨rfl, hu7⟩
            rw [HP1.out]
            unfold hpairV
            go_wp2_with fail
            refine (verify_any _ g t _ (by unfold maxLen; omega) (hT6.up hu7)).mono ?_
            rintro e w8 ⟨rfl, hu8⟩
            rw [hv3.out]
            unfold verV
            have hT8 := (hT6.up hu7).up hu8
            have hup8 := (hup6.trans hu7).trans hu8
            clear hT6 hup6 hu7 hu8
            go_wp2_with fail
            rw [HX.out]
            refine (refhput_any _ _ _ _ (by omega) (by omega) (by omega) (by omega) (by omega) (by omega)).mono ?_
            rintro e w9 ⟨rfl, hu9⟩
            rw [HP2.out]
            unfold hpairV
            go_wp2_with fail
            refine (verify_any _ g t _ (by unfold maxLen; omega) (hT8.up hu9)).mono ?_
            rintro e w10 ⟨rfl, hu10⟩
            rw [HV2.out]
            unfold verV
            go_wp2_with fail
            refine (verify_nil _ _ (by unfold maxLen; omega)).mono ?_
            rintro e w11 ⟨rfl, hu11⟩
            unfold verV
            go_wp2_with fail
            refine (awake22_any _).mono ?_
            rintro e w12 ⟨rfl, hu12⟩
            go_wp2_with fail
            go_ret
            exact Gives.mk rfl ((((hup8.trans hu9).trans hu10).trans hu11).trans hu12)

set_option linter.unusedVariables false in
set_option maxRecDepth 100000 in
theorem helloVerifies_contract (H : Type) (enc : TypeId × Value → H) (W : World) (base : Nat) (args : Array Value) (ds gs : List (DataW H)) (before : List MemPlace)
    (hval : ∀ (j : Nat) t v, Try.f12.params[j]? = some t → args[j]? = some v → Value.okWide Try.prog W .any base t v)
    (hW : DataW.Whole enc Try.prog Try.f12.params.toList Rows.helloVerifiesSpec.vars false W args.toList ds gs before)
    (hsz : (DataW.weightsEach Try.prog (Try.f12.params.toList ++ (Rows.helloVerifiesSpec).plain.varTypes Try.prog) (ds ++ gs)).all (· ≤ reachBytes) = true) :
    Calls Try.prog 12 args W fun e W' => ∃ v, e = .returned v ∧ Rows.helloVerifiesSpec.post enc Try.prog Try.f12 false true false false W args v W' := by
  have hW' := hW
  obtain ⟨p, q, hA0, hV, rfl, hfz, hnd⟩ := hW
  have hA : DataW.TrodAll enc Try.prog W 0 (fun _ => true) true Try.f12.params.toList args.toList ds p := hA0
  rw [Try.params12] at hA hval hsz
  obtain ⟨v0, vs0, d0, ds0, p0, q0, hargs, rfl, rfl, h0, r0⟩ := trodAll_cons hA
  obtain ⟨v1, vs1, d1, ds1, p1, q1, rfl, rfl, rfl, h1, r1⟩ := trodAll_cons r0
  obtain ⟨rfl, rfl, rfl⟩ := trodAll_nil r1
  obtain rfl : args = #[v0, v1] := by cases args; simp_all
  obtain ⟨rfl, rfl⟩ := trodVars_none hV
  clear hA0
  obtain ⟨l0, hr0, hd0⟩ := row_arg (cells := fun x => [.int .u64 x]) (R := fun x y => y = .lit (.int .u64 x) ∧ (Lit.int .u64 x).wf = true) Try.underlying93 (by kernel_rfl) (by decide) (elem_int Try.underlying29) (hval 0 93 v0 rfl rfl) h0
  have hb0 := row_all hd0 (fun x y (h : y = .lit (.int .u64 x) ∧ (Lit.int .u64 x).wf = true) => bounds_u64 h.2)
  obtain ⟨a1, rfl, rfl, rfl, w1⟩ := open_string Try.underlying9 (hval 1 9 v1 rfl rfl) h1
  have z1 : a1.size ≤ 140737488351232 := by have := sized_string hsz (j := 1) (t := 9) rfl rfl; simpa [reachBytes] using this
  refine (helloVerifies_walk v0 l0 hr0 hb0 a1 z1 W).mono fun e W' ⟨he, hu⟩ => ?_
  subst he
  exact ⟨_, rfl, post_true laidOut (by kernel_rfl) Try.underlying4 rfl rfl hW' rfl hu⟩

theorem helloVerifies_closed : joinedFacts Try.prog 12 Try.f12 Rows.helloVerifiesSpec Rows.helloVerifiesRow = true := by
  unfold joinedFacts
  rw [fact_mayEnter, fact_lifted, fact_make]
  kernel_rfl

set_option maxRecDepth 100000 in
theorem helloVerifies_lifted (os : Os) (started : os.Started) (H : Type) (enc : TypeId × Value → H) :
    ReturnsInHanded {} Try.checked os 12 .any (Rows.helloVerifiesSpec.pre6 enc Try.prog Try.f12 Rows.helloVerifiesRow.domain false) (Rows.helloVerifiesSpec.post enc Try.prog Try.f12 false true false false) := by
  refine returnsInHanded_of_change_sized (C := Try.checked) own started (by kernel_rfl) Try.func12
    (ChangeSpec.witness6 (enc := enc) (C := Try.checked) false ⟨#[], #[.slice none 0 0, .string ⟨#[]⟩], []⟩ 8 (by kernel_rfl) (by kernel_rfl) (by kernel_rfl) (by kernel_rfl)) ?_
  intro W base args ds gs before hval hW _ hsz _
  exact helloVerifies_contract H enc W base args ds gs before hval hW hsz

theorem helloVerifies_holds : Rows.HelloVerifiesSaid :=
  OpenClaim.holds_of_wide 12 Try.f12 rfl rfl rfl rfl rfl rfl rfl ⟨rfl, rfl, rfl, rfl, rfl⟩ rfl rfl rfl rfl rfl (by kernel_rfl) Try.func12 helloVerifies_closed
    (of_decide_eq_true (by kernel_rfl)) (by unfold Func.isWrapper; rw [if_neg (by decide +kernel)]; exact ⟨rfl, rfl⟩)
    (fun os started H enc _ => helloVerifies_lifted os started H enc)
end Go.Proofs.Ytmmmaekaoanceaa
