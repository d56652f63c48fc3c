/- The walk of the document's Split: of which fields bytes are made. -/
import Derived.Test.YtpldfoclogkppaaKeyD
import Derived.Deep.RegionLaw
namespace Go.Proofs.Ytpldfoclogkppaa
open Go Go.RowKit

/-- what the document's split hands back -/
def RefSplitOut (w : World) (b : ByteArray) (e : Ending) (w' : World) : Prop :=
  ∃ (v1 : Value) (p2 : Option Addr) (n2 c2 : Nat) (v3 : Value), e = .returned (.tuple #[.agg #[v1, .slice p2 n2 c2, v3], .int .i64 (splitT b).1]) ∧ w'.ownsRow w.heap.size 3 1 v1 (fieldsL b).length (tagsV (fieldsL b)) ∧ w'.ownsRow w.heap.size 9 1 v3 (fieldsL b).length (textsV (fieldsL b)) ∧ Up w w'
theorem refSplitOut_bad {w : World} {b : ByteArray} {e : Int} (h : (splitT b).1 = e) (he : e ≠ 0) : ∀ w', Up w w' → RefSplitOut w b (.returned (.tuple #[.agg #[.slice none 0 0, .slice none 0 0, .slice none 0 0], .int .i64 e])) w' := by
  intro w' hu
  have hf : fieldsL b = [] := by unfold fieldsL; rw [h, if_neg he]
  refine ⟨_, _, _, _, _, by rw [h], ?_, ?_, hu⟩
  · rw [hf]; exact World.ownsRow_nil _ _ _ _
  · rw [hf]; exact World.ownsRow_nil _ _ _ _
theorem refSplitOut_ok {w w' : World} {b cur : ByteArray} {last : Nat} {acc : List Fld} {v1 v3 : Value} {p2 : Option Addr} {n2 c2 : Nat} (h : SplitAt b cur last acc) (h0 : cur.size = 0) (h1 : w'.ownsRow w.heap.size 3 1 v1 acc.length (tagsV acc))
    (h2 : w'.ownsRow w.heap.size 9 1 v3 acc.length (textsV acc)) (hu : Up w w') : RefSplitOut w b (.returned (.tuple #[.agg #[v1, .slice p2 n2 c2, v3], .int .i64 0])) w' := by
  have h3 := splitAt_end h h0
  have hf : fieldsL b = acc := by unfold fieldsL; rw [h3, if_pos rfl]
  exact ⟨_, _, _, _, _, by rw [h3], by rw [hf]; exact h1, by rw [hf]; exact h2, hu⟩
/-- the last tag -/
def lastIs (acc : List Fld) (last : Nat) : Prop := (acc = [] ∧ last = 0) ∨ ∃ f, acc.getLast? = some f ∧ f.tag = last

set_option maxHeartbeats 8000000 in
set_option maxRecDepth 100000 in
theorem refkeysplit_any (b : ByteArray) (w : World) (hb : b.size ≤ maxLen) : Calls Try.prog 73 #[.string b] w (RefSplitOut w b) := by
  have hb' : b.size ≤ 9223372036854775807 := hb
  have hq0 : ((w.alloc (.cells #[.slice none 0 0, .slice none 0 0, .slice none 0 0] 105)).alloc (.cells #[.slice none 0 0, .slice none 0 0, .slice none 0 0] 105)).heap[w.heap.size]? = some (.cells #[.slice none 0 0, .slice none 0 0, .slice none 0 0] 105 (0, 0)) := blk_alloc (blk_new _ _)
  have hq1 : ((w.alloc (.cells #[.slice none 0 0, .slice none 0 0, .slice none 0 0] 105)).alloc (.cells #[.slice none 0 0, .slice none 0 0, .slice none 0 0] 105)).heap[w.heap.size + 1]? = some (.cells #[.slice none 0 0, .slice none 0 0, .slice none 0 0] 105 (0, 0)) := blk_new' (by simp)
  have Q0 := Lib.hid hq0; have Q1 := Lib.hid hq1
  clear hq0 hq1
  go_enter Try.func73, Try.ntmps73
  go_wp2_with fail
  go_loopw [5] (fun i wr => ∃ (at_ : Nat) (last : Nat) (acc : List Fld) (v1 v2 v3 : Value), i = .int .i64 at_ ∧ at_ ≤ b.size ∧ SplitAt b (tailB b at_) last acc ∧ Hid (lastIs acc last) ∧
      wr.ownsRow (w.heap.size + 2) 3 1 v1 acc.length (tagsV acc) ∧ wr.ownsRow (w.heap.size + 2) 3 1 v2 acc.length (wiresV acc) ∧ wr.ownsRow (w.heap.size + 2) 9 1 v3 acc.length (textsV acc) ∧
      (v1.ownBlock = none ∨ v1.ownBlock ≠ v2.ownBlock) ∧
      wr.heap[w.heap.size]? = some (.cells #[.slice none 0 0, .slice none 0 0, .slice none 0 0] 105 (0, 0)) ∧ wr.heap[w.heap.size + 1]? = some (.cells #[v1, v2, v3] 105 (0, 0)) ∧ Up w wr) (fun i _ => b.size - (intOf i).toNat)
  case atStart => exact ⟨0, 0, [], _, _, _, rfl, Nat.zero_le _, by rw [tailB_zero]; exact splitAt_start b, .inl ⟨rfl, rfl⟩, World.ownsRow_nil _ _ _ _, World.ownsRow_nil _ _ _ _, World.ownsRow_nil _ _ _ _, .inl rfl, Q0.out, Q1.out, ((Up.refl w).alloc _).alloc _⟩
  case round =>
    obtain ⟨at_, last, acc, v1, v2, v3, rfl, hat, hA, hla, hown1, hown2, hown3, hap, hc0, hc1, hup⟩ := hrel
    have hlen := hA.len
    have hlast := hA.tag
    have hfew := hA.few
    have hts := tailB_size b at_
    rw [hts] at hlen
    obtain ⟨p1, cap1, rfl, hn1, hm1⟩ := own_slice hown1
    obtain ⟨p2, cap2, rfl, hn2, hm2⟩ := own_slice hown2
    obtain ⟨p3, cap3, rfl, hn3, hm3⟩ := own_slice hown3
    have HAP := Lib.hid hap
    clear hap
    unfold maxLen at hm1 hm2 hm3
    have q0 : ∀ o, wr.frozen? ⟨w.heap.size, o, none⟩ = false := blk_free hc0
    have q1 : ∀ o, wr.frozen? ⟨w.heap.size + 1, o, none⟩ = false := blk_free hc1
    have x0 : wr.cell? ⟨w.heap.size + 1, 0, none⟩ = some (.slice p1 acc.length cap1) := blk_cell hc1 0
    have x1 : wr.cell? ⟨w.heap.size + 1, 1, none⟩ = some (.slice p2 acc.length cap2) := blk_cell hc1 1
    have x2 : wr.cell? ⟨w.heap.size + 1, 2, none⟩ = some (.slice p3 acc.length cap3) := blk_cell hc1 2
    have y0 : wr.cell? ⟨w.heap.size, 0, none⟩ = some (.slice none 0 0) := blk_cell hc0 0
    have y1 : wr.cell? ⟨w.heap.size, 1, none⟩ = some (.slice none 0 0) := blk_cell hc0 1
    have y2 : wr.cell? ⟨w.heap.size, 2, none⟩ = some (.slice none 0 0) := blk_cell hc0 2
    have C0 := Lib.hid hc0; have C1 := Lib.hid hc1
    have HT := Lib.hid hts
    clear hts
    by_cases h0 : at_ = b.size
    · have hz := HT.out
      have HO := Lib.hid (fun (w' : World) h1 h3 hu => refSplitOut_ok (w := w) (w' := w') (v1 := .slice p1 acc.length cap1) (p2 := p2) (n2 := acc.length) (c2 := cap2) (v3 := .slice p3 acc.length cap3) hA (by omega) h1 h3 hu)
      have R1 := Lib.hid hown1; have R3 := Lib.hid hown3
      obtain rfl : at_ = b.size := h0
      clear hown1 hown2 hown3 hA hc0 hc1 hz
      go_wp2_with fail
      refine bodyPost_ret (v := .tuple #[.agg #[.slice p1 acc.length cap1, .slice p2 acc.length cap2, .slice p3 acc.length cap3], .int .i64 0]) (by simp [results, Try.results73, go_sem, y0, y1, y2]) rfl ?_
      refine HO.out _ (own_base (base := w.heap.size + 2) ?_ (Nat.le_add_right _ _)) (own_base (base := w.heap.size + 2) ?_ (Nat.le_add_right _ _)) ?_
      · iterate 3 (refine ownsRow_setCell_below ?_ (Nat.lt_add_of_pos_right (by decide)) _)
        exact R1.out
      · iterate 3 (refine ownsRow_setCell_below ?_ (Nat.lt_add_of_pos_right (by decide)) _)
        exact R3.out
      · iterate 3 (refine Up.set ?_ (Nat.le_refl _) _)
        exact hup
    · have hlt : at_ < b.size := by omega
      have hne : (tailB b at_).size ≠ 0 := by rw [HT.out]; omega
      have HTS := Lib.hid (show (tailB b at_).size ≤ maxLen by rw [HT.out]; unfold maxLen; omega)
      have hsl := fun w => run_strfrom' (P := Try.prog) Try.underlying9 b at_ (by omega) (by omega) w
      simp only [Int.toNat_natCast] at hsl
      have hd := kTakeT_lim (tailB b at_)
      rw [HT.out] at hd
      obtain ⟨⟨tag, wire, k, e⟩, hr⟩ : ∃ r, kTakeT (tailB b at_) = r := ⟨_, rfl⟩
      rw [hr] at hd
      obtain ⟨g0, g1, g2, g3, g4, g5⟩ := hd
      simp only at g0 g1 g2 g3 g4 g5
      have HR := Lib.hid hr
      have R1 := Lib.hid hown1; have R2 := Lib.hid hown2; have R3 := Lib.hid hown3
      have HA := Lib.hid hA; have HNE := Lib.hid hne
      clear hown1 hown2 hown3 hA hc0 hc1 hr hne
      by_cases he : e = 0
      · subst he
        obtain ⟨g6, g7⟩ := g5 rfl
        clear g5
        have hcase : (acc.length = 0 ∧ last = 0) ∨ (0 < acc.length ∧ ∃ g, p1 = some ⟨g, 0, none⟩ ∧ g < wr.heap.size ∧ ∀ w' : World, Up wr w' → w'.cell? ⟨g, acc.length - 1, none⟩ = some (.int .i64 (last : Nat))) := by
          rcases hla.out with ⟨rfl, rfl⟩ | ⟨f, hf, rfl⟩
          · exact .inl ⟨rfl, rfl⟩
          · right
            have hpos : 0 < acc.length := by
              cases acc with
              | nil => simp at hf
              | cons x l => simp
            refine ⟨hpos, ?_⟩
            obtain ⟨g, cap, hv, _, _, _, hgl⟩ := own_shape R1.out hpos
            simp only [Value.slice.injEq] at hv
            obtain ⟨rfl, _, rfl⟩ := hv
            refine ⟨g, rfl, hgl, fun w' hu => ?_⟩
            rw [hu.cell hgl]
            have h1 := R1.out.cells (g := g) rfl (acc.length - 1) (.int .i64 (f.tag : Nat)) (by
              unfold tagsV
              rw [List.getElem?_map, ← List.getLast?_eq_getElem?, hf]; rfl)
            have hadd : (⟨g, 0, none⟩ : Addr).add (acc.length - 1) = ⟨g, acc.length - 1, none⟩ := by unfold Addr.add; split <;> simp_all
            rwa [hadd] at h1
        have HC := Lib.hid hcase
        clear hcase
        by_cases ht : tag ≤ last
        · have HO := Lib.hid (refSplitOut_bad (w := w) (splitAt_bad HA.out HNE.out (fieldT_tag HR.out ht) (by decide)) (by decide))
          rcases HC.out with ⟨h1, h2⟩ | ⟨hpos, g, rfl, hgl, hlc⟩
          · exfalso; omega
          · have HLC := Lib.hid hlc
            clear hlc
            have b1 : decide (0 < acc.length) = true := decide_eq_true hpos
            have b2 : decide ((0 : Int) < acc.length) = true := decide_eq_true (by omega)
            have b3 : decide ((tag : Int) ≤ last) = true := decide_eq_true (by omega)
            have b4 : decide (tag ≤ last) = true := decide_eq_true (by omega)
            go_wp2_with fail
            refine (refkeytake_any _ _ HTS.out).mono ?_
            rintro x w1 ⟨rfl, hu1⟩
            rw [HR.out]
            unfold keyV
            have D0 := Lib.hid (hu1.keep C0.out); have D1 := Lib.hid (hu1.keep C1.out)
            have hb1 : w.heap.size + 1 < w1.heap.size := blk_lt D1.out
            have hup1 := hup.trans hu1
            have z00 : w1.cell? ⟨w.heap.size, 0, none⟩ = some (.slice none 0 0) := blk_cell D0.out 0
            have z01 : w1.cell? ⟨w.heap.size, 1, none⟩ = some (.slice none 0 0) := blk_cell D0.out 1
            have z02 : w1.cell? ⟨w.heap.size, 2, none⟩ = some (.slice none 0 0) := blk_cell D0.out 2
            have zf0 : ∀ o, w1.frozen? ⟨w.heap.size, o, none⟩ = false := blk_free D0.out
            have z10 : w1.cell? ⟨w.heap.size + 1, 0, none⟩ = some (.slice (some ⟨g, 0, none⟩) acc.length cap1) := blk_cell D1.out 0
            have z11 : w1.cell? ⟨w.heap.size + 1, 1, none⟩ = some (.slice p2 acc.length cap2) := blk_cell D1.out 1
            have z12 : w1.cell? ⟨w.heap.size + 1, 2, none⟩ = some (.slice p3 acc.length cap3) := blk_cell D1.out 2
            have zf1 : ∀ o, w1.frozen? ⟨w.heap.size + 1, o, none⟩ = false := blk_free D1.out
            have hl1 := HLC.out w1 hu1
            have hgl1 : g < w1.heap.size := Nat.lt_of_lt_of_le hgl hu1.size
            clear q0 q1 x0 x1 x2 y0 y1 y2 hu1
            go_wp2_with fail
            refine bodyPost_ret (v := .tuple #[.agg #[.slice none 0 0, .slice none 0 0, .slice none 0 0], .int .i64 9]) (by simp [results, Try.results73, go_sem, z00, z01, z02]) rfl ?_
            refine HO.out _ ?_
            repeat (refine Up.set ?_ (Nat.le_refl _) _)
            exact hup1
        · rcases HC.out with ⟨h1, h2⟩ | ⟨hpos, g, rfl, hgl, hlc⟩
          · clear HC
            have b1 : decide (0 < acc.length) = false := decide_eq_false (by omega)
            have b2 : decide ((0 : Int) < acc.length) = false := decide_eq_false (by omega)
            clear h1 h2
            have hd2 := kSkipT_bd (tailB b (at_ + k)) wire
            obtain ⟨⟨n, e⟩, hs⟩ : ∃ r, kSkipT (tailB b (at_ + k)) wire = r := ⟨_, rfl⟩
            rw [hs, tailB_size] at hd2
            obtain ⟨p0, p1', p2'⟩ := hd2
            simp only at p0 p1' p2'
            have HS := Lib.hid hs
            have HS2 := Lib.hid (show kSkipT (tailB (tailB b at_) k) wire = (n, e) by rw [tailB_tailB]; exact hs)
            have HTK := Lib.hid (show (tailB b (at_ + k)).size ≤ maxLen by rw [tailB_size]; unfold maxLen; omega)
            have hsk := fun w => run_strfrom' (P := Try.prog) Try.underlying9 b (at_ + k) (by omega) (by omega) w
            rw [show (((at_ : Int) + k)).toNat = at_ + k from by omega] at hsk
            clear hs
            by_cases he : e = 0
            · subst he
              have HN := Lib.hid (splitAt_next HA.out HR.out ht HS2.out)
              have hsx := fun w => run_strslice (P := Try.prog) Try.underlying9 b (at_ + k) (at_ + k + n) (by omega) (by omega) (by omega) w
              rw [show (((at_ : Int) + k)).toNat = at_ + k from by omega, show (((at_ : Int) + k + n)).toNat = at_ + k + n from by omega] at hsx
              go_wp2_with fail
              refine (refkeytake_any _ _ HTS.out).mono ?_
              rintro x w1 ⟨rfl, hu1⟩
              rw [HR.out]
              unfold keyV
              have D0 := Lib.hid (hu1.keep C0.out); have D1 := Lib.hid (hu1.keep C1.out)
              have hb1 : w.heap.size + 1 < w1.heap.size := blk_lt D1.out
              have hup1 := hup.trans hu1
              have z00 : w1.cell? ⟨w.heap.size, 0, none⟩ = some (.slice none 0 0) := blk_cell D0.out 0
              have z01 : w1.cell? ⟨w.heap.size, 1, none⟩ = some (.slice none 0 0) := blk_cell D0.out 1
              have z02 : w1.cell? ⟨w.heap.size, 2, none⟩ = some (.slice none 0 0) := blk_cell D0.out 2
              have zf0 : ∀ o, w1.frozen? ⟨w.heap.size, o, none⟩ = false := blk_free D0.out
              have z10 : w1.cell? ⟨w.heap.size + 1, 0, none⟩ = some (.slice p1 acc.length cap1) := blk_cell D1.out 0
              have z11 : w1.cell? ⟨w.heap.size + 1, 1, none⟩ = some (.slice p2 acc.length cap2) := blk_cell D1.out 1
              have z12 : w1.cell? ⟨w.heap.size + 1, 2, none⟩ = some (.slice p3 acc.length cap3) := blk_cell D1.out 2
              have zf1 : ∀ o, w1.frozen? ⟨w.heap.size + 1, o, none⟩ = false := blk_free D1.out
              have T1 := Lib.hid (own_up R1.out hu1); have T2 := Lib.hid (own_up R2.out hu1); have T3 := Lib.hid (own_up R3.out hu1)
              clear q0 q1 x0 x1 x2 y0 y1 y2 hu1
              go_wp2_with fail
              refine (refskip_any _ _ _ HTK.out).mono ?_
              rintro x w2 ⟨rfl, hu2⟩
              rw [HS.out]
              unfold skipV
              have E0 := Lib.hid (hu2.keep D0.out); have E1 := Lib.hid (hu2.keep D1.out)
              have hb2 : w.heap.size + 1 < w2.heap.size := blk_lt E1.out
              have hup2 := hup1.trans hu2
              have S1 := Lib.hid (own_up T1.out hu2); have S2 := Lib.hid (own_up T2.out hu2); have S3 := Lib.hid (own_up T3.out hu2)
              clear z00 z01 z02 z10 z11 z12 zf0 zf1
              have z00 : w2.cell? ⟨w.heap.size, 0, none⟩ = some (.slice none 0 0) := blk_cell E0.out 0
              have z01 : w2.cell? ⟨w.heap.size, 1, none⟩ = some (.slice none 0 0) := blk_cell E0.out 1
              have z02 : w2.cell? ⟨w.heap.size, 2, none⟩ = some (.slice none 0 0) := blk_cell E0.out 2
              have zf0 : ∀ o, w2.frozen? ⟨w.heap.size, o, none⟩ = false := blk_free E0.out
              have z10 : w2.cell? ⟨w.heap.size + 1, 0, none⟩ = some (.slice p1 acc.length cap1) := blk_cell E1.out 0
              have z11 : w2.cell? ⟨w.heap.size + 1, 1, none⟩ = some (.slice p2 acc.length cap2) := blk_cell E1.out 1
              have z12 : w2.cell? ⟨w.heap.size + 1, 2, none⟩ = some (.slice p3 acc.length cap3) := blk_cell E1.out 2
              have zf1 : ∀ o, w2.frozen? ⟨w.heap.size + 1, o, none⟩ = false := blk_free E1.out
              clear hu2
              go_wp2_with (at_builtin; (first | (refine wpList_app rfl (.tmp 63) (.tmp 65) 68 3 rfl rowInt (base := w.heap.size + 2) ?_ (v := .slice p1 acc.length cap1) (n := acc.length) (xs := tagsV acc) (by rfl) ?_ _ #[.int .i64 (tag : Nat)] (by rfl) rfl (T := 3) ?_ ?_ ?_ ?_ ?_; (focus (simp; omega)); (focus (repeat (first | with_reducible exact S1.out | with_reducible refine World.ownsRow.alloc ?_ _ | with_reducible refine own_drew ?_))); (focus (exact blk_new' (by simp))); (focus (simp [Value.oneCell'])); (focus (unfold maxLen; omega)); (focus omega); intro v1x wA hoA; obtain ⟨px, cx, rfl, hnx, hmx⟩ := own_slice hoA.own; have F0 := Lib.hid (hoA.blocks _ _ (blk_alloc E0.out) (fun h => by have := (S1.out.lt _ h.symm).1; omega)); have F1 := Lib.hid (hoA.blocks _ _ (blk_alloc E1.out) (fun h => by have := (S1.out.lt _ h.symm).1; omega)); have hszA := hoA.size; simp only [World.size_alloc] at hszA; unfold maxLen at hmx; have a00 : wA.cell? ⟨w.heap.size, 0, none⟩ = some (.slice none 0 0) := blk_cell F0.out 0; have a01 : wA.cell? ⟨w.heap.size, 1, none⟩ = some (.slice none 0 0) := blk_cell F0.out 1; have a02 : wA.cell? ⟨w.heap.size, 2, none⟩ = some (.slice none 0 0) := blk_cell F0.out 2; have af0 : ∀ o, wA.frozen? ⟨w.heap.size, o, none⟩ = false := blk_free F0.out; have a10 : wA.cell? ⟨w.heap.size + 1, 0, none⟩ = some (.slice p1 acc.length cap1) := blk_cell F1.out 0; have a11 : wA.cell? ⟨w.heap.size + 1, 1, none⟩ = some (.slice p2 acc.length cap2) := blk_cell F1.out 1; have a12 : wA.cell? ⟨w.heap.size + 1, 2, none⟩ = some (.slice p3 acc.length cap3) := blk_cell F1.out 2; have af1 : ∀ o, wA.frozen? ⟨w.heap.size + 1, o, none⟩ = false := blk_free F1.out) | (refine wpList_app rfl (.tmp 69) (.tmp 71) 68 3 rfl rowInt (base := w.heap.size + 2) ?_ (v := .slice p2 acc.length cap2) (n := acc.length) (xs := wiresV acc) (by rfl) ?_ _ #[.int .i64 (wire : Nat)] (by rfl) rfl (T := 3) ?_ ?_ ?_ ?_ ?_; (focus (simp; omega)); (focus (exact (ownsRow_setCell_below (hoA.rows2 _ _ _ _ _ _ (own_symm HAP.out) (S2.out.alloc _)) (Nat.lt_succ_self _) _).alloc _)); (focus (exact blk_new' (by simp))); (focus (simp [Value.oneCell'])); (focus (unfold maxLen; omega)); (focus omega); intro v2x wB hoB; obtain ⟨py, cy, rfl, hny, hmy⟩ := own_slice hoB.own; have G0 := Lib.hid (hoB.blocks _ _ (blk_alloc (blk_ne F0.out (Nat.ne_of_lt (Nat.lt_succ_self _)) _)) (fun h => by have := (S2.out.lt _ h.symm).1; omega)); have G1 := Lib.hid (hoB.blocks _ _ (blk_alloc (blk_set F1.out 0 (.slice px (acc.length + 1) cx))) (fun h => by have := (S2.out.lt _ h.symm).1; omega)); have hszB := hoB.size; simp only [World.size_alloc, World.size_setCell] at hszB; unfold maxLen at hmy; clear a00 a01 a02 a10 a11 a12 af0 af1; have b10 : wB.cell? ⟨w.heap.size + 1, 0, none⟩ = some (.slice px (acc.length + 1) cx) := blk_cell G1.out 0; have b11 : wB.cell? ⟨w.heap.size + 1, 1, none⟩ = some (.slice p2 acc.length cap2) := blk_cell G1.out 1; have b12 : wB.cell? ⟨w.heap.size + 1, 2, none⟩ = some (.slice p3 acc.length cap3) := blk_cell G1.out 2; have b1f : ∀ o, wB.frozen? ⟨w.heap.size + 1, o, none⟩ = false := blk_free G1.out)))
              have ap1 := own_symm (hoA.apart (own_symm HAP.out) (fun k hk => by have := (S2.out.lt k hk).2; simp; omega))
              have O1 : Hid ((wB.setCell ⟨w.heap.size + 1, 1, none⟩ (.slice py (acc.length + 1) cy)).ownsRow (w.heap.size + 2) 3 1 (.slice px (acc.length + 1) cx) (acc.length + 1) (tagsV acc ++ [.int .i64 (tag : Nat)])) := ownsRow_setCell_below (hoB.rows2 _ _ _ _ _ _ ap1 ((ownsRow_setCell_below hoA.own (Nat.lt_succ_self _) _).alloc _)) (Nat.lt_succ_self _) _
              have O2 : Hid ((wB.setCell ⟨w.heap.size + 1, 1, none⟩ (.slice py (acc.length + 1) cy)).ownsRow (w.heap.size + 2) 3 1 (.slice py (acc.length + 1) cy) (acc.length + 1) (wiresV acc ++ [.int .i64 (wire : Nat)])) := ownsRow_setCell_below hoB.own (Nat.lt_succ_self _) _
              have O3 : Hid ((wB.setCell ⟨w.heap.size + 1, 1, none⟩ (.slice py (acc.length + 1) cy)).ownsRow (w.heap.size + 2) 9 1 (.slice p3 acc.length cap3) acc.length (textsV acc)) := ownsRow_setCell_below (hoB.rows _ _ _ _ _ _ (by decide) ((ownsRow_setCell_below (hoA.rows _ _ _ _ _ _ (by decide) (S3.out.alloc _)) (Nat.lt_succ_self _) _).alloc _)) (Nat.lt_succ_self _) _
              have AP := Lib.hid (hoB.apart (x := .slice px (acc.length + 1) cx) ap1 (fun k hk => by have := (hoA.own.lt k hk).2; simp; omega))
              have H0 : Hid ((wB.setCell ⟨w.heap.size + 1, 1, none⟩ (.slice py (acc.length + 1) cy)).heap[w.heap.size]? = some (.cells #[.slice none 0 0, .slice none 0 0, .slice none 0 0] 105 (0, 0))) := blk_ne G0.out (Nat.ne_of_lt (Nat.lt_succ_self _)) _
              have H1 : Hid ((wB.setCell ⟨w.heap.size + 1, 1, none⟩ (.slice py (acc.length + 1) cy)).heap[w.heap.size + 1]? = some (.cells #[.slice px (acc.length + 1) cx, .slice py (acc.length + 1) cy, .slice p3 acc.length cap3] 105 (0, 0))) := blk_set G1.out 1 (.slice py (acc.length + 1) cy)
              have HU : Hid (Up w (wB.setCell ⟨w.heap.size + 1, 1, none⟩ (.slice py (acc.length + 1) cy))) := (hoB.up w (Nat.le_add_right _ _) (((hoA.up w (Nat.le_add_right _ _) (hup2.alloc _)).set (Nat.le_succ _) _).alloc _)).set (Nat.le_succ _) _
              have HZ : w.heap.size + 2 ≤ (wB.setCell ⟨w.heap.size + 1, 1, none⟩ (.slice py (acc.length + 1) cy)).heap.size := blk_lt H1.out
              clear hoA hoB b10 b11 b12 b1f ap1 hszA hszB
              generalize (wB.setCell ⟨w.heap.size + 1, 1, none⟩ (.slice py (acc.length + 1) cy)) = w3 at *
              have c0 : w3.cell? ⟨w.heap.size + 1, 2, none⟩ = some (.slice p3 acc.length cap3) := blk_cell H1.out 2
              have cf : ∀ o, w3.frozen? ⟨w.heap.size + 1, o, none⟩ = false := blk_free H1.out
              have hlt3 : w.heap.size + 1 < w3.heap.size := blk_lt H1.out
              have hwr1 : IntKind.i64.wrap ((at_ : Int) + k) = (at_ : Int) + k := IntWalk.i64_in _ (by omega)
              have hwr2 : IntKind.i64.wrap ((at_ : Int) + k + n) = (at_ : Int) + k + n := IntWalk.i64_in _ (by omega)
              have i0 : (0 : Int) ≤ (at_ : Int) + k := by omega
              have i1 : (at_ : Int) + k ≤ (at_ : Int) + k + n := by omega
              have i2 : (at_ : Int) + k + n ≤ b.size := by omega
              go_region_law ((refine step_app rfl (.tmp 75) (.tmp 86) 69 9 rfl rowStr (base := w.heap.size + 2) ?_ (v := .slice p3 acc.length cap3) (n := acc.length) (xs := textsV acc) (by rfl) ?_ _ #[.string (b.extract (at_ + k) (at_ + k + n))] (by rfl) rfl (T := 9) ?_ ?_ ?_ ?_ ?_; (focus (simp; omega)); (focus (repeat (first | with_reducible exact O3.out | with_reducible refine World.ownsRow.alloc ?_ _ | with_reducible refine own_drew ?_))); (focus (repeat (first | ((with_reducible refine blk_new' ?_); simp) | with_reducible refine blk_drew ?_))); (focus (simp [Value.oneCell'])); (focus (unfold maxLen; omega)); (focus omega); intro v3x wC hoC; obtain ⟨pz, cz, rfl, hnz, hmz⟩ := own_slice hoC.own; have K0 : Hid (wC.heap[w.heap.size]? = some (.cells #[.slice none 0 0, .slice none 0 0, .slice none 0 0] 105 (0, 0))) := (hoC.blocks _ _ (by repeat (first | with_reducible exact H0.out | with_reducible refine blk_drew ?_ | with_reducible refine blk_alloc ?_)) (fun h => by have := (O3.out.lt _ h.symm).1; omega)); have K1 : Hid (wC.heap[w.heap.size + 1]? = some (.cells #[.slice px (acc.length + 1) cx, .slice py (acc.length + 1) cy, .slice p3 acc.length cap3] 105 (0, 0))) := (hoC.blocks _ _ (by repeat (first | with_reducible exact H1.out | with_reducible refine blk_drew ?_ | with_reducible refine blk_alloc ?_)) (fun h => by have := (O3.out.lt _ h.symm).1; omega)); unfold maxLen at hmz; clear c0 cf; have k10 : wC.cell? ⟨w.heap.size + 1, 0, none⟩ = some (.slice px (acc.length + 1) cx) := blk_cell K1.out 0; have k11 : wC.cell? ⟨w.heap.size + 1, 1, none⟩ = some (.slice py (acc.length + 1) cy) := blk_cell K1.out 1; have k12 : wC.cell? ⟨w.heap.size + 1, 2, none⟩ = some (.slice p3 acc.length cap3) := blk_cell K1.out 2; have k1f : ∀ o, wC.frozen? ⟨w.heap.size + 1, o, none⟩ = false := blk_free K1.out))
              all_goals
                have hl1 : (acc ++ [(⟨tag, wire, b.extract (at_ + k) (at_ + k + n)⟩ : Fld)]).length = acc.length + 1 := by simp
                have Z1 : Hid ((wC.setCell ⟨w.heap.size + 1, 2, none⟩ (.slice pz (acc.length + 1) cz)).ownsRow (w.heap.size + 2) 3 1 (.slice px (acc.length + 1) cx) (acc ++ [(⟨tag, wire, b.extract (at_ + k) (at_ + k + n)⟩ : Fld)]).length (tagsV (acc ++ [⟨tag, wire, b.extract (at_ + k) (at_ + k + n)⟩]))) := by
                  unfold Hid
                  rw [hl1, ← tagsV_snoc]
                  exact ownsRow_setCell_below (hoC.rows (w.heap.size + 2) 3 1 (.slice px (acc.length + 1) cx) (acc.length + 1) _ (by decide) (by repeat (first | with_reducible exact O1.out | with_reducible refine own_drew ?_ | with_reducible refine World.ownsRow.alloc ?_ _))) (Nat.lt_succ_self _) _
                have Z2 : Hid ((wC.setCell ⟨w.heap.size + 1, 2, none⟩ (.slice pz (acc.length + 1) cz)).ownsRow (w.heap.size + 2) 3 1 (.slice py (acc.length + 1) cy) (acc ++ [(⟨tag, wire, b.extract (at_ + k) (at_ + k + n)⟩ : Fld)]).length (wiresV (acc ++ [⟨tag, wire, b.extract (at_ + k) (at_ + k + n)⟩]))) := by
                  unfold Hid
                  rw [hl1, ← wiresV_snoc]
                  exact ownsRow_setCell_below (hoC.rows (w.heap.size + 2) 3 1 (.slice py (acc.length + 1) cy) (acc.length + 1) _ (by decide) (by repeat (first | with_reducible exact O2.out | with_reducible refine own_drew ?_ | with_reducible refine World.ownsRow.alloc ?_ _))) (Nat.lt_succ_self _) _
                have Z3 : Hid ((wC.setCell ⟨w.heap.size + 1, 2, none⟩ (.slice pz (acc.length + 1) cz)).ownsRow (w.heap.size + 2) 9 1 (.slice pz (acc.length + 1) cz) (acc ++ [(⟨tag, wire, b.extract (at_ + k) (at_ + k + n)⟩ : Fld)]).length (textsV (acc ++ [⟨tag, wire, b.extract (at_ + k) (at_ + k + n)⟩]))) := by
                  unfold Hid
                  rw [hl1, ← textsV_snoc]
                  exact ownsRow_setCell_below hoC.own (Nat.lt_succ_self _) _
                have L0 : Hid ((wC.setCell ⟨w.heap.size + 1, 2, none⟩ (.slice pz (acc.length + 1) cz)).heap[w.heap.size]? = some (.cells #[.slice none 0 0, .slice none 0 0, .slice none 0 0] 105 (0, 0))) := blk_ne K0.out (Nat.ne_of_lt (Nat.lt_succ_self _)) _
                have L1 : Hid ((wC.setCell ⟨w.heap.size + 1, 2, none⟩ (.slice pz (acc.length + 1) cz)).heap[w.heap.size + 1]? = some (.cells #[.slice px (acc.length + 1) cx, .slice py (acc.length + 1) cy, .slice pz (acc.length + 1) cz] 105 (0, 0))) := blk_set K1.out 2 (.slice pz (acc.length + 1) cz)
                have LU : Hid (Up w (wC.setCell ⟨w.heap.size + 1, 2, none⟩ (.slice pz (acc.length + 1) cz))) := (hoC.up w (Nat.le_add_right _ _) (by repeat (first | with_reducible exact HU.out | with_reducible refine Up.drew ?_ | with_reducible refine Up.alloc ?_ _))).set (Nat.le_succ _) _
                have LN : Hid (SplitAt b (tailB b (at_ + (k + n))) tag (acc ++ [⟨tag, wire, b.extract (at_ + k) (at_ + k + n)⟩])) := by
                  have := HN.out
                  rw [tailB_tailB, tailB_extract] at this
                  exact this
                have LL : Hid (lastIs (acc ++ [⟨tag, wire, b.extract (at_ + k) (at_ + k + n)⟩]) tag) := .inr ⟨⟨tag, wire, b.extract (at_ + k) (at_ + k + n)⟩, by simp, rfl⟩
                clear hoC hl1
                go_wp2_with fail
                go_roundw
                case rel => exact ⟨at_ + (k + n), tag, _, _, _, _, by go_num, by omega, LN.out, LL, Z1.out, Z2.out, Z3.out, AP.out, L0.out, L1.out, LU.out⟩
                case measure => simp [intOf]; omega
            · have HO := Lib.hid (refSplitOut_bad (w := w) (splitAt_bad HA.out HNE.out (fieldT_skip HR.out ht HS2.out he) he) he)
              have d1 : (e != 0) = true := by rw [bne_iff_ne]; exact he
              clear he
              go_wp2_with fail
              refine (refkeytake_any _ _ HTS.out).mono ?_
              rintro x w1 ⟨rfl, hu1⟩
              rw [HR.out]
              unfold keyV
              have D0 := Lib.hid (hu1.keep C0.out); have D1 := Lib.hid (hu1.keep C1.out)
              have hb1 : w.heap.size + 1 < w1.heap.size := blk_lt D1.out
              have hup1 := hup.trans hu1
              have z00 : w1.cell? ⟨w.heap.size, 0, none⟩ = some (.slice none 0 0) := blk_cell D0.out 0
              have z01 : w1.cell? ⟨w.heap.size, 1, none⟩ = some (.slice none 0 0) := blk_cell D0.out 1
              have z02 : w1.cell? ⟨w.heap.size, 2, none⟩ = some (.slice none 0 0) := blk_cell D0.out 2
              have zf0 : ∀ o, w1.frozen? ⟨w.heap.size, o, none⟩ = false := blk_free D0.out
              have z10 : w1.cell? ⟨w.heap.size + 1, 0, none⟩ = some (.slice p1 acc.length cap1) := blk_cell D1.out 0
              have z11 : w1.cell? ⟨w.heap.size + 1, 1, none⟩ = some (.slice p2 acc.length cap2) := blk_cell D1.out 1
              have z12 : w1.cell? ⟨w.heap.size + 1, 2, none⟩ = some (.slice p3 acc.length cap3) := blk_cell D1.out 2
              have zf1 : ∀ o, w1.frozen? ⟨w.heap.size + 1, o, none⟩ = false := blk_free D1.out
              have T1 := Lib.hid (own_up R1.out hu1); have T2 := Lib.hid (own_up R2.out hu1); have T3 := Lib.hid (own_up R3.out hu1)
              clear q0 q1 x0 x1 x2 y0 y1 y2 hu1
              go_wp2_with fail
              refine (refskip_any _ _ _ HTK.out).mono ?_
              rintro x w2 ⟨rfl, hu2⟩
              rw [HS.out]
              unfold skipV
              have E0 := Lib.hid (hu2.keep D0.out); have E1 := Lib.hid (hu2.keep D1.out)
              have hb2 : w.heap.size + 1 < w2.heap.size := blk_lt E1.out
              have hup2 := hup1.trans hu2
              have S1 := Lib.hid (own_up T1.out hu2); have S2 := Lib.hid (own_up T2.out hu2); have S3 := Lib.hid (own_up T3.out hu2)
              clear z00 z01 z02 z10 z11 z12 zf0 zf1
              have z00 : w2.cell? ⟨w.heap.size, 0, none⟩ = some (.slice none 0 0) := blk_cell E0.out 0
              have z01 : w2.cell? ⟨w.heap.size, 1, none⟩ = some (.slice none 0 0) := blk_cell E0.out 1
              have z02 : w2.cell? ⟨w.heap.size, 2, none⟩ = some (.slice none 0 0) := blk_cell E0.out 2
              have zf0 : ∀ o, w2.frozen? ⟨w.heap.size, o, none⟩ = false := blk_free E0.out
              have z10 : w2.cell? ⟨w.heap.size + 1, 0, none⟩ = some (.slice p1 acc.length cap1) := blk_cell E1.out 0
              have z11 : w2.cell? ⟨w.heap.size + 1, 1, none⟩ = some (.slice p2 acc.length cap2) := blk_cell E1.out 1
              have z12 : w2.cell? ⟨w.heap.size + 1, 2, none⟩ = some (.slice p3 acc.length cap3) := blk_cell E1.out 2
              have zf1 : ∀ o, w2.frozen? ⟨w.heap.size + 1, o, none⟩ = false := blk_free E1.out
              clear hu2
              go_wp2_with fail
              refine bodyPost_ret (v := .tuple #[.agg #[.slice none 0 0, .slice none 0 0, .slice none 0 0], .int .i64 e]) (by simp [results, Try.results73, go_sem, z00, z01, z02]) rfl ?_
              refine HO.out _ ?_
              repeat (refine Up.set ?_ (Nat.le_refl _) _)
              exact hup2
          · clear HC
            have HLC := Lib.hid hlc
            clear hlc
            have b1 : decide (0 < acc.length) = true := decide_eq_true hpos
            have b2 : decide ((0 : Int) < acc.length) = true := decide_eq_true (by omega)
            have b3 : decide ((tag : Int) ≤ last) = false := decide_eq_false (by omega)
            have b4 : decide (tag ≤ last) = false := decide_eq_false (by omega)
            have hd2 := kSkipT_bd (tailB b (at_ + k)) wire
            obtain ⟨⟨n, e⟩, hs⟩ : ∃ r, kSkipT (tailB b (at_ + k)) wire = r := ⟨_, rfl⟩
            rw [hs, tailB_size] at hd2
            obtain ⟨p0, p1', p2'⟩ := hd2
            simp only at p0 p1' p2'
            have HS := Lib.hid hs
            have HS2 := Lib.hid (show kSkipT (tailB (tailB b at_) k) wire = (n, e) by rw [tailB_tailB]; exact hs)
            have HTK := Lib.hid (show (tailB b (at_ + k)).size ≤ maxLen by rw [tailB_size]; unfold maxLen; omega)
            have hsk := fun w => run_strfrom' (P := Try.prog) Try.underlying9 b (at_ + k) (by omega) (by omega) w
            rw [show (((at_ : Int) + k)).toNat = at_ + k from by omega] at hsk
            clear hs
            by_cases he : e = 0
            · subst he
              have HN := Lib.hid (splitAt_next HA.out HR.out ht HS2.out)
              have hsx := fun w => run_strslice (P := Try.prog) Try.underlying9 b (at_ + k) (at_ + k + n) (by omega) (by omega) (by omega) w
              rw [show (((at_ : Int) + k)).toNat = at_ + k from by omega, show (((at_ : Int) + k + n)).toNat = at_ + k + n from by omega] at hsx
              go_wp2_with fail
              refine (refkeytake_any _ _ HTS.out).mono ?_
              rintro x w1 ⟨rfl, hu1⟩
              rw [HR.out]
              unfold keyV
              have D0 := Lib.hid (hu1.keep C0.out); have D1 := Lib.hid (hu1.keep C1.out)
              have hb1 : w.heap.size + 1 < w1.heap.size := blk_lt D1.out
              have hup1 := hup.trans hu1
              have z00 : w1.cell? ⟨w.heap.size, 0, none⟩ = some (.slice none 0 0) := blk_cell D0.out 0
              have z01 : w1.cell? ⟨w.heap.size, 1, none⟩ = some (.slice none 0 0) := blk_cell D0.out 1
              have z02 : w1.cell? ⟨w.heap.size, 2, none⟩ = some (.slice none 0 0) := blk_cell D0.out 2
              have zf0 : ∀ o, w1.frozen? ⟨w.heap.size, o, none⟩ = false := blk_free D0.out
              have z10 : w1.cell? ⟨w.heap.size + 1, 0, none⟩ = some (.slice (some ⟨g, 0, none⟩) acc.length cap1) := blk_cell D1.out 0
              have z11 : w1.cell? ⟨w.heap.size + 1, 1, none⟩ = some (.slice p2 acc.length cap2) := blk_cell D1.out 1
              have z12 : w1.cell? ⟨w.heap.size + 1, 2, none⟩ = some (.slice p3 acc.length cap3) := blk_cell D1.out 2
              have zf1 : ∀ o, w1.frozen? ⟨w.heap.size + 1, o, none⟩ = false := blk_free D1.out
              have hl1 := HLC.out w1 hu1
              have hgl1 : g < w1.heap.size := Nat.lt_of_lt_of_le hgl hu1.size
              have T1 := Lib.hid (own_up R1.out hu1); have T2 := Lib.hid (own_up R2.out hu1); have T3 := Lib.hid (own_up R3.out hu1)
              clear q0 q1 x0 x1 x2 y0 y1 y2 hu1
              go_wp2_with fail
              refine (refskip_any _ _ _ HTK.out).mono ?_
              rintro x w2 ⟨rfl, hu2⟩
              rw [HS.out]
              unfold skipV
              have E0 := Lib.hid (hu2.keep D0.out); have E1 := Lib.hid (hu2.keep D1.out)
              have hb2 : w.heap.size + 1 < w2.heap.size := blk_lt E1.out
              have hup2 := hup1.trans hu2
              have S1 := Lib.hid (own_up T1.out hu2); have S2 := Lib.hid (own_up T2.out hu2); have S3 := Lib.hid (own_up T3.out hu2)
              clear z00 z01 z02 z10 z11 z12 zf0 zf1
              have z00 : w2.cell? ⟨w.heap.size, 0, none⟩ = some (.slice none 0 0) := blk_cell E0.out 0
              have z01 : w2.cell? ⟨w.heap.size, 1, none⟩ = some (.slice none 0 0) := blk_cell E0.out 1
              have z02 : w2.cell? ⟨w.heap.size, 2, none⟩ = some (.slice none 0 0) := blk_cell E0.out 2
              have zf0 : ∀ o, w2.frozen? ⟨w.heap.size, o, none⟩ = false := blk_free E0.out
              have z10 : w2.cell? ⟨w.heap.size + 1, 0, none⟩ = some (.slice (some ⟨g, 0, none⟩) acc.length cap1) := blk_cell E1.out 0
              have z11 : w2.cell? ⟨w.heap.size + 1, 1, none⟩ = some (.slice p2 acc.length cap2) := blk_cell E1.out 1
              have z12 : w2.cell? ⟨w.heap.size + 1, 2, none⟩ = some (.slice p3 acc.length cap3) := blk_cell E1.out 2
              have zf1 : ∀ o, w2.frozen? ⟨w.heap.size + 1, o, none⟩ = false := blk_free E1.out
              clear hu2
              go_wp2_with (at_builtin; (first | (refine wpList_app rfl (.tmp 63) (.tmp 65) 68 3 rfl rowInt (base := w.heap.size + 2) ?_ (v := .slice (some ⟨g, 0, none⟩) acc.length cap1) (n := acc.length) (xs := tagsV acc) (by rfl) ?_ _ #[.int .i64 (tag : Nat)] (by rfl) rfl (T := 3) ?_ ?_ ?_ ?_ ?_; (focus (simp; omega)); (focus (repeat (first | with_reducible exact S1.out | with_reducible refine World.ownsRow.alloc ?_ _ | with_reducible refine own_drew ?_))); (focus (exact blk_new' (by simp))); (focus (simp [Value.oneCell'])); (focus (unfold maxLen; omega)); (focus omega); intro v1x wA hoA; obtain ⟨px, cx, rfl, hnx, hmx⟩ := own_slice hoA.own; have F0 := Lib.hid (hoA.blocks _ _ (blk_alloc E0.out) (fun h => by have := (S1.out.lt _ h.symm).1; omega)); have F1 := Lib.hid (hoA.blocks _ _ (blk_alloc E1.out) (fun h => by have := (S1.out.lt _ h.symm).1; omega)); have hszA := hoA.size; simp only [World.size_alloc] at hszA; unfold maxLen at hmx; have a00 : wA.cell? ⟨w.heap.size, 0, none⟩ = some (.slice none 0 0) := blk_cell F0.out 0; have a01 : wA.cell? ⟨w.heap.size, 1, none⟩ = some (.slice none 0 0) := blk_cell F0.out 1; have a02 : wA.cell? ⟨w.heap.size, 2, none⟩ = some (.slice none 0 0) := blk_cell F0.out 2; have af0 : ∀ o, wA.frozen? ⟨w.heap.size, o, none⟩ = false := blk_free F0.out; have a10 : wA.cell? ⟨w.heap.size + 1, 0, none⟩ = some (.slice (some ⟨g, 0, none⟩) acc.length cap1) := blk_cell F1.out 0; have a11 : wA.cell? ⟨w.heap.size + 1, 1, none⟩ = some (.slice p2 acc.length cap2) := blk_cell F1.out 1; have a12 : wA.cell? ⟨w.heap.size + 1, 2, none⟩ = some (.slice p3 acc.length cap3) := blk_cell F1.out 2; have af1 : ∀ o, wA.frozen? ⟨w.heap.size + 1, o, none⟩ = false := blk_free F1.out) | (refine wpList_app rfl (.tmp 69) (.tmp 71) 68 3 rfl rowInt (base := w.heap.size + 2) ?_ (v := .slice p2 acc.length cap2) (n := acc.length) (xs := wiresV acc) (by rfl) ?_ _ #[.int .i64 (wire : Nat)] (by rfl) rfl (T := 3) ?_ ?_ ?_ ?_ ?_; (focus (simp; omega)); (focus (exact (ownsRow_setCell_below (hoA.rows2 _ _ _ _ _ _ (own_symm HAP.out) (S2.out.alloc _)) (Nat.lt_succ_self _) _).alloc _)); (focus (exact blk_new' (by simp))); (focus (simp [Value.oneCell'])); (focus (unfold maxLen; omega)); (focus omega); intro v2x wB hoB; obtain ⟨py, cy, rfl, hny, hmy⟩ := own_slice hoB.own; have G0 := Lib.hid (hoB.blocks _ _ (blk_alloc (blk_ne F0.out (Nat.ne_of_lt (Nat.lt_succ_self _)) _)) (fun h => by have := (S2.out.lt _ h.symm).1; omega)); have G1 := Lib.hid (hoB.blocks _ _ (blk_alloc (blk_set F1.out 0 (.slice px (acc.length + 1) cx))) (fun h => by have := (S2.out.lt _ h.symm).1; omega)); have hszB := hoB.size; simp only [World.size_alloc, World.size_setCell] at hszB; unfold maxLen at hmy; clear a00 a01 a02 a10 a11 a12 af0 af1; have b10 : wB.cell? ⟨w.heap.size + 1, 0, none⟩ = some (.slice px (acc.length + 1) cx) := blk_cell G1.out 0; have b11 : wB.cell? ⟨w.heap.size + 1, 1, none⟩ = some (.slice p2 acc.length cap2) := blk_cell G1.out 1; have b12 : wB.cell? ⟨w.heap.size + 1, 2, none⟩ = some (.slice p3 acc.length cap3) := blk_cell G1.out 2; have b1f : ∀ o, wB.frozen? ⟨w.heap.size + 1, o, none⟩ = false := blk_free G1.out)))
              have ap1 := own_symm (hoA.apart (own_symm HAP.out) (fun k hk => by have := (S2.out.lt k hk).2; simp; omega))
              have O1 : Hid ((wB.setCell ⟨w.heap.size + 1, 1, none⟩ (.slice py (acc.length + 1) cy)).ownsRow (w.heap.size + 2) 3 1 (.slice px (acc.length + 1) cx) (acc.length + 1) (tagsV acc ++ [.int .i64 (tag : Nat)])) := ownsRow_setCell_below (hoB.rows2 _ _ _ _ _ _ ap1 ((ownsRow_setCell_below hoA.own (Nat.lt_succ_self _) _).alloc _)) (Nat.lt_succ_self _) _
              have O2 : Hid ((wB.setCell ⟨w.heap.size + 1, 1, none⟩ (.slice py (acc.length + 1) cy)).ownsRow (w.heap.size + 2) 3 1 (.slice py (acc.length + 1) cy) (acc.length + 1) (wiresV acc ++ [.int .i64 (wire : Nat)])) := ownsRow_setCell_below hoB.own (Nat.lt_succ_self _) _
              have O3 : Hid ((wB.setCell ⟨w.heap.size + 1, 1, none⟩ (.slice py (acc.length + 1) cy)).ownsRow (w.heap.size + 2) 9 1 (.slice p3 acc.length cap3) acc.length (textsV acc)) := ownsRow_setCell_below (hoB.rows _ _ _ _ _ _ (by decide) ((ownsRow_setCell_below (hoA.rows _ _ _ _ _ _ (by decide) (S3.out.alloc _)) (Nat.lt_succ_self _) _).alloc _)) (Nat.lt_succ_self _) _
              have AP := Lib.hid (hoB.apart (x := .slice px (acc.length + 1) cx) ap1 (fun k hk => by have := (hoA.own.lt k hk).2; simp; omega))
              have H0 : Hid ((wB.setCell ⟨w.heap.size + 1, 1, none⟩ (.slice py (acc.length + 1) cy)).heap[w.heap.size]? = some (.cells #[.slice none 0 0, .slice none 0 0, .slice none 0 0] 105 (0, 0))) := blk_ne G0.out (Nat.ne_of_lt (Nat.lt_succ_self _)) _
              have H1 : Hid ((wB.setCell ⟨w.heap.size + 1, 1, none⟩ (.slice py (acc.length + 1) cy)).heap[w.heap.size + 1]? = some (.cells #[.slice px (acc.length + 1) cx, .slice py (acc.length + 1) cy, .slice p3 acc.length cap3] 105 (0, 0))) := blk_set G1.out 1 (.slice py (acc.length + 1) cy)
              have HU : Hid (Up w (wB.setCell ⟨w.heap.size + 1, 1, none⟩ (.slice py (acc.length + 1) cy))) := (hoB.up w (Nat.le_add_right _ _) (((hoA.up w (Nat.le_add_right _ _) (hup2.alloc _)).set (Nat.le_succ _) _).alloc _)).set (Nat.le_succ _) _
              have HZ : w.heap.size + 2 ≤ (wB.setCell ⟨w.heap.size + 1, 1, none⟩ (.slice py (acc.length + 1) cy)).heap.size := blk_lt H1.out
              clear hoA hoB b10 b11 b12 b1f ap1 hszA hszB
              generalize (wB.setCell ⟨w.heap.size + 1, 1, none⟩ (.slice py (acc.length + 1) cy)) = w3 at *
              have c0 : w3.cell? ⟨w.heap.size + 1, 2, none⟩ = some (.slice p3 acc.length cap3) := blk_cell H1.out 2
              have cf : ∀ o, w3.frozen? ⟨w.heap.size + 1, o, none⟩ = false := blk_free H1.out
              have hlt3 : w.heap.size + 1 < w3.heap.size := blk_lt H1.out
              have hwr1 : IntKind.i64.wrap ((at_ : Int) + k) = (at_ : Int) + k := IntWalk.i64_in _ (by omega)
              have hwr2 : IntKind.i64.wrap ((at_ : Int) + k + n) = (at_ : Int) + k + n := IntWalk.i64_in _ (by omega)
              have i0 : (0 : Int) ≤ (at_ : Int) + k := by omega
              have i1 : (at_ : Int) + k ≤ (at_ : Int) + k + n := by omega
              have i2 : (at_ : Int) + k + n ≤ b.size := by omega
              go_region_law ((refine step_app rfl (.tmp 75) (.tmp 86) 69 9 rfl rowStr (base := w.heap.size + 2) ?_ (v := .slice p3 acc.length cap3) (n := acc.length) (xs := textsV acc) (by rfl) ?_ _ #[.string (b.extract (at_ + k) (at_ + k + n))] (by rfl) rfl (T := 9) ?_ ?_ ?_ ?_ ?_; (focus (simp; omega)); (focus (repeat (first | with_reducible exact O3.out | with_reducible refine World.ownsRow.alloc ?_ _ | with_reducible refine own_drew ?_))); (focus (repeat (first | ((with_reducible refine blk_new' ?_); simp) | with_reducible refine blk_drew ?_))); (focus (simp [Value.oneCell'])); (focus (unfold maxLen; omega)); (focus omega); intro v3x wC hoC; obtain ⟨pz, cz, rfl, hnz, hmz⟩ := own_slice hoC.own; have K0 : Hid (wC.heap[w.heap.size]? = some (.cells #[.slice none 0 0, .slice none 0 0, .slice none 0 0] 105 (0, 0))) := (hoC.blocks _ _ (by repeat (first | with_reducible exact H0.out | with_reducible refine blk_drew ?_ | with_reducible refine blk_alloc ?_)) (fun h => by have := (O3.out.lt _ h.symm).1; omega)); have K1 : Hid (wC.heap[w.heap.size + 1]? = some (.cells #[.slice px (acc.length + 1) cx, .slice py (acc.length + 1) cy, .slice p3 acc.length cap3] 105 (0, 0))) := (hoC.blocks _ _ (by repeat (first | with_reducible exact H1.out | with_reducible refine blk_drew ?_ | with_reducible refine blk_alloc ?_)) (fun h => by have := (O3.out.lt _ h.symm).1; omega)); unfold maxLen at hmz; clear c0 cf; have k10 : wC.cell? ⟨w.heap.size + 1, 0, none⟩ = some (.slice px (acc.length + 1) cx) := blk_cell K1.out 0; have k11 : wC.cell? ⟨w.heap.size + 1, 1, none⟩ = some (.slice py (acc.length + 1) cy) := blk_cell K1.out 1; have k12 : wC.cell? ⟨w.heap.size + 1, 2, none⟩ = some (.slice p3 acc.length cap3) := blk_cell K1.out 2; have k1f : ∀ o, wC.frozen? ⟨w.heap.size + 1, o, none⟩ = false := blk_free K1.out))
              all_goals
                have hl1 : (acc ++ [(⟨tag, wire, b.extract (at_ + k) (at_ + k + n)⟩ : Fld)]).length = acc.length + 1 := by simp
                have Z1 : Hid ((wC.setCell ⟨w.heap.size + 1, 2, none⟩ (.slice pz (acc.length + 1) cz)).ownsRow (w.heap.size + 2) 3 1 (.slice px (acc.length + 1) cx) (acc ++ [(⟨tag, wire, b.extract (at_ + k) (at_ + k + n)⟩ : Fld)]).length (tagsV (acc ++ [⟨tag, wire, b.extract (at_ + k) (at_ + k + n)⟩]))) := by
                  unfold Hid
                  rw [hl1, ← tagsV_snoc]
                  exact ownsRow_setCell_below (hoC.rows (w.heap.size + 2) 3 1 (.slice px (acc.length + 1) cx) (acc.length + 1) _ (by decide) (by repeat (first | with_reducible exact O1.out | with_reducible refine own_drew ?_ | with_reducible refine World.ownsRow.alloc ?_ _))) (Nat.lt_succ_self _) _
                have Z2 : Hid ((wC.setCell ⟨w.heap.size + 1, 2, none⟩ (.slice pz (acc.length + 1) cz)).ownsRow (w.heap.size + 2) 3 1 (.slice py (acc.length + 1) cy) (acc ++ [(⟨tag, wire, b.extract (at_ + k) (at_ + k + n)⟩ : Fld)]).length (wiresV (acc ++ [⟨tag, wire, b.extract (at_ + k) (at_ + k + n)⟩]))) := by
                  unfold Hid
                  rw [hl1, ← wiresV_snoc]
                  exact ownsRow_setCell_below (hoC.rows (w.heap.size + 2) 3 1 (.slice py (acc.length + 1) cy) (acc.length + 1) _ (by decide) (by repeat (first | with_reducible exact O2.out | with_reducible refine own_drew ?_ | with_reducible refine World.ownsRow.alloc ?_ _))) (Nat.lt_succ_self _) _
                have Z3 : Hid ((wC.setCell ⟨w.heap.size + 1, 2, none⟩ (.slice pz (acc.length + 1) cz)).ownsRow (w.heap.size + 2) 9 1 (.slice pz (acc.length + 1) cz) (acc ++ [(⟨tag, wire, b.extract (at_ + k) (at_ + k + n)⟩ : Fld)]).length (textsV (acc ++ [⟨tag, wire, b.extract (at_ + k) (at_ + k + n)⟩]))) := by
                  unfold Hid
                  rw [hl1, ← textsV_snoc]
                  exact ownsRow_setCell_below hoC.own (Nat.lt_succ_self _) _
                have L0 : Hid ((wC.setCell ⟨w.heap.size + 1, 2, none⟩ (.slice pz (acc.length + 1) cz)).heap[w.heap.size]? = some (.cells #[.slice none 0 0, .slice none 0 0, .slice none 0 0] 105 (0, 0))) := blk_ne K0.out (Nat.ne_of_lt (Nat.lt_succ_self _)) _
                have L1 : Hid ((wC.setCell ⟨w.heap.size + 1, 2, none⟩ (.slice pz (acc.length + 1) cz)).heap[w.heap.size + 1]? = some (.cells #[.slice px (acc.length + 1) cx, .slice py (acc.length + 1) cy, .slice pz (acc.length + 1) cz] 105 (0, 0))) := blk_set K1.out 2 (.slice pz (acc.length + 1) cz)
                have LU : Hid (Up w (wC.setCell ⟨w.heap.size + 1, 2, none⟩ (.slice pz (acc.length + 1) cz))) := (hoC.up w (Nat.le_add_right _ _) (by repeat (first | with_reducible exact HU.out | with_reducible refine Up.drew ?_ | with_reducible refine Up.alloc ?_ _))).set (Nat.le_succ _) _
                have LN : Hid (SplitAt b (tailB b (at_ + (k + n))) tag (acc ++ [⟨tag, wire, b.extract (at_ + k) (at_ + k + n)⟩])) := by
                  have := HN.out
                  rw [tailB_tailB, tailB_extract] at this
                  exact this
                have LL : Hid (lastIs (acc ++ [⟨tag, wire, b.extract (at_ + k) (at_ + k + n)⟩]) tag) := .inr ⟨⟨tag, wire, b.extract (at_ + k) (at_ + k + n)⟩, by simp, rfl⟩
                clear hoC hl1
                go_wp2_with fail
                go_roundw
                case rel => exact ⟨at_ + (k + n), tag, _, _, _, _, by go_num, by omega, LN.out, LL, Z1.out, Z2.out, Z3.out, AP.out, L0.out, L1.out, LU.out⟩
                case measure => simp [intOf]; omega
            · have HO := Lib.hid (refSplitOut_bad (w := w) (splitAt_bad HA.out HNE.out (fieldT_skip HR.out ht HS2.out he) he) he)
              have d1 : (e != 0) = true := by rw [bne_iff_ne]; exact he
              clear he
              go_wp2_with fail
              refine (refkeytake_any _ _ HTS.out).mono ?_
              rintro x w1 ⟨rfl, hu1⟩
              rw [HR.out]
              unfold keyV
              have D0 := Lib.hid (hu1.keep C0.out); have D1 := Lib.hid (hu1.keep C1.out)
              have hb1 : w.heap.size + 1 < w1.heap.size := blk_lt D1.out
              have hup1 := hup.trans hu1
              have z00 : w1.cell? ⟨w.heap.size, 0, none⟩ = some (.slice none 0 0) := blk_cell D0.out 0
              have z01 : w1.cell? ⟨w.heap.size, 1, none⟩ = some (.slice none 0 0) := blk_cell D0.out 1
              have z02 : w1.cell? ⟨w.heap.size, 2, none⟩ = some (.slice none 0 0) := blk_cell D0.out 2
              have zf0 : ∀ o, w1.frozen? ⟨w.heap.size, o, none⟩ = false := blk_free D0.out
              have z10 : w1.cell? ⟨w.heap.size + 1, 0, none⟩ = some (.slice (some ⟨g, 0, none⟩) acc.length cap1) := blk_cell D1.out 0
              have z11 : w1.cell? ⟨w.heap.size + 1, 1, none⟩ = some (.slice p2 acc.length cap2) := blk_cell D1.out 1
              have z12 : w1.cell? ⟨w.heap.size + 1, 2, none⟩ = some (.slice p3 acc.length cap3) := blk_cell D1.out 2
              have zf1 : ∀ o, w1.frozen? ⟨w.heap.size + 1, o, none⟩ = false := blk_free D1.out
              have hl1 := HLC.out w1 hu1
              have hgl1 : g < w1.heap.size := Nat.lt_of_lt_of_le hgl hu1.size
              have T1 := Lib.hid (own_up R1.out hu1); have T2 := Lib.hid (own_up R2.out hu1); have T3 := Lib.hid (own_up R3.out hu1)
              clear q0 q1 x0 x1 x2 y0 y1 y2 hu1
              go_wp2_with fail
              refine (refskip_any _ _ _ HTK.out).mono ?_
              rintro x w2 ⟨rfl, hu2⟩
              rw [HS.out]
              unfold skipV
              have E0 := Lib.hid (hu2.keep D0.out); have E1 := Lib.hid (hu2.keep D1.out)
              have hb2 : w.heap.size + 1 < w2.heap.size := blk_lt E1.out
              have hup2 := hup1.trans hu2
              have S1 := Lib.hid (own_up T1.out hu2); have S2 := Lib.hid (own_up T2.out hu2); have S3 := Lib.hid (own_up T3.out hu2)
              clear z00 z01 z02 z10 z11 z12 zf0 zf1
              have z00 : w2.cell? ⟨w.heap.size, 0, none⟩ = some (.slice none 0 0) := blk_cell E0.out 0
              have z01 : w2.cell? ⟨w.heap.size, 1, none⟩ = some (.slice none 0 0) := blk_cell E0.out 1
              have z02 : w2.cell? ⟨w.heap.size, 2, none⟩ = some (.slice none 0 0) := blk_cell E0.out 2
              have zf0 : ∀ o, w2.frozen? ⟨w.heap.size, o, none⟩ = false := blk_free E0.out
              have z10 : w2.cell? ⟨w.heap.size + 1, 0, none⟩ = some (.slice (some ⟨g, 0, none⟩) acc.length cap1) := blk_cell E1.out 0
              have z11 : w2.cell? ⟨w.heap.size + 1, 1, none⟩ = some (.slice p2 acc.length cap2) := blk_cell E1.out 1
              have z12 : w2.cell? ⟨w.heap.size + 1, 2, none⟩ = some (.slice p3 acc.length cap3) := blk_cell E1.out 2
              have zf1 : ∀ o, w2.frozen? ⟨w.heap.size + 1, o, none⟩ = false := blk_free E1.out
              clear hu2
              go_wp2_with fail
              refine bodyPost_ret (v := .tuple #[.agg #[.slice none 0 0, .slice none 0 0, .slice none 0 0], .int .i64 e]) (by simp [results, Try.results73, go_sem, z00, z01, z02]) rfl ?_
              refine HO.out _ ?_
              repeat (refine Up.set ?_ (Nat.le_refl _) _)
              exact hup2
      · have HO := Lib.hid (refSplitOut_bad (w := w) (splitAt_bad HA.out HNE.out (fieldT_take HR.out he) he) he)
        have d1 : (e != 0) = true := by rw [bne_iff_ne]; exact he
        have d2 : (e == 0) = false := by rw [beq_eq_false_iff_ne]; exact he
        clear he g5
        go_wp2_with fail
        refine (refkeytake_any _ _ HTS.out).mono ?_
        rintro x w1 ⟨rfl, hu1⟩
        rw [HR.out]
        unfold keyV
        have D0 := Lib.hid (hu1.keep C0.out); have D1 := Lib.hid (hu1.keep C1.out)
        have hb1 : w.heap.size + 1 < w1.heap.size := blk_lt D1.out
        have hup1 := hup.trans hu1
        have z00 : w1.cell? ⟨w.heap.size, 0, none⟩ = some (.slice none 0 0) := blk_cell D0.out 0
        have z01 : w1.cell? ⟨w.heap.size, 1, none⟩ = some (.slice none 0 0) := blk_cell D0.out 1
        have z02 : w1.cell? ⟨w.heap.size, 2, none⟩ = some (.slice none 0 0) := blk_cell D0.out 2
        have zf0 : ∀ o, w1.frozen? ⟨w.heap.size, o, none⟩ = false := blk_free D0.out
        have z10 : w1.cell? ⟨w.heap.size + 1, 0, none⟩ = some (.slice p1 acc.length cap1) := blk_cell D1.out 0
        have z11 : w1.cell? ⟨w.heap.size + 1, 1, none⟩ = some (.slice p2 acc.length cap2) := blk_cell D1.out 1
        have z12 : w1.cell? ⟨w.heap.size + 1, 2, none⟩ = some (.slice p3 acc.length cap3) := blk_cell D1.out 2
        have zf1 : ∀ o, w1.frozen? ⟨w.heap.size + 1, o, none⟩ = false := blk_free D1.out
        clear q0 q1 x0 x1 x2 y0 y1 y2 hu1
        go_wp2_with fail
        refine bodyPost_ret (v := .tuple #[.agg #[.slice none 0 0, .slice none 0 0, .slice none 0 0], .int .i64 e]) (by simp [results, Try.results73, go_sem, z00, z01, z02]) rfl ?_
        refine HO.out _ ?_
        repeat (refine Up.set ?_ (Nat.le_refl _) _)
        exact hup1
end Go.Proofs.Ytpldfoclogkppaa
