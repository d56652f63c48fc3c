/- The walks of the document's Revoke and Issue of chapter 21: what each hands back. -/
import Derived.Test.YtmmmaekaoanceaaMacC
import Derived.Test.YtmmmaekaoanceaaMany
namespace Go.Proofs.Ytmmmaekaoanceaa
open Go Go.RowKit

theorem was_step (l : List MRow) (k : Nat) (x : MRow) (o : Int) (hx : l[k]? = some x) : wasL (l.take (k + 1)) o = (wasL (l.take k) o || (x.owner == o && x.known)) := by
  obtain ⟨h1, rfl⟩ := List.getElem?_eq_some_iff.1 hx
  unfold wasL
  rw [List.take_succ_eq_append_getElem h1, List.any_append]
  simp
/-- the rows of which the first k were gone through -/
def midL (l : List MRow) (k : Nat) (o : Int) : List MRow := (l.take k).map (MRow.off o) ++ l.drop k
theorem midL_len (l : List MRow) (k : Nat) (o : Int) (h : k ≤ l.length) : (midL l k o).length = l.length := by unfold midL; simp; omega
theorem midL_at (l : List MRow) (k : Nat) (o : Int) (x : MRow) (hx : l[k]? = some x) : (midL l k o)[k]? = some x := by
  obtain ⟨h1, rfl⟩ := List.getElem?_eq_some_iff.1 hx
  unfold midL
  rw [List.getElem?_append_right (by simp; omega)]
  simp [Nat.min_eq_left (Nat.le_of_lt h1)]
theorem midL_next (l : List MRow) (k : Nat) (o : Int) (x : MRow) (hx : l[k]? = some x) : midL l (k + 1) o = (midL l k o).set k (x.off o) := by
  obtain ⟨h1, rfl⟩ := List.getElem?_eq_some_iff.1 hx
  unfold midL
  rw [List.take_succ_eq_append_getElem h1, List.drop_eq_getElem_cons h1, List.map_append, List.set_append, if_neg (by simp; omega)]
  simp [Nat.min_eq_left (Nat.le_of_lt h1)]
  rw [List.drop_eq_getElem_cons h1]; rfl
theorem rows_set : ∀ (m : List MRow) (k : Nat) (x : MRow), m[k]? = some x → (rowsV m).set (k * 4 + 3) (.bool false) = rowsV (m.set k { x with known := false })
  | [], k, x, h => by simp at h
  | y :: r, 0, x, h => by
    simp only [List.getElem?_cons_zero, Option.some.injEq] at h
    subst h
    simp [rowsV, MRow.cells]
  | y :: r, k + 1, x, h => by
    have ih := rows_set r k x (by simpa using h)
    unfold rowsV at *
    simp only [List.flatMap_cons, List.set_cons_succ]
    rw [List.set_append, if_neg (by simp [MRow.cells]; omega), ← ih]
    congr 2
    simp [MRow.cells]; omega
theorem off_not {x : MRow} {o : Int} (h : x.owner ≠ o) : x.off o = x := by unfold MRow.off; rw [if_neg h]
theorem off_yes {x : MRow} {o : Int} (h : x.owner = o) : x.off o = { x with known := false } := by unfold MRow.off; rw [if_pos h]
theorem set_same (m : List MRow) (k : Nat) (x : MRow) (h : m[k]? = some x) : m.set k x = m := by
  obtain ⟨h1, rfl⟩ := List.getElem?_eq_some_iff.1 h
  exact List.set_getElem_self h1

set_option maxHeartbeats 1600000 in
set_option maxRecDepth 100000 in
theorem refrevoke_any (v : Value) (l : List MRow) (o : Int) (w : World) (hr : Row w v l 4 MRow.cells) (hl : l.length ≤ 1000) :
    Calls Try.prog 27 #[v, .int .i64 o] w (fun x w' => ∃ v', x = .returned (.tuple #[v', .bool (wasL l o)]) ∧ w'.ownsRow w.heap.size 40 4 v' l.length (rowsV (revokeL l o)) ∧ Up w w') := by
  have hmade := Lib.hid (World.ownsRow_made (base := w.heap.size) (e := 40) (size := 4) w #[] 0 (Nat.le_refl _) (by decide) (by decide))
  have HR := Lib.hid (hr.up ((Up.refl w).alloc (.cells #[] 40)))
  go_enter Try.func27, Try.ntmps27
  go_wp2_with (at_builtin; refine wpList_apps rfl _ _ 28 40 rfl rowMRow (base := w.heap.size) (by simp) rfl hmade.out rfl HR.out (fun x hx => rfl) (fun x hx u hu => by simp [MRow.cells] at hu; rcases hu with rfl | rfl | rfl | rfl <;> rfl) (by unfold maxLen; omega) (by omega) ?_; intro v1 w1 hA)
  obtain ⟨p, cap, rfl, hcc, hmm⟩ := own_slice hA.own
  have h0 : w1.ownsRow w.heap.size 40 4 (.slice p (0 + l.length) cap) (0 + l.length) (rowsV l) := hA.own
  have hup1 : Up w w1 := hA.up w (Nat.le_refl _) ((Up.refl w).alloc _)
  rw [Nat.zero_add] at h0 hcc ⊢
  unfold maxLen at hmm
  clear hA
  go_loopw [7, 8] (fun ws i wr => ∃ (k : Nat) (B : Bool), k ≤ l.length ∧ i = .int .i64 k ∧ ws = .bool B ∧ Hid (B = wasL (l.take k) o) ∧ wr.ownsRow w.heap.size 40 4 (.slice p l.length cap) l.length (rowsV (midL l k o)) ∧ Up w wr) (fun _ i _ => l.length - (intOf i).toNat)
  case atStart => exact ⟨0, false, Nat.zero_le _, rfl, rfl, rfl, h0, hup1⟩
  case round =>
    clear h0 hup1
    obtain ⟨k, B, hk, rfl, rfl, hB, hown, hup⟩ := hrel
    by_cases hlt : k < l.length
    · have hx : l[k]? = some l[k] := List.getElem?_eq_getElem hlt
      have hst := was_step l k _ o hx
      have hm := midL_at l k o _ hx
      have hn := midL_next l k o _ hx
      generalize l[k] = x at *
      have hR : Row wr (.slice p l.length cap) (midL l k o) 4 MRow.cells := row_of_own (base := w.heap.size) (e := 40) (n := l.length) (fun _ _ => rfl) hown (midL_len l k o hk)
      obtain ⟨p', cap', hv, _, _, hrow⟩ := hR
      simp only [Value.slice.injEq] at hv
      obtain ⟨rfl, _, rfl⟩ := hv
      obtain ⟨g, off, rfl, hg, hcell⟩ := hrow (by rw [midL_len l k o hk]; omega)
      obtain ⟨g', cap', hv, _, _, hwg, _⟩ := own_shape hown (by omega)
      simp only [Value.slice.injEq, Option.some.injEq, Addr.mk.injEq] at hv
      obtain ⟨⟨rfl, rfl, _⟩, _, rfl⟩ := hv
      have c0 : wr.cell? ⟨g, k * 4, none⟩ = some (.int .i64 x.owner) := by have := hcell k _ hm 0 _ rfl; simpa using this
      have c3 : wr.cell? ⟨g, k * 4 + 3, none⟩ = some (.bool x.known) := by have := hcell k _ hm 3 _ rfl; simpa [Nat.add_assoc] using this
      have cf : ∀ j, wr.frozen? ⟨g, j, none⟩ = false := by
        obtain ⟨_, ⟨hv, _⟩ | ⟨g2, cap2, cur, hv, _, hb, _⟩⟩ := hown
        · cases hv
        · simp only [Value.slice.injEq, Option.some.injEq, Addr.mk.injEq] at hv
          obtain ⟨⟨rfl, _, _⟩, _, rfl⟩ := hv
          exact blk_free hb
      obtain ⟨xo, xe, xt, xk⟩ := x
      simp only at c0 c3 hst
      by_cases ho : xo = o
      · have d1 : (xo == o) = true := by rw [beq_iff_eq]; exact ho
        have HO : Hid ((wr.setCell ⟨g, k * 4 + 3, none⟩ (.bool false)).ownsRow w.heap.size 40 4 (.slice (some ⟨g, 0, none⟩) l.length cap) l.length (rowsV (midL l (k + 1) o))) := by
          unfold Hid
          rw [hn, off_yes ho, ← rows_set _ _ _ hm]
          exact own_set hown _ _
        have HB : Hid ((B || xk) = wasL (l.take (k + 1)) o) := by unfold Hid; rw [hst, ← hB.out, d1, Bool.true_and]
        clear hown hcell hrow hx hm hn hst ho hB
        cases B with
        | true =>
          go_wp2_with fail
          go_roundw
          case rel => exact ⟨k + 1, _, by omega, by go_num, rfl, HB, HO.out, hup.set hwg _⟩
          case measure => simp [intOf]; omega
        | false =>
          go_wp2_with fail
          go_roundw
          case rel => exact ⟨k + 1, _, by omega, by go_num, rfl, by simpa using HB, HO.out, hup.set hwg _⟩
          case measure => simp [intOf]; omega
      · have d1 : (xo == o) = false := by rw [beq_eq_false_iff_ne]; exact ho
        have HO : Hid (wr.ownsRow w.heap.size 40 4 (.slice (some ⟨g, 0, none⟩) l.length cap) l.length (rowsV (midL l (k + 1) o))) := by
          unfold Hid
          rw [hn, off_not ho, set_same _ _ _ hm]
          exact hown
        have HB : Hid (B = wasL (l.take (k + 1)) o) := by unfold Hid; rw [hst, ← hB.out, d1, Bool.false_and, Bool.or_false]
        clear hown hcell hrow hx hm hn hst ho hB
        go_wp2_with fail
        go_roundw
        case rel => exact ⟨k + 1, _, by omega, by go_num, rfl, HB, HO.out, hup⟩
        case measure => simp [intOf]; omega
    · have hkl : k = l.length := by omega
      have HB : Hid (B = wasL l o) := by unfold Hid; rw [hB.out, List.take_of_length_le (by omega)]
      have HO : Hid (wr.ownsRow w.heap.size 40 4 (.slice p l.length cap) l.length (rowsV (revokeL l o))) := by
        have : midL l k o = revokeL l o := by unfold midL revokeL; rw [List.take_of_length_le (by omega), List.drop_of_length_le (by omega), List.append_nil]
        unfold Hid; rw [← this]; exact hown
      clear hown hB hkl
      go_wp2_with fail
      go_ret2
      exact ⟨_, ret_eq (by rw [HB.out]; rfl), HO.out, hup⟩

theorem rowsV_snoc (l : List MRow) (r : MRow) : rowsV (l ++ [r]) = rowsV l ++ r.cells := by simp [rowsV]
set_option maxHeartbeats 3200000 in
set_option maxRecDepth 100000 in
theorem refissue_any (v : Value) (l : List MRow) (o n : Nat) (w : World) (hr : Row w v l 4 MRow.cells) (hl : l.length ≤ 1000) (ho : o ≤ 8) (hn : n < 18446744073709551616) :
    Calls Try.prog 25 #[v, .int .i64 o, .int .u64 n] w (fun x w' => ∃ v', x = .returned v' ∧ w'.ownsRow w.heap.size 40 4 v' (l.length + 1) (rowsV (issueL l o n)) ∧ Up w w') := by
  have hep := epochL_le l o
  go_enter Try.func25, Try.ntmps25
  go_wp2_with fail
  refine (refrevoke_any v l o _ hr hl).mono ?_
  rintro x w1 ⟨v1, rfl, hown, hu1⟩
  go_wp2_with fail
  obtain ⟨pv, cv, rfl, _, _⟩ := own_slice hown
  refine (refepoch_any v l o _ (hr.up hu1) hl).mono ?_
  rintro x w2 ⟨rfl, hu2⟩
  have hown2 := own_up hown hu2
  have hup2 := hu1.trans hu2
  have hmix : ∀ w, Calls Try.prog 66 #[.int .u64 n, .int .u64 (256 * ((epochL l o : Int) + 1) + o)] w (Gives w (.int .u64 (mixN n (256 * (epochL l o + 1) + o) : Nat))) := fun w => by
    have := refmix_any n (256 * (epochL l o + 1) + o) w hn (by omega)
    rwa [show (((256 * (epochL l o + 1) + o : Nat)) : Int) = 256 * ((epochL l o : Int) + 1) + o by omega] at this
  have HM := Lib.hid hmix
  have HI := Lib.hid (show issueL l o n = revokeL l o ++ [⟨o, (epochL l o + 1 : Nat), tagN n (epochL l o + 1) o, true⟩] from rfl)
  have HT := Lib.hid (show tagN n (epochL l o + 1) o = if mixN n (256 * (epochL l o + 1) + o) = 0 then 1 else mixN n (256 * (epochL l o + 1) + o) from rfl)
  have hml0 := mixN_lt n (256 * (epochL l o + 1) + o)
  generalize mixN n (256 * (epochL l o + 1) + o) = m at *
  generalize epochL l o = ep at *
  have hz2 : w.heap.size ≤ w2.heap.size := hup2.size
  have H2 := Lib.hid hown2
  have hrl : (revokeL l o).length = l.length := by unfold revokeL; simp
  have HRL := Lib.hid hrl
  clear hmix hown hu1 hu2 hr hown2 hrl
  by_cases hm : m = 0
  · have d1 : ((m : Int) == 0) = true := by rw [beq_iff_eq]; omega
    have HT2 := Lib.hid (show (1 : Nat) = tagN n (ep + 1) o by rw [HT.out, if_pos hm])
    clear hm
    have HV : Hid (rowsV (revokeL l o) ++ [.int .i64 (o : Nat), .int .i64 ((ep : Int) + 1), .int .u64 1, .bool true] = rowsV (issueL l o n)) := by
      unfold Hid
      rw [HI.out, rowsV_snoc, ← HT2.out]
      rfl
    go_wp2_with fail
    refine (HM.out _).mono ?_
    rintro x w3 ⟨rfl, hu3⟩
    have H3 := Lib.hid (own_up H2.out hu3)
    have hz3 := hu3.size
    have hup3 := hup2.trans hu3
    clear hu3
    go_wp2_with (at_builtin; (refine wpList_app rfl _ _ 28 40 rfl rowMRow (base := w.heap.size) (by simp; omega) (v := .slice pv l.length cv) (n := l.length) (xs := rowsV (revokeL l o)) rfl (H3.out.alloc _) _ #[.int .i64 (o : Nat), .int .i64 ((ep : Int) + 1), .int .u64 1, .bool true] rfl rfl (T := 40) (blk_new' (by simp)) (by simp [Value.oneCell']) (by unfold maxLen; omega) (by omega) ?_; intro v2 w4 hA))
    go_ret
    exact ⟨_, rfl, by rw [← HV.out]; exact hA.own, hA.up w (Nat.le_refl _) (hup3.alloc _)⟩
  · have d1 : ((m : Int) == 0) = false := by rw [beq_eq_false_iff_ne]; omega
    have HT2 := Lib.hid (show m = tagN n (ep + 1) o by rw [HT.out, if_neg hm])
    clear hm
    have HV : Hid (rowsV (revokeL l o) ++ [.int .i64 (o : Nat), .int .i64 ((ep : Int) + 1), .int .u64 (m : Nat), .bool true] = rowsV (issueL l o n)) := by
      unfold Hid
      rw [HI.out, rowsV_snoc, ← HT2.out]
      rfl
    go_wp2_with fail
    refine (HM.out _).mono ?_
    rintro x w3 ⟨rfl, hu3⟩
    have H3 := Lib.hid (own_up H2.out hu3)
    have hz3 := hu3.size
    have hup3 := hup2.trans hu3
    clear hu3
    go_wp2_with (at_builtin; (refine wpList_app rfl _ _ 28 40 rfl rowMRow (base := w.heap.size) (by simp; omega) (v := .slice pv l.length cv) (n := l.length) (xs := rowsV (revokeL l o)) rfl (H3.out.alloc _) _ #[.int .i64 (o : Nat), .int .i64 ((ep : Int) + 1), .int .u64 (m : Nat), .bool true] rfl rfl (T := 40) (blk_new' (by simp)) (by simp [Value.oneCell']) (by unfold maxLen; omega) (by omega) ?_; intro v2 w4 hA))
    go_ret
    exact ⟨_, rfl, by rw [← HV.out]; exact hA.own, hA.up w (Nat.le_refl _) (hup3.alloc _)⟩
end Go.Proofs.Ytmmmaekaoanceaa
