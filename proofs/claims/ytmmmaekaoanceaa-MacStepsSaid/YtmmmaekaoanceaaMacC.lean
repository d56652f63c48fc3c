/- The walks of the document's Epoch, Revoke, Issue, Knows of chapter 21: what each hands back. -/
import Derived.Test.YtmmmaekaoanceaaMacP
import Derived.Test.YtmmmaekaoanceaaTwo
import Derived.Outline
namespace Go.Proofs.Ytmmmaekaoanceaa
open Go Go.RowKit

def MRow.cells (r : MRow) : List Value := [.int .i64 r.owner, .int .i64 r.epoch, .int .u64 (r.tag : Nat), .bool r.known]
def rowsV (l : List MRow) : List Value := l.flatMap MRow.cells
theorem rowsV_len (l : List MRow) : (rowsV l).length = l.length * 4 := by
  unfold rowsV; induction l with
  | nil => rfl
  | cons a l ih => rw [List.flatMap_cons, List.length_append, ih]; simp [MRow.cells]; omega
theorem rowMRow : Row1 Try.prog 28 40 (.agg #[.int .i64 0, .int .i64 0, .int .u64 0, .bool false]) 4 32 := ⟨by kernel_rfl, by kernel_rfl, rfl, by decide⟩
theorem row_rows {w : World} {base : Nat} {v : Value} {l : List MRow} (h : w.ownsRow base 40 4 v l.length (rowsV l)) : Row w v l 4 MRow.cells :=
  row_of_own (base := base) (e := 40) (n := l.length) (fun _ _ => rfl) h rfl
theorem count_step (l : List MRow) (k : Nat) (x : MRow) (o : Int) (hx : l[k]? = some x) : epochL (l.take (k + 1)) o = epochL (l.take k) o + (if x.owner = o then 1 else 0) := by
  obtain ⟨h1, rfl⟩ := List.getElem?_eq_some_iff.1 hx
  unfold epochL
  rw [List.take_succ_eq_append_getElem h1, List.countP_append, List.countP_singleton]
  simp
set_option maxHeartbeats 800000 in
set_option maxRecDepth 100000 in
theorem refepoch_any (v : Value) (l : List MRow) (o : Int) (w : World) (hr : Row w v l 4 MRow.cells) (hl : l.length ≤ 1000) :
    Calls Try.prog 29 #[v, .int .i64 o] w (Gives w (.int .i64 (epochL l o : Nat))) := by
  obtain ⟨p, cap, rfl, hlc, hm, hrow⟩ := hr
  unfold maxLen at hm
  go_enter Try.func29, Try.ntmps29
  go_wp2_with fail
  go_loopw [5, 6] (fun n i wr => ∃ k c : Nat, k ≤ l.length ∧ c ≤ k ∧ i = .int .i64 k ∧ n = .int .i64 c ∧ Hid (c = epochL (l.take k) o) ∧ Up w wr) (fun _ i _ => l.length - (intOf i).toNat)
  case atStart => exact ⟨0, 0, Nat.zero_le _, Nat.le_refl _, rfl, rfl, rfl, Up.refl _⟩
  case round =>
    obtain ⟨k, c, hk, hc, rfl, rfl, hC, hup⟩ := hrel
    by_cases hlt : k < l.length
    · obtain ⟨b, off, rfl, hb, hcell⟩ := hrow (by omega)
      have hx : l[k]? = some l[k] := List.getElem?_eq_getElem hlt
      have c0 : wr.cell? ⟨b, off + k * 4, none⟩ = some (.int .i64 l[k].owner) := by
        rw [hup.cell hb]; have := hcell k _ hx 0 _ rfl; simpa using this
      have hst := count_step l k _ o hx
      generalize l[k] = x at *
      clear hcell hrow hx
      by_cases ho : x.owner = o
      · have HS := Lib.hid (show c + 1 = epochL (l.take (k + 1)) o by rw [hst, if_pos ho, hC.out])
        have d1 : (x.owner == o) = true := by rw [beq_iff_eq]; exact ho
        clear ho hst hC
        go_wp2_with fail
        go_roundw
        case rel => exact ⟨k + 1, c + 1, by omega, by omega, by go_num, by go_num, HS, hup⟩
        case measure => simp [intOf]; omega
      · have HS := Lib.hid (show c = epochL (l.take (k + 1)) o by rw [hst, if_neg ho, hC.out, Nat.add_zero])
        have d1 : (x.owner == o) = false := by rw [beq_eq_false_iff_ne]; exact ho
        clear ho hst hC
        go_wp2_with fail
        go_roundw
        case rel => exact ⟨k + 1, c, by omega, by omega, by go_num, rfl, HS, hup⟩
        case measure => simp [intOf]; omega
    · have HS := Lib.hid (show c = epochL l o by rw [hC.out, List.take_of_length_le (by omega)])
      clear hrow hC
      go_wp2_with fail
      go_ret
      exact Gives.mk (congrArg (fun n : Nat => Value.int .i64 n) HS.out) hup
/-- a row is the one that is asked -/
def MRow.is (r : MRow) (o e : Int) (t : Nat) : Bool := r.known && r.owner == o && r.epoch == e && r.tag == t
set_option maxHeartbeats 1600000 in
set_option maxRecDepth 100000 in
theorem refknows_any (v : Value) (l : List MRow) (o e : Int) (t : Nat) (w : World) (hr : Row w v l 4 MRow.cells) :
    Calls Try.prog 31 #[v, .int .i64 o, .int .i64 e, .int .u64 t] w (Gives w (.bool (knowsL l o e t))) := by
  obtain ⟨p, cap, rfl, hlc, hm, hrow⟩ := hr
  unfold maxLen at hm
  go_enter Try.func31, Try.ntmps31
  go_wp2_with fail
  go_loopw [9] (fun i wr => ∃ k : Nat, k ≤ l.length ∧ i = .int .i64 k ∧ Hid (∀ j x, j < k → l[j]? = some x → x.is o e t = false) ∧ Up w wr) (fun i _ => l.length - (intOf i).toNat)
  case atStart => exact ⟨0, Nat.zero_le _, rfl, fun j x h => absurd h (Nat.not_lt_zero _), Up.refl _⟩
  case round =>
    obtain ⟨k, hk, rfl, hC, hup⟩ := hrel
    by_cases hlt : k < l.length
    · obtain ⟨b, off, rfl, hb, hcell⟩ := hrow (by omega)
      have hx : l[k]? = some l[k] := List.getElem?_eq_getElem hlt
      have c0 : wr.cell? ⟨b, off + k * 4, none⟩ = some (.int .i64 l[k].owner) := by
        rw [hup.cell hb]; have := hcell k _ hx 0 _ rfl; simpa using this
      have c1 : wr.cell? ⟨b, off + k * 4 + 1, none⟩ = some (.int .i64 l[k].epoch) := by
        rw [hup.cell hb]; have := hcell k _ hx 1 _ rfl; simpa [Nat.add_assoc] using this
      have c2 : wr.cell? ⟨b, off + k * 4 + 2, none⟩ = some (.int .u64 (l[k].tag : Nat)) := by
        rw [hup.cell hb]; have := hcell k _ hx 2 _ rfl; simpa [Nat.add_assoc] using this
      have c3 : wr.cell? ⟨b, off + k * 4 + 3, none⟩ = some (.bool l[k].known) := by
        rw [hup.cell hb]; have := hcell k _ hx 3 _ rfl; simpa [Nat.add_assoc] using this
      have hmem := List.getElem_mem hlt
      generalize l[k] = x at *
      obtain ⟨xo, xe, xt, xk⟩ := x
      simp only at c0 c1 c2 c3
      clear hcell hrow
      have hfin : MRow.is ⟨xo, xe, xt, xk⟩ o e t = true → Hid (true = knowsL l o e t) := fun h => by
        unfold Hid knowsL; symm; rw [List.any_eq_true]; exact ⟨_, hmem, h⟩
      have hnext : MRow.is ⟨xo, xe, xt, xk⟩ o e t = false → Hid (∀ j x, j < k + 1 → l[j]? = some x → x.is o e t = false) := fun h j x hj hjx => by
        rcases Nat.lt_or_ge j k with h2 | h2
        · exact hC.out j x h2 hjx
        · obtain rfl : j = k := by omega
          rw [hx] at hjx
          cases hjx
          exact h
      have hI : MRow.is ⟨xo, xe, xt, xk⟩ o e t = (xk && xo == o && xe == e && xt == t) := rfl
      clear hx hmem hC
      cases xk with
      | false =>
        have HN := Lib.hid (hnext (by rw [hI]; rfl))
        clear hfin hnext hI
        go_wp2_with fail
        go_roundw
        case rel => exact ⟨k + 1, by omega, by go_num, HN.out, hup⟩
        case measure => simp [intOf]; omega
      | true =>
        by_cases h0 : xo = o
        · by_cases h1 : xe = e
          · by_cases h2 : xt = t
            · have HF := Lib.hid (hfin (by rw [hI]; simp [h0, h1, h2]))
              have d0 : (xo == o) = true := by rw [beq_iff_eq]; exact h0
              have d1 : (xe == e) = true := by rw [beq_iff_eq]; exact h1
              have d2 : ((xt : Int) == (t : Int)) = true := by rw [beq_iff_eq]; omega
              clear hfin hnext hI h0 h1 h2
              go_wp2_with fail
              go_ret
              exact Gives.mk (congrArg Value.bool HF.out.out) hup
            · have HN := Lib.hid (hnext (by rw [hI]; simp [h2]))
              have d0 : (xo == o) = true := by rw [beq_iff_eq]; exact h0
              have d1 : (xe == e) = true := by rw [beq_iff_eq]; exact h1
              have d2 : ((xt : Int) == (t : Int)) = false := by rw [beq_eq_false_iff_ne]; omega
              clear hfin hnext hI h0 h1 h2
              go_wp2_with fail
              go_roundw
              case rel => exact ⟨k + 1, by omega, by go_num, HN.out, hup⟩
              case measure => simp [intOf]; omega
          · have HN := Lib.hid (hnext (by rw [hI]; simp [h1]))
            have d0 : (xo == o) = true := by rw [beq_iff_eq]; exact h0
            have d1 : (xe == e) = false := by rw [beq_eq_false_iff_ne]; exact h1
            clear hfin hnext hI h0 h1
            go_wp2_with fail
            go_roundw
            case rel => exact ⟨k + 1, by omega, by go_num, HN.out, hup⟩
            case measure => simp [intOf]; omega
        · have HN := Lib.hid (hnext (by rw [hI]; simp [h0]))
          have d0 : (xo == o) = false := by rw [beq_eq_false_iff_ne]; exact h0
          clear hfin hnext hI h0
          go_wp2_with fail
          go_roundw
          case rel => exact ⟨k + 1, by omega, by go_num, HN.out, hup⟩
          case measure => simp [intOf]; omega
    · have HS := Lib.hid (show false = knowsL l o e t by
        symm; unfold knowsL; rw [List.any_eq_false]
        intro x hx h
        obtain ⟨j, hj, rfl⟩ := List.mem_iff_getElem.1 hx
        have := hC.out j _ (by omega) (List.getElem?_eq_getElem hj)
        unfold MRow.is at this
        rw [this] at h; cases h)
      clear hrow hC
      go_wp2_with fail
      go_ret
      exact Gives.mk (congrArg Value.bool HS.out) hup
end Go.Proofs.Ytmmmaekaoanceaa
