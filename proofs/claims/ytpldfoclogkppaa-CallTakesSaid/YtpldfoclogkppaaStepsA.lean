/- The walk of concourseref34.steps: the document's steps of reading, one behind the other. -/
import Derived.Test.YtpldfoclogkppaaRow
import Derived.Test.YtpldfoclogkppaaNextA
import Derived.Test.YtpldfoclogkppaaTail
import Derived.Test.YtpldfoclogkppaaApp
namespace Go.Proofs.Ytpldfoclogkppaa
open Go Go.RowKit

/-- what the steps give, from a place on -/
def stepsS (b : ByteArray) : Nat → Int → List Stp → List Gt
  | _, _, [] => []
  | a, e, s :: r => nextS b a e s :: stepsS b (nextS b a e s).at_ (nextS b a e s).e r
/-- where the steps end -/
def endS (b : ByteArray) : Nat → Int → List Stp → Nat × Int
  | a, e, [] => (a, e)
  | a, e, s :: r => endS b (nextS b a e s).at_ (nextS b a e s).e r
def cellsG (l : List Gt) : List Value := l.flatMap Gt.vals
theorem cellsG_snoc (l : List Gt) (g : Gt) : cellsG l ++ g.vals = cellsG (l ++ [g]) := by simp [cellsG]
theorem rowGot : Row1 Try.prog 134 95 (.agg #[.int .u64 0, .string ⟨#[]⟩, .int .i64 0, .int .i64 0]) 4 40 := ⟨by kernel_rfl, by kernel_rfl, rfl, by decide⟩
structure StepsAt (b : ByteArray) (l : List Stp) (k : Nat) (acc : List Gt) (gt : Gt) : Prop where
  len : acc.length = k
  done : stepsS b 0 0 l = acc ++ stepsS b gt.at_ gt.e (l.drop k)
  ends : endS b 0 0 l = endS b gt.at_ gt.e (l.drop k)
theorem stepsAt_start (b : ByteArray) (l : List Stp) : StepsAt b l 0 [] ⟨0, ⟨#[]⟩, 0, 0⟩ := ⟨rfl, rfl, rfl⟩
theorem stepsAt_next {b : ByteArray} {l : List Stp} {k : Nat} {acc : List Gt} {gt : Gt} {s : Stp} (h : StepsAt b l k acc gt) (hs : l[k]? = some s) : StepsAt b l (k + 1) (acc ++ [nextS b gt.at_ gt.e s]) (nextS b gt.at_ gt.e s) := by
  obtain ⟨hk, rfl⟩ := List.getElem?_eq_some_iff.1 hs
  have hd := List.drop_eq_getElem_cons hk
  refine ⟨by simp [h.len], ?_, ?_⟩
  · rw [h.done, hd, stepsS]; simp
  · rw [h.ends, hd, endS]
theorem stepsAt_end {b : ByteArray} {l : List Stp} {k : Nat} {acc : List Gt} {gt : Gt} (h : StepsAt b l k acc gt) (hk : l.length ≤ k) : stepsS b 0 0 l = acc ∧ endS b 0 0 l = (gt.at_, gt.e) := by
  have hd : l.drop k = [] := List.drop_of_length_le hk
  have h1 := h.done; have h2 := h.ends
  rw [hd] at h1 h2
  exact ⟨by rw [h1, stepsS, List.append_nil], by rw [h2, endS]⟩
def okS (b : ByteArray) (l : List Stp) : Bool := (endS b 0 0 l).2 == 0 && (endS b 0 0 l).1 == b.size

set_option maxHeartbeats 1600000 in
set_option maxRecDepth 100000 in
theorem steps_any (b : ByteArray) (hb : b.size ≤ maxLen) (v : Value) (l : List Stp) (w0 : World) (hr0 : Row w0 v l 2 (fun x => [.int .i64 x.kind, .int .i64 x.most])) (hok : ∀ x ∈ l, x.Ok) (hlen : l.length ≤ 1000) :
    Calls Try.prog 99 #[.string b, v] w0 (fun y w' => ∃ v', y = .returned (.tuple #[v', .bool (okS b l)]) ∧ w'.ownsRow w0.heap.size 95 4 v' l.length (cellsG (stepsS b 0 0 l)) ∧ Up w0 w') := by
  obtain ⟨p, cap, rfl, hl, hm, hrow⟩ := hr0
  unfold maxLen at hm
  go_enter Try.func99, Try.ntmps99
  go_wp2_with fail
  have hq := blk_new w0 (.cells #[.int .u64 0, .string ⟨#[]⟩, .int .i64 0, .int .i64 0] 95)
  have hur : Up w0 (w0.alloc (.cells #[.int .u64 0, .string ⟨#[]⟩, .int .i64 0, .int .i64 0] 95)) := (Up.refl _).alloc _
  go_loopw [6, 8] (fun o i wr => ∃ (k : Nat) (gt : Gt) (acc : List Gt), k ≤ l.length ∧ i = .int .i64 k ∧ gt.Ok b ∧ StepsAt b l k acc gt ∧ wr.ownsRow (w0.heap.size + 1) 95 4 o k (cellsG acc) ∧ wr.heap[w0.heap.size]? = some (.cells gt.vals.toArray 95 (0, 0)) ∧ Up w0 wr) (fun _ i _ => l.length - (intOf i).toNat)
  case atStart => exact ⟨0, ⟨0, ⟨#[]⟩, 0, 0⟩, [], Nat.zero_le _, rfl, ⟨by decide, Nat.zero_le _, Nat.zero_le _, by decide, by decide⟩, stepsAt_start _ _, World.ownsRow_nil _ _ _ _, hq, hur⟩
  case round =>
    obtain ⟨k, gt, acc, hk, rfl, hgt, hS, hown, hcell, hup⟩ := hrel
    by_cases hlt : k < l.length
    · obtain ⟨bb, off, rfl, hbb, hc⟩ := hrow (by omega)
      have hx : l[k]? = some l[k] := List.getElem?_eq_getElem hlt
      have hsk := hok _ (List.getElem_mem hlt)
      have HS2 := Lib.hid (stepsAt_next hS hx)
      have s0 : wr.cell? ⟨bb, off + k * 2, none⟩ = some (.int .i64 l[k].kind) := by
        rw [hup.cell hbb]; have := hc k _ hx 0 _ rfl; simpa using this
      have s1 : wr.cell? ⟨bb, off + k * 2 + 1, none⟩ = some (.int .i64 l[k].most) := by
        rw [hup.cell hbb]; have := hc k _ hx 1 _ rfl; simpa [Nat.add_assoc] using this
      generalize l[k] = s at *
      obtain ⟨num, text, a, e⟩ := gt
      have hgt2 := nextS_ok (b := b) (a := a) (e := e) hsk hgt.a1 hgt.e0 hgt.e1
      have hC : ∀ w, Calls Try.prog 69 #[.string b, .agg #[.int .u64 num, .string text, .int .i64 a, .int .i64 e], .agg #[.int .i64 s.kind, .int .i64 s.most]] w (Gives w (nextS b a e s).val) := fun w => refnext_any b ⟨num, text, a, e⟩ s w hb hgt hsk
      obtain ⟨⟨n2, t2, a2, e2⟩, hN⟩ : ∃ r, nextS b a e s = r := ⟨_, rfl⟩
      rw [hN] at hgt2
      have hD : ∀ w, Calls Try.prog 69 #[.string b, .agg #[.int .u64 num, .string text, .int .i64 a, .int .i64 e], .agg #[.int .i64 s.kind, .int .i64 s.most]] w (Gives w (.agg #[.int .u64 n2, .string t2, .int .i64 a2, .int .i64 e2])) := fun w => by have := hC w; rw [hN] at this; exact this
      have HS3 : Hid (StepsAt b l (k + 1) (acc ++ [⟨n2, t2, a2, e2⟩]) ⟨n2, t2, a2, e2⟩) := by
        have := HS2.out; unfold Hid; rw [← hN]; exact this
      have hbne : bb ≠ w0.heap.size := by omega
      have q0 : wr.cell? ⟨w0.heap.size, 0, none⟩ = some (.int .u64 num) := blk_cell hcell 0
      have q1 : wr.cell? ⟨w0.heap.size, 1, none⟩ = some (.string text) := blk_cell hcell 1
      have q2 : wr.cell? ⟨w0.heap.size, 2, none⟩ = some (.int .i64 a) := blk_cell hcell 2
      have q3 : wr.cell? ⟨w0.heap.size, 3, none⟩ = some (.int .i64 e) := blk_cell hcell 3
      have qlt := blk_lt hcell
      have blt : bb < wr.heap.size := Nat.lt_of_lt_of_le hbb hup.size
      have HC := Lib.hid hcell; have HO := Lib.hid hown
      clear hc hx hC hN hcell hS HS2 hown hrow
      go_wp2_with fail
      refine wp_region_up_tail 7 (by kernel_rfl) (by kernel_rfl) (Up.refl _) ?_
      simp only [List.take_succ_cons, List.take_zero, List.drop_succ_cons, List.drop_zero]
      repeat (go_big_quiet_step ((first | exact quiet_up (hD _))))
      refine wpQuiet_nil ?_
      intro w2 hu2
      have hc2 := hu2.keep HC.out
      have x0 : w2.cell? ⟨w0.heap.size, 0, none⟩ = some (.int .u64 num) := blk_cell hc2 0
      have x1 : w2.cell? ⟨w0.heap.size, 1, none⟩ = some (.string text) := blk_cell hc2 1
      have x2 : w2.cell? ⟨w0.heap.size, 2, none⟩ = some (.int .i64 a) := blk_cell hc2 2
      have x3 : w2.cell? ⟨w0.heap.size, 3, none⟩ = some (.int .i64 e) := blk_cell hc2 3
      have xf : ∀ o, w2.frozen? ⟨w0.heap.size, o, none⟩ = false := blk_free hc2
      have hc3 : ((((w2.setCell ⟨w0.heap.size, 0, none⟩ (.int .u64 n2)).setCell ⟨w0.heap.size, 1, none⟩ (.string t2)).setCell ⟨w0.heap.size, 2, none⟩ (.int .i64 a2)).setCell ⟨w0.heap.size, 3, none⟩ (.int .i64 e2)).heap[w0.heap.size]? = some (.cells (Gt.mk n2 t2 a2 e2).vals.toArray 95 (0, 0)) := by
        have := blk_set (blk_set (blk_set (blk_set hc2 0 (.int .u64 n2)) 1 (.string t2)) 2 (.int .i64 a2)) 3 (.int .i64 e2)
        simpa [Gt.vals] using this
      have hu3 : Up w0 ((((w2.setCell ⟨w0.heap.size, 0, none⟩ (.int .u64 n2)).setCell ⟨w0.heap.size, 1, none⟩ (.string t2)).setCell ⟨w0.heap.size, 2, none⟩ (.int .i64 a2)).setCell ⟨w0.heap.size, 3, none⟩ (.int .i64 e2)) := ((((hup.trans hu2).set (Nat.le_refl _) _).set (Nat.le_refl _) _).set (Nat.le_refl _) _).set (Nat.le_refl _) _
      have ho3 : ((((w2.setCell ⟨w0.heap.size, 0, none⟩ (.int .u64 n2)).setCell ⟨w0.heap.size, 1, none⟩ (.string t2)).setCell ⟨w0.heap.size, 2, none⟩ (.int .i64 a2)).setCell ⟨w0.heap.size, 3, none⟩ (.int .i64 e2)).ownsRow (w0.heap.size + 1) 95 4 u6 k (cellsG acc) :=
        ownsRow_setCell_below (ownsRow_setCell_below (ownsRow_setCell_below (ownsRow_setCell_below (own_up HO.out hu2) (Nat.lt_succ_self _) _) (Nat.lt_succ_self _) _) (Nat.lt_succ_self _) _) (Nat.lt_succ_self _) _
      have hb3 : w0.heap.size + 1 ≤ ((((w2.setCell ⟨w0.heap.size, 0, none⟩ (.int .u64 n2)).setCell ⟨w0.heap.size, 1, none⟩ (.string t2)).setCell ⟨w0.heap.size, 2, none⟩ (.int .i64 a2)).setCell ⟨w0.heap.size, 3, none⟩ (.int .i64 e2)).heap.size := blk_lt hc3
      have HZ := Lib.hid (show ((((w2.setCell ⟨w0.heap.size, 0, none⟩ (.int .u64 n2)).setCell ⟨w0.heap.size, 1, none⟩ (.string t2)).setCell ⟨w0.heap.size, 2, none⟩ (.int .i64 a2)).setCell ⟨w0.heap.size, 3, none⟩ (.int .i64 e2)).heap.size = w2.heap.size by simp [World.setCell])
      have HC3 := Lib.hid hc3; have HU3 := Lib.hid hu3; have HO3 := Lib.hid ho3; have HB3 := Lib.hid hb3
      clear hc3 hu3 ho3 hb3 hc2 s0 s1 q0 q1 q2 q3 hu2 hq hur
      go_wp2_with (at_builtin; rw [← HZ.out]; generalize ((((w2.setCell ⟨w0.heap.size, 0, none⟩ (.int .u64 n2)).setCell ⟨w0.heap.size, 1, none⟩ (.string t2)).setCell ⟨w0.heap.size, 2, none⟩ (.int .i64 a2)).setCell ⟨w0.heap.size, 3, none⟩ (.int .i64 e2)) = w3 at *; refine wpList_app2 rfl _ _ 134 95 rfl rowGot HB3.out HO3.out rfl #[.int .u64 n2, .string t2, .int .i64 a2, .int .i64 e2] rfl rfl (by simp [Value.oneCell']) (by unfold maxLen; omega) (by omega) ?_; intro v' w' hown' hkeep hup'; have hown2 : w'.ownsRow (w0.heap.size + 1) 95 4 v' (k + 1) (cellsG (acc ++ [⟨n2, t2, a2, e2⟩])) := (by rw [← cellsG_snoc]; exact hown'); have hcell' := hkeep _ _ HC3.out (Nat.lt_succ_self _); have hupw := hup' w0 (Nat.le_succ _) HU3.out; clear hown' hkeep hup' x0 x1 x2 x3 xf)
      go_roundw
      case rel => exact ⟨k + 1, ⟨n2, t2, a2, e2⟩, _, by omega, by go_num, hgt2, HS3.out, hown2, hcell', hupw⟩
      case measure => simp [intOf]; omega
    · obtain ⟨h1, h2⟩ := stepsAt_end hS (by omega)
      have hkl : k = l.length := by omega
      obtain ⟨num, text, a, e⟩ := gt
      simp only at h2
      have q2 : wr.cell? ⟨w0.heap.size, 2, none⟩ = some (.int .i64 a) := blk_cell hcell 2
      have q3 : wr.cell? ⟨w0.heap.size, 3, none⟩ = some (.int .i64 e) := blk_cell hcell 3
      have HO : Hid (wr.ownsRow w0.heap.size 95 4 u6 l.length (cellsG (stepsS b 0 0 l))) := by
        unfold Hid; rw [h1, ← hkl]; exact own_base hown (Nat.le_succ _)
      have qlt := blk_lt hcell
      by_cases he : e = 0
      · have hB : okS b l = (a == b.size) := by unfold okS; rw [h2, he]; simp
        have HB := Lib.hid hB
        have hI : ((a : Int) == (b.size : Int)) = (a == b.size) := by
          by_cases h : a = b.size
          · simp [h]
          · have h2 : (a : Int) ≠ b.size := by omega
            rw [beq_eq_false_iff_ne.2 h2, beq_eq_false_iff_ne.2 h]
        have HI := Lib.hid hI
        clear hI
        subst he
        clear h1 h2 hB hown hcell hS hrow
        go_wp2_with fail
        refine wp_region_up (by kernel_rfl) (by kernel_rfl) (Up.refl _) ?_
        repeat (go_big_quiet_step (fail))
        refine wpQuiet_nil ?_
        intro w2 hu2
        go_wp2_with fail
        go_ret2
        exact ⟨u6, by rw [HB.out, ← HI.out]; rfl, own_up HO.out hu2, hup.trans hu2⟩
      · have hB : okS b l = false := by unfold okS; rw [h2]; simp [he]
        have HB := Lib.hid hB
        have d1 : (e == 0) = false := by rw [beq_eq_false_iff_ne]; exact he
        clear he h1 h2 hB hown hcell hS hrow
        go_wp2_with fail
        refine wp_region_up (by kernel_rfl) (by kernel_rfl) (Up.refl _) ?_
        repeat (go_big_quiet_step (fail))
        refine wpQuiet_nil ?_
        intro w2 hu2
        go_wp2_with fail
        go_ret2
        exact ⟨u6, by rw [HB.out]; rfl, own_up HO.out hu2, hup.trans hu2⟩
end Go.Proofs.Ytpldfoclogkppaa
