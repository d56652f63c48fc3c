/- 'SpanReads': whatever bytes, whatever steps of reading: the reader's steps are the document's: the law hands back true. Conditions: none. -/
import Derived.Test.YtpldfoclogkppaaRow
import Derived.Test.YtpldfoclogkppaaNextA
import Derived.Test.YtpldfoclogkppaaTail
import Derived.Test.YtpldfoclogkppaaSpanTakes
import Derived.Deep.RegionWith
import Derived.IntWalk
namespace Go.Proofs.Ytpldfoclogkppaa
open Go Go.RowKit Go.ChangeShapes Go.WideShapes Go.ChangeAt
open Go.ChangeMaps (open_string shut_string)

set_option maxHeartbeats 1600000 in
set_option maxRecDepth 100000 in
theorem spanReads_walk (b : ByteArray) (hb : b.size ≤ maxLen) (v : Value) (l : List Stp) {w0 : World} (hr0 : Row w0 v l 2 (fun x => [.int .i64 x.kind, .int .i64 x.most])) (hok0 : ∀ x ∈ l, (-9223372036854775808 ≤ x.kind ∧ x.kind ≤ 9223372036854775807) ∧ (-9223372036854775808 ≤ x.most ∧ x.most ≤ 9223372036854775807) ∧ True) (_ : World) :
    Calls Try.prog 16 #[.string b, v] w0 (Gives w0 (.bool true)) := by
  have hok : ∀ x ∈ l, x.Ok := fun x hx => ⟨(hok0 x hx).1.1, (hok0 x hx).1.2, (hok0 x hx).2.1.1, (hok0 x hx).2.1.2⟩
  clear hok0
  obtain ⟨p, cap, rfl, hl, hm, hrow⟩ := hr0
  unfold maxLen at hm
  by_cases h100 : 100 < l.length
  · go_enter Try.func16, Try.ntmps16
    go_wp2_with fail
    refine (awake02_any _).mono ?_
    rintro e w1 ⟨rfl, hu1⟩
    go_wp2_with fail
    go_ret
    exact Gives.mk rfl hu1
  · go_enter Try.func16, Try.ntmps16
    go_wp2_with fail
    refine (read_any _ _).mono ?_
    rintro e w1 ⟨g, rfl, hg, hr, hu1⟩
    go_wp2_with fail
    have hq := blk_new w1 (.cells #[.int .u64 0, .string ⟨#[]⟩, .int .i64 0, .int .i64 0] 95)
    have hur : Up w1 (w1.alloc (.cells #[.int .u64 0, .string ⟨#[]⟩, .int .i64 0, .int .i64 0] 95)) := (Up.refl _).alloc _
    have hne : w1.heap.size ≠ g := by have := blk_lt hr; omega
    have HU1 := Lib.hid hu1
    go_loopw [7] (fun i wr => ∃ (k : Nat) (gt : Gt), k ≤ l.length ∧ i = .int .i64 k ∧ gt.Ok b ∧ Rd wr g b gt.at_ gt.e ∧ wr.heap[w1.heap.size]? = some (.cells gt.vals.toArray 95 (0, 0)) ∧ Up w0 wr) (fun i _ => l.length - (intOf i).toNat)
    case atStart => exact ⟨0, ⟨0, ⟨#[]⟩, 0, 0⟩, Nat.zero_le _, rfl, ⟨by decide, Nat.zero_le _, Nat.zero_le _, by decide, by decide⟩, hr.up hur, hq, hu1.trans hur⟩
    case round =>
      obtain ⟨k, gt, hk, rfl, hgt, hrd, hcell, hup⟩ := hrel
      by_cases hlt : k < l.length
      · obtain ⟨bb, off, rfl, hbb, hc⟩ := hrow (by omega)
        have hx : l[k]? = some l[k] := List.getElem?_eq_getElem hlt
        have hsk := hok _ (List.getElem_mem hlt)
        have hc0 : ∀ w' : World, Up w0 w' → w'.cell? ⟨bb, off + k * 2, none⟩ = some (.int .i64 l[k].kind) := fun w' hu => by
          rw [hu.cell hbb]; have := hc k _ hx 0 _ rfl; simpa using this
        have hc1 : ∀ w' : World, Up w0 w' → w'.cell? ⟨bb, off + k * 2 + 1, none⟩ = some (.int .i64 l[k].most) := fun w' hu => by
          rw [hu.cell hbb]; have := hc k _ hx 1 _ rfl; simpa [Nat.add_assoc] using this
        generalize l[k] = s at *
        obtain ⟨num, text, a, e⟩ := gt
        have hgt2 := nextS_ok (b := b) (a := a) (e := e) hsk hgt.a1 hgt.e0 hgt.e1
        have hC : ∀ w, Calls Try.prog 69 #[.string b, .agg #[.int .u64 num, .string text, .int .i64 a, .int .i64 e], .agg #[.int .i64 s.kind, .int .i64 s.most]] w (Gives w (nextS b a e s).val) := fun w => refnext_any b ⟨num, text, a, e⟩ s w hb hgt hsk
        obtain ⟨⟨n2, t2, a2, e2⟩, hN⟩ : ∃ r, nextS b a e s = r := ⟨_, rfl⟩
        rw [hN] at hgt2
        have hD : ∀ w, Calls Try.prog 69 #[.string b, .agg #[.int .u64 num, .string text, .int .i64 a, .int .i64 e], .agg #[.int .i64 s.kind, .int .i64 s.most]] w (Gives w (.agg #[.int .u64 n2, .string t2, .int .i64 a2, .int .i64 e2])) := fun w => by have := hC w; rw [hN] at this; exact this
        have HN := Lib.hid hN
        have ha1 : a ≤ b.size := hgt.a1
        have hbne : bb ≠ w1.heap.size := by have := hu1.size; omega
        have hbg : bb ≠ g := by omega
        clear hC hN
        have q0 : wr.cell? ⟨w1.heap.size, 0, none⟩ = some (.int .u64 num) := blk_cell hcell 0
        have q1 : wr.cell? ⟨w1.heap.size, 1, none⟩ = some (.string text) := blk_cell hcell 1
        have q2 : wr.cell? ⟨w1.heap.size, 2, none⟩ = some (.int .i64 a) := blk_cell hcell 2
        have q3 : wr.cell? ⟨w1.heap.size, 3, none⟩ = some (.int .i64 e) := blk_cell hcell 3
        have qlt := blk_lt hcell
        have blt : bb < wr.heap.size := Nat.lt_of_lt_of_le hbb hup.size
        have s0 := hc0 wr hup
        have s1 := hc1 wr hup
        have HC := Lib.hid hcell; have H0 := Lib.hid hc0; have H1 := Lib.hid hc1
        clear hc hx hc0 hc1 hcell
        go_wp2_with fail
        refine wp_region_up_tail 7 (by kernel_rfl) (by kernel_rfl) (Up.refl _) ?_
        simp only [List.take_succ_cons, List.take_zero, List.drop_succ_cons, List.drop_zero]
        repeat (go_big_quiet_step ((first | exact quiet_up (hD _))))
        refine wpQuiet_nil ?_
        intro w2 hu2
        have hc2 := hu2.keep HC.out
        have x0 : w2.cell? ⟨w1.heap.size, 0, none⟩ = some (.int .u64 num) := blk_cell hc2 0
        have x1 : w2.cell? ⟨w1.heap.size, 1, none⟩ = some (.string text) := blk_cell hc2 1
        have x2 : w2.cell? ⟨w1.heap.size, 2, none⟩ = some (.int .i64 a) := blk_cell hc2 2
        have x3 : w2.cell? ⟨w1.heap.size, 3, none⟩ = some (.int .i64 e) := blk_cell hc2 3
        have xf : ∀ o, w2.frozen? ⟨w1.heap.size, o, none⟩ = false := blk_free hc2
        have hup2 := hup.trans hu2
        have t0 := H0.out w2 hup2
        have t1 := H1.out w2 hup2
        have hrd2 : Rd w2 g b a e := hu2.keep hrd
        have r0 : w2.cell? ⟨g, 0, none⟩ = some (.string b) := blk_cell hrd2 0
        have HC2 := Lib.hid hc2; have HU2 := Lib.hid hu2; have HUP2 := Lib.hid hup2; have HR2 := Lib.hid hrd2
        clear q0 q1 q2 q3 s0 s1 hc2 hu2 hup2 hrd2 hup hu1 hq hur hr hrd hrow
        have hc3 : ((((w2.setCell ⟨w1.heap.size, 0, none⟩ (.int .u64 n2)).setCell ⟨w1.heap.size, 1, none⟩ (.string t2)).setCell ⟨w1.heap.size, 2, none⟩ (.int .i64 a2)).setCell ⟨w1.heap.size, 3, none⟩ (.int .i64 e2)).heap[w1.heap.size]? = some (.cells (Gt.mk n2 t2 a2 e2).vals.toArray 95 (0, 0)) := by
          have := blk_set (blk_set (blk_set (blk_set HC2.out 0 (.int .u64 n2)) 1 (.string t2)) 2 (.int .i64 a2)) 3 (.int .i64 e2)
          simpa [Gt.vals] using this
        have ho3 : Only w1.heap.size w2 ((((w2.setCell ⟨w1.heap.size, 0, none⟩ (.int .u64 n2)).setCell ⟨w1.heap.size, 1, none⟩ (.string t2)).setCell ⟨w1.heap.size, 2, none⟩ (.int .i64 a2)).setCell ⟨w1.heap.size, 3, none⟩ (.int .i64 e2)) := ((((Only.refl _ _).set _ _).set _ _).set _ _).set _ _
        have hr3 := ho3.keep HR2.out (fun h => hne h.symm)
        have hu3 := HUP2.out.only ho3 (by have := HU1.out.size; exact this)
        have HC3 := Lib.hid hc3; have HR3 := Lib.hid hr3; have HU3 := Lib.hid hu3
        clear hc3 ho3 hr3 hu3
        rcases (by by_cases k1 : s.kind = 1 <;> by_cases k2 : s.kind = 2 <;> by_cases k3 : s.kind = 3 <;> simp [k1, k2, k3] : s.kind = 1 ∨ (¬ s.kind = 1 ∧ s.kind = 2) ∨ (¬ s.kind = 1 ∧ ¬ s.kind = 2 ∧ s.kind = 3) ∨ (¬ s.kind = 1 ∧ ¬ s.kind = 2 ∧ ¬ s.kind = 3)) with k1 | ⟨k1, k2⟩ | ⟨k1, k2, k3⟩ | ⟨k1, k2, k3⟩
        · have hN1 := nextS_one (b := b) (a := a) (e := e) k1
          rw [HN.out] at hN1
          simp only [Gt.mk.injEq] at hN1
          obtain ⟨z1, z2, z3, z4⟩ := hN1
          have hE : numS b a e = (n2, a2, e2) := by rw [z1, z3, z4]
          have hM : ∀ w, Rd w g b a e → Calls Try.prog 67 #[rptr g] w (fun y w' => y = .returned (.int .u64 n2) ∧ Rd w' g b a2 e2 ∧ Only g w w') := fun w h => by
            have := num_any w g b a e h hb ha1
            rw [hE] at this; exact this
          have d1 : (s.kind == 1) = true := by rw [beq_iff_eq]; exact k1
          clear k1 z1 z2 z3 z4 hE
          go_wp2_with fail
          have hC3 := HC3.out; have hR3 := HR3.out; have hU3 := HU3.out
          have t3 := H1.out _ hU3
          clear HC3 HR3 HU3
          generalize ((((w2.setCell ⟨w1.heap.size, 0, none⟩ (.int .u64 n2)).setCell ⟨w1.heap.size, 1, none⟩ (.string t2)).setCell ⟨w1.heap.size, 2, none⟩ (.int .i64 a2)).setCell ⟨w1.heap.size, 3, none⟩ (.int .i64 e2)) = w3 at *
          have y0 : w3.drew.cell? ⟨w1.heap.size, 0, none⟩ = some (.int .u64 n2) := blk_cell hC3 0
          have t4 : w3.drew.cell? ⟨bb, off + k * 2 + 1, none⟩ = some (.int .i64 s.most) := t3
          go_region_with (go_at_call 67; refine (hM _ ?_).mono ?_; exact hR3; rintro y w4 ⟨rfl, hr4, ho4⟩; have y4 : w4.cell? ⟨w1.heap.size, 0, none⟩ = some (.int .u64 n2) := blk_cell (ho4.keep hC3 hne) 0; have t5 : w4.cell? ⟨bb, off + k * 2 + 1, none⟩ = some (.int .i64 s.most) := by exact H1.out _ ((hU3.drew).only ho4 hg))
          all_goals
            have hC4 := ho4.keep hC3 hne
            have hU4 := (hU3.drew).only ho4 hg
            have y5 : w4.cell? ⟨w1.heap.size, 2, none⟩ = some (.int .i64 a2) := blk_cell hC4 2
            have l4 := blk_lt hC4
            have hA : ∀ w, Rd w g b a2 e2 → Calls Try.prog 64 #[rptr g] w (Gives w (.int .i64 a2)) := fun w h => (at_any w g b a2 e2 h).mono fun _ _ ⟨h1, h2⟩ => ⟨h1, by rw [h2]; exact Up.refl _⟩
            have HC4 := Lib.hid hC4; have HU4 := Lib.hid hU4; have HR4 := Lib.hid hr4
            clear hC3 hR3 hU3 ho4 hr4 hC4 hU4 t3 t4 y0 y4
            simp [Act.put]
            go_wp2_with fail
            refine wp_region_up (by kernel_rfl) (by kernel_rfl) (Up.refl _) ?_
            repeat (go_big_quiet_step ((first | exact quiet_up (hA _ ((gro_up _).keep HR4.out)))))
            refine wpQuiet_nil ?_
            intro w5 hu5
            go_wp2_with fail
            go_roundw
            case rel => exact ⟨k + 1, ⟨n2, t2, a2, e2⟩, by omega, by go_num, hgt2, hu5.keep HR4.out, hu5.keep HC4.out, HU4.out.trans hu5⟩
            case measure => simp [intOf]; omega
        · have hN1 := nextS_two (b := b) (a := a) (e := e) k2
          rw [HN.out] at hN1
          simp only [Gt.mk.injEq] at hN1
          obtain ⟨z1, z2, z3, z4⟩ := hN1
          have hE : intS b a e s.most = (n2, a2, e2) := by rw [z1, z3, z4]
          have hM : ∀ w, Rd w g b a e → Calls Try.prog 68 #[rptr g, .int .i64 s.most] w (fun y w' => y = .returned (.int .i64 n2) ∧ Rd w' g b a2 e2 ∧ Only g w w') := fun w h => by
            have := int_any w g b a e s.most h hb ha1 hsk.m0 hsk.m1
            rw [hE] at this; exact this
          have hn2 : (n2 : Int) ≤ 9223372036854775807 := by have h1 := intS_bd (b := b) s.most ha1 hgt.e0 hgt.e1; have h2 := hsk.m1; rw [hE] at h1; have h3 := h1.2.2.2; simp only at h3; omega
          have hw2 : IntKind.u64.wrap (n2 : Int) = n2 := IntWalk.u64_in _ (by omega)
          have d1 : (s.kind == 1) = false := by rw [beq_eq_false_iff_ne]; exact k1
          have d2 : (s.kind == 2) = true := by rw [beq_iff_eq]; exact k2
          clear k2 z1 z2 z3 z4 hE
          go_wp2_with fail
          have hC3 := HC3.out; have hR3 := HR3.out; have hU3 := HU3.out
          have t3 := H1.out _ hU3
          clear HC3 HR3 HU3
          generalize ((((w2.setCell ⟨w1.heap.size, 0, none⟩ (.int .u64 n2)).setCell ⟨w1.heap.size, 1, none⟩ (.string t2)).setCell ⟨w1.heap.size, 2, none⟩ (.int .i64 a2)).setCell ⟨w1.heap.size, 3, none⟩ (.int .i64 e2)) = w3 at *
          have y0 : w3.drew.cell? ⟨w1.heap.size, 0, none⟩ = some (.int .u64 n2) := blk_cell hC3 0
          have t4 : w3.drew.cell? ⟨bb, off + k * 2 + 1, none⟩ = some (.int .i64 s.most) := t3
          go_region_with (go_at_call 68; refine (hM _ ?_).mono ?_; exact hR3; rintro y w4 ⟨rfl, hr4, ho4⟩; have y4 : w4.cell? ⟨w1.heap.size, 0, none⟩ = some (.int .u64 n2) := blk_cell (ho4.keep hC3 hne) 0; have t5 : w4.cell? ⟨bb, off + k * 2 + 1, none⟩ = some (.int .i64 s.most) := by exact H1.out _ ((hU3.drew).only ho4 hg))
          all_goals
            have hC4 := ho4.keep hC3 hne
            have hU4 := (hU3.drew).only ho4 hg
            have y5 : w4.cell? ⟨w1.heap.size, 2, none⟩ = some (.int .i64 a2) := blk_cell hC4 2
            have l4 := blk_lt hC4
            have hA : ∀ w, Rd w g b a2 e2 → Calls Try.prog 64 #[rptr g] w (Gives w (.int .i64 a2)) := fun w h => (at_any w g b a2 e2 h).mono fun _ _ ⟨h1, h2⟩ => ⟨h1, by rw [h2]; exact Up.refl _⟩
            have HC4 := Lib.hid hC4; have HU4 := Lib.hid hU4; have HR4 := Lib.hid hr4
            clear hC3 hR3 hU3 ho4 hr4 hC4 hU4 t3 t4 y0 y4
            simp [Act.put]
            go_wp2_with fail
            refine wp_region_up (by kernel_rfl) (by kernel_rfl) (Up.refl _) ?_
            repeat (go_big_quiet_step ((first | exact quiet_up (hA _ ((gro_up _).keep HR4.out)))))
            refine wpQuiet_nil ?_
            intro w5 hu5
            go_wp2_with fail
            go_roundw
            case rel => exact ⟨k + 1, ⟨n2, t2, a2, e2⟩, by omega, by go_num, hgt2, hu5.keep HR4.out, hu5.keep HC4.out, HU4.out.trans hu5⟩
            case measure => simp [intOf]; omega
        · have hN1 := nextS_three (b := b) (a := a) (e := e) k3
          rw [HN.out] at hN1
          simp only [Gt.mk.injEq] at hN1
          obtain ⟨z1, z2, z3, z4⟩ := hN1
          have hE : textS b a e s.most = (t2, a2, e2) := by rw [z2, z3, z4]
          have hM : ∀ w, Rd w g b a e → Calls Try.prog 63 #[rptr g, .int .i64 s.most] w (fun y w' => y = .returned (.string t2) ∧ Rd w' g b a2 e2 ∧ Only g w w') := fun w h => by
            have := text_any w g b a e s.most h hb ha1 hsk.m0 hsk.m1
            rw [hE] at this; exact this
          have d1 : (s.kind == 1) = false := by rw [beq_eq_false_iff_ne]; exact k1
          have d2 : (s.kind == 2) = false := by rw [beq_eq_false_iff_ne]; exact k2
          have d3 : (s.kind == 3) = true := by rw [beq_iff_eq]; exact k3
          clear k3 z1 z2 z3 z4 hE
          go_wp2_with fail
          have hC3 := HC3.out; have hR3 := HR3.out; have hU3 := HU3.out
          have t3 := H1.out _ hU3
          clear HC3 HR3 HU3
          generalize ((((w2.setCell ⟨w1.heap.size, 0, none⟩ (.int .u64 n2)).setCell ⟨w1.heap.size, 1, none⟩ (.string t2)).setCell ⟨w1.heap.size, 2, none⟩ (.int .i64 a2)).setCell ⟨w1.heap.size, 3, none⟩ (.int .i64 e2)) = w3 at *
          have y0 : w3.drew.cell? ⟨w1.heap.size, 1, none⟩ = some (.string t2) := blk_cell hC3 1
          have t4 : w3.drew.cell? ⟨bb, off + k * 2 + 1, none⟩ = some (.int .i64 s.most) := t3
          go_region_with (go_at_call 63; refine (hM _ ?_).mono ?_; exact hR3; rintro y w4 ⟨rfl, hr4, ho4⟩; have y4 : w4.cell? ⟨w1.heap.size, 1, none⟩ = some (.string t2) := blk_cell (ho4.keep hC3 hne) 1; have t5 : w4.cell? ⟨bb, off + k * 2 + 1, none⟩ = some (.int .i64 s.most) := by exact H1.out _ ((hU3.drew).only ho4 hg))
          all_goals
            have hC4 := ho4.keep hC3 hne
            have hU4 := (hU3.drew).only ho4 hg
            have y5 : w4.cell? ⟨w1.heap.size, 2, none⟩ = some (.int .i64 a2) := blk_cell hC4 2
            have l4 := blk_lt hC4
            have hA : ∀ w, Rd w g b a2 e2 → Calls Try.prog 64 #[rptr g] w (Gives w (.int .i64 a2)) := fun w h => (at_any w g b a2 e2 h).mono fun _ _ ⟨h1, h2⟩ => ⟨h1, by rw [h2]; exact Up.refl _⟩
            have HC4 := Lib.hid hC4; have HU4 := Lib.hid hU4; have HR4 := Lib.hid hr4
            clear hC3 hR3 hU3 ho4 hr4 hC4 hU4 t3 t4 y0 y4
            simp [Act.put]
            go_wp2_with fail
            refine wp_region_up (by kernel_rfl) (by kernel_rfl) (Up.refl _) ?_
            repeat (go_big_quiet_step ((first | exact quiet_up (hA _ ((gro_up _).keep HR4.out)))))
            refine wpQuiet_nil ?_
            intro w5 hu5
            go_wp2_with fail
            go_roundw
            case rel => exact ⟨k + 1, ⟨n2, t2, a2, e2⟩, by omega, by go_num, hgt2, hu5.keep HR4.out, hu5.keep HC4.out, HU4.out.trans hu5⟩
            case measure => simp [intOf]; omega
        · have hN1 := nextS_all (b := b) (a := a) (e := e) (s := s) k1 k2 k3
          rw [HN.out] at hN1
          simp only [Gt.mk.injEq] at hN1
          obtain ⟨z1, z2, z3, z4⟩ := hN1
          have hE : restS b a e = (t2, a2, e2) := by rw [z2, z3, z4]
          have hM : ∀ w, Rd w g b a e → Calls Try.prog 65 #[rptr g] w (fun y w' => y = .returned (.string t2) ∧ Rd w' g b a2 e2 ∧ Only g w w') := fun w h => by
            have := rest_any w g b a e h hb ha1
            rw [hE] at this; exact this
          have d1 : (s.kind == 1) = false := by rw [beq_eq_false_iff_ne]; exact k1
          have d2 : (s.kind == 2) = false := by rw [beq_eq_false_iff_ne]; exact k2
          have d3 : (s.kind == 3) = false := by rw [beq_eq_false_iff_ne]; exact k3
          clear k1 k2 k3 z1 z2 z3 z4 hE
          go_wp2_with fail
          have hC3 := HC3.out; have hR3 := HR3.out; have hU3 := HU3.out
          have t3 := H1.out _ hU3
          clear HC3 HR3 HU3
          generalize ((((w2.setCell ⟨w1.heap.size, 0, none⟩ (.int .u64 n2)).setCell ⟨w1.heap.size, 1, none⟩ (.string t2)).setCell ⟨w1.heap.size, 2, none⟩ (.int .i64 a2)).setCell ⟨w1.heap.size, 3, none⟩ (.int .i64 e2)) = w3 at *
          have y0 : w3.drew.cell? ⟨w1.heap.size, 1, none⟩ = some (.string t2) := blk_cell hC3 1
          have t4 : w3.drew.cell? ⟨bb, off + k * 2 + 1, none⟩ = some (.int .i64 s.most) := t3
          go_region_with (go_at_call 65; refine (hM _ ?_).mono ?_; exact hR3; rintro y w4 ⟨rfl, hr4, ho4⟩; have y4 : w4.cell? ⟨w1.heap.size, 1, none⟩ = some (.string t2) := blk_cell (ho4.keep hC3 hne) 1; have t5 : w4.cell? ⟨bb, off + k * 2 + 1, none⟩ = some (.int .i64 s.most) := by exact H1.out _ ((hU3.drew).only ho4 hg))
          all_goals
            have hC4 := ho4.keep hC3 hne
            have hU4 := (hU3.drew).only ho4 hg
            have y5 : w4.cell? ⟨w1.heap.size, 2, none⟩ = some (.int .i64 a2) := blk_cell hC4 2
            have l4 := blk_lt hC4
            have hA : ∀ w, Rd w g b a2 e2 → Calls Try.prog 64 #[rptr g] w (Gives w (.int .i64 a2)) := fun w h => (at_any w g b a2 e2 h).mono fun _ _ ⟨h1, h2⟩ => ⟨h1, by rw [h2]; exact Up.refl _⟩
            have HC4 := Lib.hid hC4; have HU4 := Lib.hid hU4; have HR4 := Lib.hid hr4
            clear hC3 hR3 hU3 ho4 hr4 hC4 hU4 t3 t4 y0 y4
            simp [Act.put]
            go_wp2_with fail
            refine wp_region_up (by kernel_rfl) (by kernel_rfl) (Up.refl _) ?_
            repeat (go_big_quiet_step ((first | exact quiet_up (hA _ ((gro_up _).keep HR4.out)))))
            refine wpQuiet_nil ?_
            intro w5 hu5
            go_wp2_with fail
            go_roundw
            case rel => exact ⟨k + 1, ⟨n2, t2, a2, e2⟩, by omega, by go_num, hgt2, hu5.keep HR4.out, hu5.keep HC4.out, HU4.out.trans hu5⟩
            case measure => simp [intOf]; omega
      · obtain ⟨num, text, a, e⟩ := gt
        have q2 : wr.cell? ⟨w1.heap.size, 2, none⟩ = some (.int .i64 a) := blk_cell hcell 2
        have q3 : wr.cell? ⟨w1.heap.size, 3, none⟩ = some (.int .i64 e) := blk_cell hcell 3
        have hrd' : Rd wr g b a e := hrd
        have hM : ∀ w, Rd w g b a e → Calls Try.prog 66 #[rptr g] w (Gives w (.int .i64 (doneE b a e))) := fun w h => done_any w g b a e h
        have hsz : ((b.size : Int)) ≤ 9223372036854775807 := by unfold maxLen at hb; omega
        have HR := Lib.hid hrd'
        rcases (by by_cases h1 : e = 0 <;> by_cases h2 : a < b.size <;> simp [h1, h2] : ¬ e = 0 ∨ (e = 0 ∧ a < b.size) ∨ (e = 0 ∧ ¬ a < b.size)) with h1 | ⟨h1, h2⟩ | ⟨h1, h2⟩
        · have hE : doneE b a e = e := by unfold doneE; rw [if_pos h1]
          have d1 : (e == 0) = false := by rw [beq_eq_false_iff_ne]; exact h1
          rw [hE] at hM
          clear hE h1 hcell hrd hrd' hq hur hr hrow
          go_wp2_with fail
          refine (hM _ HR.out).mono ?_
          rintro y w2 ⟨rfl, hu2⟩
          go_wp2_with fail
          refine (awake02_any _).mono ?_
          rintro y w3 ⟨rfl, hu3⟩
          go_wp2_with fail
          go_ret
          exact Gives.mk rfl ((hup.trans hu2).trans hu3)
        · have hE : doneE b a e = 1 := by unfold doneE; rw [if_neg (by simp [h1]), if_pos h2]
          have d2 : decide ((a : Int) < b.size) = true := decide_eq_true (by omega)
          rw [hE] at hM
          subst h1
          clear hE hcell hrd hrd' hq hur hr hrow
          go_wp2_with fail
          refine (hM _ HR.out).mono ?_
          rintro y w2 ⟨rfl, hu2⟩
          go_wp2_with fail
          refine (awake02_any _).mono ?_
          rintro y w3 ⟨rfl, hu3⟩
          go_wp2_with fail
          go_ret
          exact Gives.mk rfl ((hup.trans hu2).trans hu3)
        · have hE : doneE b a e = 0 := by unfold doneE; rw [if_neg (by simp [h1]), if_neg h2]
          have d2 : decide ((a : Int) < b.size) = false := decide_eq_false (by omega)
          rw [hE] at hM
          subst h1
          clear hE hcell hrd hrd' hq hur hr hrow
          go_wp2_with fail
          refine (hM _ HR.out).mono ?_
          rintro y w2 ⟨rfl, hu2⟩
          go_wp2_with fail
          refine (awake02_any _).mono ?_
          rintro y w3 ⟨rfl, hu3⟩
          go_wp2_with fail
          go_ret
          exact Gives.mk rfl ((hup.trans hu2).trans hu3)

set_option linter.unusedVariables false in
set_option maxRecDepth 100000 in
theorem spanReads_contract (H : Type) (enc : TypeId × Value → H) (W : World) (base : Nat) (args : Array Value) (ds gs : List (DataW H)) (before : List MemPlace)
    (hval : ∀ (j : Nat) t v, Try.f16.params[j]? = some t → args[j]? = some v → Value.okWide Try.prog W .any base t v)
    (hW : DataW.Whole enc Try.prog Try.f16.params.toList Rows.spanReadsSpec.vars false W args.toList ds gs before)
    (hsz : (DataW.weightsEach Try.prog (Try.f16.params.toList ++ (Rows.spanReadsSpec).plain.varTypes Try.prog) (ds ++ gs)).all (· ≤ reachBytes) = true) :
    Calls Try.prog 16 args W fun e W' => ∃ v, e = .returned v ∧ Rows.spanReadsSpec.post enc Try.prog Try.f16 false true false false W args v W' := by
  have hW' := hW
  obtain ⟨p, q, hA0, hV, rfl, hfz, hnd⟩ := hW
  have hA : DataW.TrodAll enc Try.prog W 0 (fun _ => true) true Try.f16.params.toList args.toList ds p := hA0
  rw [Try.params16] at hA hval hsz
  obtain ⟨v0, vs0, d0, ds0, p0, q0, hargs, rfl, rfl, h0, r0⟩ := trodAll_cons hA
  obtain ⟨v1, vs1, d1, ds1, p1, q1, rfl, rfl, rfl, h1, r1⟩ := trodAll_cons r0
  obtain ⟨rfl, rfl, rfl⟩ := trodAll_nil r1
  obtain rfl : args = #[v0, v1] := by cases args; simp_all
  obtain ⟨rfl, rfl⟩ := trodVars_none hV
  clear hA0
  obtain ⟨a0, rfl, rfl, rfl, w0⟩ := open_string Try.underlying9 (hval 0 9 v0 rfl rfl) h0
  have elem1 : ∀ (n : Nat) (cs : List Value) (y : DataW H × List MemPlace), cs.length = 2 → DataW.trod enc Try.prog W 0 (fun _ => true) true n 98 cs = some y → ∃ x : Stp, cs = (fun x : Stp => [.int .i64 x.kind, .int .i64 x.most]) x ∧ (fun (x : Stp) y => y = .agg [.lit (.int .i64 x.kind), .lit (.int .i64 x.most)] ∧ (Lit.int .i64 x.kind).wf = true ∧ (Lit.int .i64 x.most).wf = true ∧ True) x y.1 := by
    intro n cs y hl h
    obtain ⟨ys, m, _, h2, h3, h4⟩ := struct_cells Try.underlying98 (by kernel_rfl) (by kernel_rfl) h
    obtain ⟨c0, c1, rfl⟩ := list2 hl
    obtain ⟨y0, y1, rfl⟩ := list2 h2
    obtain ⟨a0, rfl, rfl, w0⟩ := int_field Try.underlying3 (h4 0 _ _ rfl rfl)
    obtain ⟨a1, rfl, rfl, w1⟩ := int_field Try.underlying3 (h4 1 _ _ rfl rfl)
    subst h3
    exact ⟨⟨a0, a1⟩, rfl, rfl, w0, w1, trivial⟩
  obtain ⟨l1, hr1, hd1⟩ := row_arg (cells := fun x : Stp => [.int .i64 x.kind, .int .i64 x.most]) (R := fun (x : Stp) y => y = .agg [.lit (.int .i64 x.kind), .lit (.int .i64 x.most)] ∧ (Lit.int .i64 x.kind).wf = true ∧ (Lit.int .i64 x.most).wf = true ∧ True) Try.underlying93 (by kernel_rfl) (by decide) elem1 (hval 1 93 v1 rfl rfl) h1
  have hb1 := row_all hd1 (fun x y (h : (fun (x : Stp) y => y = .agg [.lit (.int .i64 x.kind), .lit (.int .i64 x.most)] ∧ (Lit.int .i64 x.kind).wf = true ∧ (Lit.int .i64 x.most).wf = true ∧ True) x y) => And.intro (bounds_i64 h.2.1) <| And.intro (bounds_i64 h.2.2.1) <| trivial)
  refine (spanReads_walk a0 w0 v1 l1 hr1 hb1 W).mono fun e W' ⟨he, hu⟩ => ?_
  subst he
  exact ⟨_, rfl, post_true laidOut (by kernel_rfl) Try.underlying4 rfl rfl hW' rfl hu⟩

theorem spanReads_closed : joinedFacts Try.prog 16 Try.f16 Rows.spanReadsSpec Rows.spanReadsRow = true := by
  unfold joinedFacts
  rw [fact_mayEnter, fact_lifted, fact_make]
  kernel_rfl

set_option maxRecDepth 100000 in
theorem spanReads_lifted (os : Os) (started : os.Started) (H : Type) (enc : TypeId × Value → H) :
    ReturnsInHanded {} Try.checked os 16 .any (Rows.spanReadsSpec.pre6 enc Try.prog Try.f16 Rows.spanReadsRow.domain false) (Rows.spanReadsSpec.post enc Try.prog Try.f16 false true false false) := by
  refine returnsInHanded_of_change_sized (C := Try.checked) own started (by kernel_rfl) Try.func16
    (ChangeSpec.witness6 (enc := enc) (C := Try.checked) false ⟨#[], #[.string ⟨#[]⟩, .slice none 0 0], []⟩ 8 (by kernel_rfl) (by kernel_rfl) (by kernel_rfl) (by kernel_rfl)) ?_
  intro W base args ds gs before hval hW _ hsz _
  exact spanReads_contract H enc W base args ds gs before hval hW hsz

theorem spanReads_holds : Rows.SpanReadsSaid :=
  OpenClaim.holds_of_wide 16 Try.f16 rfl rfl rfl rfl rfl rfl rfl ⟨rfl, rfl, rfl, rfl, rfl⟩ rfl rfl rfl rfl rfl (by kernel_rfl) Try.func16 spanReads_closed
    (of_decide_eq_true (by kernel_rfl)) (by unfold Func.isWrapper; rw [if_neg (by decide +kernel)]; exact ⟨rfl, rfl⟩)
    (fun os started H enc _ => spanReads_lifted os started H enc)
end Go.Proofs.Ytpldfoclogkppaa
