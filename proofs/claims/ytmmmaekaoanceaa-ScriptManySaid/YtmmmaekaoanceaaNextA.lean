/- The walk of the document's step of reading (concourseref02.Next): it is the reader's step. -/
import Derived.Test.YtmmmaekaoanceaaReadB
namespace Go.Proofs.Ytmmmaekaoanceaa
open Go Go.RowKit

/-- a step of reading: a number (1), one up to most (2), a span (3), all (else) -/
structure Stp where
  kind : Int
  most : Int
structure Gt where
  num : Nat
  text : ByteArray
  at_ : Nat
  e : Int
def Stp.val (s : Stp) : Value := .agg #[.int .i64 s.kind, .int .i64 s.most]
def Gt.vals (g : Gt) : List Value := [.int .u64 (g.num : Nat), .string g.text, .int .i64 (g.at_ : Nat), .int .i64 g.e]
def Gt.val (g : Gt) : Value := .agg #[.int .u64 (g.num : Nat), .string g.text, .int .i64 (g.at_ : Nat), .int .i64 g.e]
def nextS (b : ByteArray) (a : Nat) (e : Int) (s : Stp) : Gt :=
  if e ≠ 0 then ⟨0, ⟨#[]⟩, a, e⟩
  else if s.kind = 1 then ⟨(numS b a e).1, ⟨#[]⟩, (numS b a e).2.1, (numS b a e).2.2⟩
  else if s.kind = 2 then ⟨(intS b a e s.most).1, ⟨#[]⟩, (intS b a e s.most).2.1, (intS b a e s.most).2.2⟩
  else if s.kind = 3 then ⟨0, (textS b a e s.most).1, (textS b a e s.most).2.1, (textS b a e s.most).2.2⟩
  else ⟨0, (restS b a e).1, (restS b a e).2.1, (restS b a e).2.2⟩
structure Stp.Ok (s : Stp) : Prop where
  k0 : -9223372036854775808 ≤ s.kind
  k1 : s.kind ≤ 9223372036854775807
  m0 : -9223372036854775808 ≤ s.most
  m1 : s.most ≤ 9223372036854775807
structure Gt.Ok (b : ByteArray) (g : Gt) : Prop where
  n1 : g.num < 18446744073709551616
  t1 : g.text.size ≤ b.size
  a1 : g.at_ ≤ b.size
  e0 : 0 ≤ g.e
  e1 : g.e ≤ 9
theorem nextS_ok {b : ByteArray} {a : Nat} {e : Int} {s : Stp} (hs : s.Ok) (ha : a ≤ b.size) (h0 : 0 ≤ e) (h1 : e ≤ 9) : (nextS b a e s).Ok b := by
  have r1 := numS_bd (b := b) ha h0 h1
  have r2 := intS_bd (b := b) s.most ha h0 h1
  have r3 := textS_bd (b := b) s.most ha h0 h1
  have r4 := restS_bd (b := b) ha h0 h1
  have m1 := hs.m1
  unfold nextS
  split
  · exact ⟨by show 0 < _; omega, by show 0 ≤ _; omega, ha, h0, h1⟩
  · split
    · exact ⟨r1.2.2.2, by show 0 ≤ _; omega, r1.1, r1.2.1, r1.2.2.1⟩
    · split
      · exact ⟨by show (intS b a e s.most).1 < _; omega, by show 0 ≤ _; omega, r2.1, r2.2.1, r2.2.2.1⟩
      · split
        · exact ⟨by show 0 < _; omega, r3.2.2.2, r3.1, r3.2.1, r3.2.2.1⟩
        · exact ⟨by show 0 < _; omega, r4.2.2.2, r4.1, r4.2.1, r4.2.2.1⟩

theorem run_strfrom {P : Program} {t : TypeId} (ht : P.underlying t = some .string) (b : ByteArray) (lo : Int) (h0 : 0 ≤ lo) (h1 : lo ≤ b.size) (w : World) :
    (Instr.slice t (.string b) (some (.int .i64 lo)) none none).run P w = .ok (.string (b.extract lo.toNat b.size)) w := by
  have e1 : lo.toNat ≤ b.size := by omega
  simp [Instr.slice, Instr.sliceBounds, Instr.sliceBound, run_underlying ht, asIntOf, h0, Sem.run_bind, Sem.run_pure]
  omega

set_option maxHeartbeats 1600000 in
set_option maxRecDepth 100000 in
theorem refnext_any (b : ByteArray) (g : Gt) (s : Stp) (w : World) (hb : b.size ≤ maxLen) (hg : g.Ok b) (hs : s.Ok) : Calls Try.prog 109 #[.string b, g.val, s.val] w (Gives w (nextS b g.at_ g.e s).val) := by
  obtain ⟨num, text, a, e⟩ := g
  obtain ⟨kind, most⟩ := s
  obtain ⟨n1, t1, a1, e0, e1⟩ := hg
  obtain ⟨k0, k1, m0, m1⟩ := hs
  simp only at n1 t1 a1 e0 e1 k0 k1 m0 m1
  have hb' : b.size ≤ 9223372036854775807 := hb
  have hsl : ∀ w, (Instr.slice 9 (.string b) (some (.int .i64 a)) none none).run Try.prog w = .ok (.string (rest b a)) w := fun w => by
    rw [run_strfrom Try.underlying9 b a (by omega) (by omega)]; rfl
  show Calls _ _ #[.string b, .agg #[.int .u64 num, .string text, .int .i64 a, .int .i64 e], .agg #[.int .i64 kind, .int .i64 most]] w _
  by_cases he : e = 0
  · subst he
    have hu0 : ∀ c, Up w (((w.alloc (.cells #[.int .u64 0, .string ⟨#[]⟩, .int .i64 a, .int .i64 0] 152)).alloc (.cells #[.int .i64 kind, .int .i64 most] 176)).alloc (.cells c 152)) := fun c => (((Up.refl w).alloc _).alloc _).alloc _
    have hA : ((((w.alloc (.cells #[.int .u64 0, .string ⟨#[]⟩, .int .i64 a, .int .i64 0] 152)).alloc (.cells #[.int .i64 kind, .int .i64 most] 176)).alloc (.cells #[.int .u64 0, .string ⟨#[]⟩, .int .i64 0, .int .i64 0] 152))).heap[w.heap.size]? = some (.cells #[.int .u64 0, .string ⟨#[]⟩, .int .i64 a, .int .i64 0] 152 (0, 0)) := blk_alloc (blk_alloc (blk_new _ _))
    have hC : ((((w.alloc (.cells #[.int .u64 0, .string ⟨#[]⟩, .int .i64 a, .int .i64 0] 152)).alloc (.cells #[.int .i64 kind, .int .i64 most] 176)).alloc (.cells #[.int .u64 0, .string ⟨#[]⟩, .int .i64 0, .int .i64 0] 152))).heap[w.heap.size + 1 + 1]? = some (.cells #[.int .u64 0, .string ⟨#[]⟩, .int .i64 0, .int .i64 0] 152 (0, 0)) := by
      have := blk_new ((w.alloc (.cells #[.int .u64 0, .string ⟨#[]⟩, .int .i64 a, .int .i64 0] 152)).alloc (.cells #[.int .i64 kind, .int .i64 most] 176)) (.cells #[.int .u64 0, .string ⟨#[]⟩, .int .i64 0, .int .i64 0] 152)
      simpa using this
    have hr : (rest b a).size ≤ maxLen := by unfold maxLen; rw [rest_size]; omega
    have HA := Lib.hid hA; have HC := Lib.hid hC; have HU := Lib.hid (hu0 #[.int .u64 0, .string ⟨#[]⟩, .int .i64 0, .int .i64 0])
    clear hA hC hu0
    by_cases h1 : kind = 1
    · subst h1
      obtain ⟨⟨n, k, e⟩, hr1⟩ : ∃ r, takeL (rest b a).data.toList = r := ⟨_, rfl⟩
      have h2 := takeL_bd (rest b a).data.toList
      rw [rest_list, hr1] at h2
      obtain ⟨q0, q1, q2, q3⟩ := h2
      simp only at q0 q1 q2 q3
      have HR := Lib.hid hr1
      have HV := Lib.hid (show Value.agg #[.int .u64 n, .string ⟨#[]⟩, .int .i64 (a + k), .int .i64 e] = (nextS b a 0 ⟨1, most⟩).val by unfold nextS numS; rw [if_neg (by simp), if_pos rfl, if_neg (by simp), hr1]; rfl)
      clear hr1
      go_enter Try.func109, Try.ntmps109
      go_wp2_with fail
      refine (reftake_any _ _ hr).mono ?_
      rintro y w1 ⟨rfl, hu1⟩
      rw [HR.out]
      unfold takeV
      have hA := hu1.keep HA.out
      have hC := hu1.keep HC.out
      have x0 : w1.cell? ⟨w.heap.size, 0, none⟩ = some (.int .u64 0) := blk_cell hA 0
      have x1 : w1.cell? ⟨w.heap.size, 1, none⟩ = some (.string ⟨#[]⟩) := blk_cell hA 1
      have x2 : w1.cell? ⟨w.heap.size, 2, none⟩ = some (.int .i64 a) := blk_cell hA 2
      have x3 : w1.cell? ⟨w.heap.size, 3, none⟩ = some (.int .i64 0) := blk_cell hA 3
      have xf : ∀ o, w1.frozen? ⟨w.heap.size, o, none⟩ = false := blk_free hA
      have z0 : w1.cell? ⟨w.heap.size + 1 + 1, 0, none⟩ = some (.int .u64 0) := blk_cell hC 0
      have z1 : w1.cell? ⟨w.heap.size + 1 + 1, 1, none⟩ = some (.string ⟨#[]⟩) := blk_cell hC 1
      have z2 : w1.cell? ⟨w.heap.size + 1 + 1, 2, none⟩ = some (.int .i64 0) := blk_cell hC 2
      have z3 : w1.cell? ⟨w.heap.size + 1 + 1, 3, none⟩ = some (.int .i64 0) := blk_cell hC 3
      have zf : ∀ o, w1.frozen? ⟨w.heap.size + 1 + 1, o, none⟩ = false := blk_free hC
      have hup : Up w w1 := HU.out.trans hu1
      clear hA hC hu1
      go_wp2_with fail
      refine bodyPost_ret (v := .agg #[.int .u64 n, .string ⟨#[]⟩, .int .i64 (a + k), .int .i64 e]) (by simp [results, Try.results109, go_sem, z0, z1, z2, z3]) rfl ?_
      refine Gives.mk HV.out ?_
      iterate 7 (refine Up.set ?_ (by first | exact Nat.le_refl _ | exact Nat.le_succ_of_le (Nat.le_succ _)) _)
      exact hup
    · have d1 : (kind == 1) = false := by rw [beq_eq_false_iff_ne]; exact h1
      by_cases h2 : kind = 2
      · subst h2
        obtain ⟨⟨n, k, e⟩, hr1⟩ : ∃ r, intT (rest b a) most = r := ⟨_, rfl⟩
        have h2 := intT_bd (rest b a) most
        rw [rest_size, hr1] at h2
        obtain ⟨q0, q1, q2, q3, q4⟩ := h2
        simp only at q0 q1 q2 q3 q4
        have HR := Lib.hid hr1
        have HV := Lib.hid (show Value.agg #[.int .u64 n, .string ⟨#[]⟩, .int .i64 (a + k), .int .i64 e] = (nextS b a 0 ⟨2, most⟩).val by unfold nextS intS; rw [if_neg (by simp), if_neg (show ¬ (2 : Int) = 1 by decide), if_pos rfl, if_neg (by simp), hr1]; rfl)
        clear hr1
        go_enter Try.func109, Try.ntmps109
        go_wp2_with fail
        refine (refint_any _ _ _ hr m0 m1).mono ?_
        rintro y w1 ⟨rfl, hu1⟩
        rw [HR.out]
        unfold intV
        have hA := hu1.keep HA.out
        have hC := hu1.keep HC.out
        have x0 : w1.cell? ⟨w.heap.size, 0, none⟩ = some (.int .u64 0) := blk_cell hA 0
        have x1 : w1.cell? ⟨w.heap.size, 1, none⟩ = some (.string ⟨#[]⟩) := blk_cell hA 1
        have x2 : w1.cell? ⟨w.heap.size, 2, none⟩ = some (.int .i64 a) := blk_cell hA 2
        have x3 : w1.cell? ⟨w.heap.size, 3, none⟩ = some (.int .i64 0) := blk_cell hA 3
        have xf : ∀ o, w1.frozen? ⟨w.heap.size, o, none⟩ = false := blk_free hA
        have z0 : w1.cell? ⟨w.heap.size + 1 + 1, 0, none⟩ = some (.int .u64 0) := blk_cell hC 0
        have z1 : w1.cell? ⟨w.heap.size + 1 + 1, 1, none⟩ = some (.string ⟨#[]⟩) := blk_cell hC 1
        have z2 : w1.cell? ⟨w.heap.size + 1 + 1, 2, none⟩ = some (.int .i64 0) := blk_cell hC 2
        have z3 : w1.cell? ⟨w.heap.size + 1 + 1, 3, none⟩ = some (.int .i64 0) := blk_cell hC 3
        have zf : ∀ o, w1.frozen? ⟨w.heap.size + 1 + 1, o, none⟩ = false := blk_free hC
        have hup : Up w w1 := HU.out.trans hu1
        clear hA hC hu1
        go_wp2_with fail
        refine bodyPost_ret (v := .agg #[.int .u64 n, .string ⟨#[]⟩, .int .i64 (a + k), .int .i64 e]) (by simp [results, Try.results109, go_sem, z0, z1, z2, z3]) rfl ?_
        refine Gives.mk HV.out ?_
        iterate 7 (refine Up.set ?_ (by first | exact Nat.le_refl _ | exact Nat.le_succ_of_le (Nat.le_succ _)) _)
        exact hup
      · have d2 : (kind == 2) = false := by rw [beq_eq_false_iff_ne]; exact h2
        by_cases h3 : kind = 3
        · subst h3
          obtain ⟨⟨x, k, e⟩, hr1⟩ : ∃ r, spanT (rest b a) most = r := ⟨_, rfl⟩
          have h2 := spanT_bd' (rest b a) most
          rw [rest_size, hr1] at h2
          obtain ⟨q0, q1, q2, q3, _⟩ := h2
          simp only at q0 q1 q2 q3
          have HR := Lib.hid hr1
          have HV := Lib.hid (show Value.agg #[.int .u64 0, .string x, .int .i64 (a + k), .int .i64 e] = (nextS b a 0 ⟨3, most⟩).val by unfold nextS textS; rw [if_neg (by simp), if_neg (show ¬ (3 : Int) = 1 by decide), if_neg (show ¬ (3 : Int) = 2 by decide), if_pos rfl, if_neg (by simp), hr1]; rfl)
          clear hr1
          go_enter Try.func109, Try.ntmps109
          go_wp2_with fail
          refine (refspantake_any _ _ _ hr m0 m1).mono ?_
          rintro y w1 ⟨rfl, hu1⟩
          rw [HR.out]
          unfold spanV
          have hA := hu1.keep HA.out
          have hC := hu1.keep HC.out
          have x0 : w1.cell? ⟨w.heap.size, 0, none⟩ = some (.int .u64 0) := blk_cell hA 0
          have x1 : w1.cell? ⟨w.heap.size, 1, none⟩ = some (.string ⟨#[]⟩) := blk_cell hA 1
          have x2 : w1.cell? ⟨w.heap.size, 2, none⟩ = some (.int .i64 a) := blk_cell hA 2
          have x3 : w1.cell? ⟨w.heap.size, 3, none⟩ = some (.int .i64 0) := blk_cell hA 3
          have xf : ∀ o, w1.frozen? ⟨w.heap.size, o, none⟩ = false := blk_free hA
          have z0 : w1.cell? ⟨w.heap.size + 1 + 1, 0, none⟩ = some (.int .u64 0) := blk_cell hC 0
          have z1 : w1.cell? ⟨w.heap.size + 1 + 1, 1, none⟩ = some (.string ⟨#[]⟩) := blk_cell hC 1
          have z2 : w1.cell? ⟨w.heap.size + 1 + 1, 2, none⟩ = some (.int .i64 0) := blk_cell hC 2
          have z3 : w1.cell? ⟨w.heap.size + 1 + 1, 3, none⟩ = some (.int .i64 0) := blk_cell hC 3
          have zf : ∀ o, w1.frozen? ⟨w.heap.size + 1 + 1, o, none⟩ = false := blk_free hC
          have hup : Up w w1 := HU.out.trans hu1
          clear hA hC hu1
          go_wp2_with fail
          refine bodyPost_ret (v := .agg #[.int .u64 0, .string x, .int .i64 (a + k), .int .i64 e]) (by simp [results, Try.results109, go_sem, z0, z1, z2, z3]) rfl ?_
          refine Gives.mk HV.out ?_
          iterate 7 (refine Up.set ?_ (by first | exact Nat.le_refl _ | exact Nat.le_succ_of_le (Nat.le_succ _)) _)
          exact hup
        · have d3 : (kind == 3) = false := by rw [beq_eq_false_iff_ne]; exact h3
          have HV := Lib.hid (show Value.agg #[.int .u64 0, .string (rest b a), .int .i64 (a + (rest b a).size), .int .i64 0] = (nextS b a 0 ⟨kind, most⟩).val by unfold nextS restS; rw [if_neg (by simp), if_neg h1, if_neg h2, if_neg h3, if_neg (by simp)]; rfl)
          have hz : ((rest b a).size : Int) ≤ b.size - a := by rw [rest_size]; omega
          have hz0 : (a : Int) + (rest b a).size ≤ 9223372036854775807 := by omega
          clear h1 h2 h3
          go_enter Try.func109, Try.ntmps109
          go_wp2_with fail
          refine bodyPost_ret (v := .agg #[.int .u64 0, .string (rest b a), .int .i64 (a + (rest b a).size), .int .i64 0]) (by simp [results, Try.results109, go_sem]) rfl ?_
          exact Gives.mk HV.out ((((Up.refl w).alloc _).alloc _).alloc _)
  · have hd : (e != 0) = true := by rw [bne_iff_ne]; exact he
    have HV := Lib.hid (show Value.agg #[.int .u64 0, .string ⟨#[]⟩, .int .i64 a, .int .i64 e] = (nextS b a e ⟨kind, most⟩).val by unfold nextS; rw [if_pos he]; rfl)
    clear he
    go_enter Try.func109, Try.ntmps109
    go_wp2_with fail
    refine bodyPost_ret (v := .agg #[.int .u64 0, .string ⟨#[]⟩, .int .i64 a, .int .i64 e]) (by simp [results, Try.results109, go_sem]) rfl ?_
    exact Gives.mk HV.out ((((Up.refl w).alloc _).alloc _).alloc _)
theorem nextS_one {b : ByteArray} {a : Nat} {e : Int} {s : Stp} (h : s.kind = 1) : nextS b a e s = ⟨(numS b a e).1, ⟨#[]⟩, (numS b a e).2.1, (numS b a e).2.2⟩ := by
  unfold nextS
  by_cases he : e ≠ 0
  · unfold numS; simp only [if_pos he]
  · rw [if_neg he, if_pos h]
theorem nextS_two {b : ByteArray} {a : Nat} {e : Int} {s : Stp} (h : s.kind = 2) : nextS b a e s = ⟨(intS b a e s.most).1, ⟨#[]⟩, (intS b a e s.most).2.1, (intS b a e s.most).2.2⟩ := by
  unfold nextS
  by_cases he : e ≠ 0
  · unfold intS; simp only [if_pos he]
  · rw [if_neg he, if_neg (by rw [h]; decide), if_pos h]
theorem nextS_three {b : ByteArray} {a : Nat} {e : Int} {s : Stp} (h : s.kind = 3) : nextS b a e s = ⟨0, (textS b a e s.most).1, (textS b a e s.most).2.1, (textS b a e s.most).2.2⟩ := by
  unfold nextS
  by_cases he : e ≠ 0
  · unfold textS; simp only [if_pos he]
  · rw [if_neg he, if_neg (by rw [h]; decide), if_neg (by rw [h]; decide), if_pos h]
theorem nextS_all {b : ByteArray} {a : Nat} {e : Int} {s : Stp} (h1 : ¬ s.kind = 1) (h2 : ¬ s.kind = 2) (h3 : ¬ s.kind = 3) : nextS b a e s = ⟨0, (restS b a e).1, (restS b a e).2.1, (restS b a e).2.2⟩ := by
  unfold nextS
  by_cases he : e ≠ 0
  · unfold restS; simp only [if_pos he]
  · rw [if_neg he, if_neg h1, if_neg h2, if_neg h3]
end Go.Proofs.Ytmmmaekaoanceaa
