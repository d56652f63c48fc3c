/- The document's next event, in the abstract run. -/
import Derived.Test.YtmmmaekaoanceaaScrU
set_option maxRecDepth 100000
set_option linter.unusedSimpArgs false
namespace Go.Proofs.Ytmmmaekaoanceaa
open Go Go.RowKit Go.Proofs

def nextQ (b : ByteArray) (a : Nat) (G : Glob) (v : AV) (G' : Glob) : Prop :=
  G' = G ∧ ∃ (x1 x2 x3 : Int) (x4 : ByteArray) (g : Gt), v = .tup [.agg [.int .i64 x1, .int .i64 x2, .int .u64 x3, .str x4], g.av] ∧ g.e = (evT b a).2.2 ∧ ((evT b a).2.2 = 0 → [.int .i64 x1, .int .i64 x2, .int .u64 x3, .str x4] = Ev.av (evT b a).1 ∧ g.at_ = (evT b a).2.1 ∧ g.Ok b)
theorem nextS_three' {b : ByteArray} {a : Nat} {e : Int} {s : Stp} (h : s.kind = 3) : nextS b a e s = ⟨0, (textS b a e s.most).1, (textS b a e s.most).2.1, (textS b a e s.most).2.2⟩ := nextS_three h
set_option maxHeartbeats 4000000 in
theorem refnext43_ok (b : ByteArray) (g : Gt) (G : Glob) (hb : b.size ≤ maxLen) (hg : g.Ok b) (he0 : g.e = 0) : CallOk Try.prog TT 88 [.str b, g.av] G (nextQ b g.at_ G) := by
  obtain ⟨num, text, a, e⟩ := g
  simp only at he0
  subst he0
  have ha : a ≤ b.size := hg.a1
  obtain ⟨n, a1, e1, hnS⟩ : ∃ n a1 e1, numS b a 0 = (n, a1, e1) := ⟨_, _, _, rfl⟩
  have h1 := q_refnext b ⟨num, text, a, 0⟩ 1 0 G hb hg ⟨by simp, by simp, by simp, by simp⟩
  have ok1 : (nextS b a 0 ⟨1, 0⟩).Ok b := nextS_ok ⟨by simp, by simp, by simp, by simp⟩ ha (by omega) (by omega)
  rw [nextS_one rfl, hnS] at h1 ok1
  simp only at h1 ok1
  refine call_body tt_ok Try.func88 rfl (by kernel_rfl) Try.ntmps88 Try.results88 ?_; conv => whnf
  refine h1.on ?_; conv => whnf
  by_cases he : e1 = 0
  · subst he
    by_cases h7 : 7 < n
    · have hT : evT b a = (ev0, a1, 4) := by simp [evT, hnS, h7]
      unfold nextQ
      rw [hT]
      have c0 : decide ((n : Int) < 1) = false := by simp; omega
      have c1 : decide ((n : Int) > 7) = true := by simp; omega
      repeat' (first | (refine BS_t (by assumption) ?_; conv => whnf) | (refine BS_f (by assumption) ?_; conv => whnf) | (refine atG (by first | assumption | exact setG_same _ _ _) ?_; conv => whnf) | (refine (nthK_iff _ _).2 ⟨_, (by assumption), ?_⟩; conv => whnf) | (refine Exists.intro _ (And.intro (And.intro (by omega) (by assumption)) ?_); conv => whnf) | (refine And.intro (by first | decide | omega) ?_; conv => whnf) | fail)
      refine draw_sound (eff := []) tt_ok (by kernel_rfl) (by kernel_rfl) ?_; conv => whnf
      repeat' (first | (refine BS_t (by assumption) ?_; conv => whnf) | (refine BS_f (by assumption) ?_; conv => whnf) | (refine atG (by first | assumption | exact setG_same _ _ _) ?_; conv => whnf) | (refine (nthK_iff _ _).2 ⟨_, (by assumption), ?_⟩; conv => whnf) | (refine Exists.intro _ (And.intro (And.intro (by omega) (by assumption)) ?_); conv => whnf) | (refine And.intro (by first | decide | omega) ?_; conv => whnf) | fail)
      refine And.intro (by conv => whnf) ?_; conv => whnf
      repeat' (first | (refine BS_t (by assumption) ?_; conv => whnf) | (refine BS_f (by assumption) ?_; conv => whnf) | (refine atG (by first | assumption | exact setG_same _ _ _) ?_; conv => whnf) | (refine (nthK_iff _ _).2 ⟨_, (by assumption), ?_⟩; conv => whnf) | (refine Exists.intro _ (And.intro (And.intro (by omega) (by assumption)) ?_); conv => whnf) | (refine And.intro (by first | decide | omega) ?_; conv => whnf) | fail)
      exact ⟨_, fun _ _ h => h, rfl, _, _, _, _, ⟨n, ⟨#[]⟩, a1, 4⟩, rfl, rfl, fun h => by cases h⟩
    · have hn : n = 0 ∨ n = 1 ∨ n = 3 ∨ n = 5 ∨ n = 4 ∨ n = 6 ∨ n = 7 ∨ n = 2 := by omega
      rcases hn with rfl | rfl | rfl | rfl | rfl | rfl | rfl | rfl
      · have hT : evT b a = (ev0, a1, 4) := by simp [evT, hnS]
        unfold nextQ
        rw [hT]
        repeat' (first | (refine BS_t (by assumption) ?_; conv => whnf) | (refine BS_f (by assumption) ?_; conv => whnf) | (refine atG (by first | assumption | exact setG_same _ _ _) ?_; conv => whnf) | (refine (nthK_iff _ _).2 ⟨_, (by assumption), ?_⟩; conv => whnf) | (refine Exists.intro _ (And.intro (And.intro (by omega) (by assumption)) ?_); conv => whnf) | (refine And.intro (by first | decide | omega) ?_; conv => whnf) | fail)
        refine draw_sound (eff := []) tt_ok (by kernel_rfl) (by kernel_rfl) ?_; conv => whnf
        repeat' (first | (refine BS_t (by assumption) ?_; conv => whnf) | (refine BS_f (by assumption) ?_; conv => whnf) | (refine atG (by first | assumption | exact setG_same _ _ _) ?_; conv => whnf) | (refine (nthK_iff _ _).2 ⟨_, (by assumption), ?_⟩; conv => whnf) | (refine Exists.intro _ (And.intro (And.intro (by omega) (by assumption)) ?_); conv => whnf) | (refine And.intro (by first | decide | omega) ?_; conv => whnf) | fail)
        refine And.intro (by conv => whnf) ?_; conv => whnf
        repeat' (first | (refine BS_t (by assumption) ?_; conv => whnf) | (refine BS_f (by assumption) ?_; conv => whnf) | (refine atG (by first | assumption | exact setG_same _ _ _) ?_; conv => whnf) | (refine (nthK_iff _ _).2 ⟨_, (by assumption), ?_⟩; conv => whnf) | (refine Exists.intro _ (And.intro (And.intro (by omega) (by assumption)) ?_); conv => whnf) | (refine And.intro (by first | decide | omega) ?_; conv => whnf) | fail)
        exact ⟨_, fun _ _ h => h, rfl, _, _, _, _, ⟨0, ⟨#[]⟩, a1, 4⟩, rfl, rfl, fun h => by cases h⟩
      · have hT : evT b a = (⟨1, 0, 0, ⟨#[]⟩⟩, a1, 0) := by simp [evT, hnS]
        unfold nextQ
        rw [hT]
        repeat' (first | (refine BS_t (by assumption) ?_; conv => whnf) | (refine BS_f (by assumption) ?_; conv => whnf) | (refine atG (by first | assumption | exact setG_same _ _ _) ?_; conv => whnf) | (refine (nthK_iff _ _).2 ⟨_, (by assumption), ?_⟩; conv => whnf) | (refine Exists.intro _ (And.intro (And.intro (by omega) (by assumption)) ?_); conv => whnf) | (refine And.intro (by first | decide | omega) ?_; conv => whnf) | fail)
        refine (has_ok _ _).on ?_; conv => whnf
        repeat' (first | (refine BS_t (by assumption) ?_; conv => whnf) | (refine BS_f (by assumption) ?_; conv => whnf) | (refine atG (by first | assumption | exact setG_same _ _ _) ?_; conv => whnf) | (refine (nthK_iff _ _).2 ⟨_, (by assumption), ?_⟩; conv => whnf) | (refine Exists.intro _ (And.intro (And.intro (by omega) (by assumption)) ?_); conv => whnf) | (refine And.intro (by first | decide | omega) ?_; conv => whnf) | fail)
        refine draw_sound (eff := []) tt_ok (by kernel_rfl) (by kernel_rfl) ?_; conv => whnf
        repeat' (first | (refine BS_t (by assumption) ?_; conv => whnf) | (refine BS_f (by assumption) ?_; conv => whnf) | (refine atG (by first | assumption | exact setG_same _ _ _) ?_; conv => whnf) | (refine (nthK_iff _ _).2 ⟨_, (by assumption), ?_⟩; conv => whnf) | (refine Exists.intro _ (And.intro (And.intro (by omega) (by assumption)) ?_); conv => whnf) | (refine And.intro (by first | decide | omega) ?_; conv => whnf) | fail)
        refine And.intro (by conv => whnf) ?_; conv => whnf
        repeat' (first | (refine BS_t (by assumption) ?_; conv => whnf) | (refine BS_f (by assumption) ?_; conv => whnf) | (refine atG (by first | assumption | exact setG_same _ _ _) ?_; conv => whnf) | (refine (nthK_iff _ _).2 ⟨_, (by assumption), ?_⟩; conv => whnf) | (refine Exists.intro _ (And.intro (And.intro (by omega) (by assumption)) ?_); conv => whnf) | (refine And.intro (by first | decide | omega) ?_; conv => whnf) | fail)
        exact ⟨_, fun _ _ h => h, rfl, _, _, _, _, _, rfl, rfl, fun _ => ⟨rfl, rfl, ok1⟩⟩
      · have hT : evT b a = (⟨3, 0, 0, ⟨#[]⟩⟩, a1, 0) := by simp [evT, hnS]
        unfold nextQ
        rw [hT]
        repeat' (first | (refine BS_t (by assumption) ?_; conv => whnf) | (refine BS_f (by assumption) ?_; conv => whnf) | (refine atG (by first | assumption | exact setG_same _ _ _) ?_; conv => whnf) | (refine (nthK_iff _ _).2 ⟨_, (by assumption), ?_⟩; conv => whnf) | (refine Exists.intro _ (And.intro (And.intro (by omega) (by assumption)) ?_); conv => whnf) | (refine And.intro (by first | decide | omega) ?_; conv => whnf) | fail)
        refine (has_ok _ _).on ?_; conv => whnf
        repeat' (first | (refine BS_t (by assumption) ?_; conv => whnf) | (refine BS_f (by assumption) ?_; conv => whnf) | (refine atG (by first | assumption | exact setG_same _ _ _) ?_; conv => whnf) | (refine (nthK_iff _ _).2 ⟨_, (by assumption), ?_⟩; conv => whnf) | (refine Exists.intro _ (And.intro (And.intro (by omega) (by assumption)) ?_); conv => whnf) | (refine And.intro (by first | decide | omega) ?_; conv => whnf) | fail)
        refine draw_sound (eff := []) tt_ok (by kernel_rfl) (by kernel_rfl) ?_; conv => whnf
        repeat' (first | (refine BS_t (by assumption) ?_; conv => whnf) | (refine BS_f (by assumption) ?_; conv => whnf) | (refine atG (by first | assumption | exact setG_same _ _ _) ?_; conv => whnf) | (refine (nthK_iff _ _).2 ⟨_, (by assumption), ?_⟩; conv => whnf) | (refine Exists.intro _ (And.intro (And.intro (by omega) (by assumption)) ?_); conv => whnf) | (refine And.intro (by first | decide | omega) ?_; conv => whnf) | fail)
        refine And.intro (by conv => whnf) ?_; conv => whnf
        repeat' (first | (refine BS_t (by assumption) ?_; conv => whnf) | (refine BS_f (by assumption) ?_; conv => whnf) | (refine atG (by first | assumption | exact setG_same _ _ _) ?_; conv => whnf) | (refine (nthK_iff _ _).2 ⟨_, (by assumption), ?_⟩; conv => whnf) | (refine Exists.intro _ (And.intro (And.intro (by omega) (by assumption)) ?_); conv => whnf) | (refine And.intro (by first | decide | omega) ?_; conv => whnf) | fail)
        exact ⟨_, fun _ _ h => h, rfl, _, _, _, _, _, rfl, rfl, fun _ => ⟨rfl, rfl, ok1⟩⟩
      · have hT : evT b a = (⟨5, 0, 0, ⟨#[]⟩⟩, a1, 0) := by simp [evT, hnS]
        unfold nextQ
        rw [hT]
        repeat' (first | (refine BS_t (by assumption) ?_; conv => whnf) | (refine BS_f (by assumption) ?_; conv => whnf) | (refine atG (by first | assumption | exact setG_same _ _ _) ?_; conv => whnf) | (refine (nthK_iff _ _).2 ⟨_, (by assumption), ?_⟩; conv => whnf) | (refine Exists.intro _ (And.intro (And.intro (by omega) (by assumption)) ?_); conv => whnf) | (refine And.intro (by first | decide | omega) ?_; conv => whnf) | fail)
        refine (has_ok _ _).on ?_; conv => whnf
        repeat' (first | (refine BS_t (by assumption) ?_; conv => whnf) | (refine BS_f (by assumption) ?_; conv => whnf) | (refine atG (by first | assumption | exact setG_same _ _ _) ?_; conv => whnf) | (refine (nthK_iff _ _).2 ⟨_, (by assumption), ?_⟩; conv => whnf) | (refine Exists.intro _ (And.intro (And.intro (by omega) (by assumption)) ?_); conv => whnf) | (refine And.intro (by first | decide | omega) ?_; conv => whnf) | fail)
        refine draw_sound (eff := []) tt_ok (by kernel_rfl) (by kernel_rfl) ?_; conv => whnf
        repeat' (first | (refine BS_t (by assumption) ?_; conv => whnf) | (refine BS_f (by assumption) ?_; conv => whnf) | (refine atG (by first | assumption | exact setG_same _ _ _) ?_; conv => whnf) | (refine (nthK_iff _ _).2 ⟨_, (by assumption), ?_⟩; conv => whnf) | (refine Exists.intro _ (And.intro (And.intro (by omega) (by assumption)) ?_); conv => whnf) | (refine And.intro (by first | decide | omega) ?_; conv => whnf) | fail)
        refine And.intro (by conv => whnf) ?_; conv => whnf
        repeat' (first | (refine BS_t (by assumption) ?_; conv => whnf) | (refine BS_f (by assumption) ?_; conv => whnf) | (refine atG (by first | assumption | exact setG_same _ _ _) ?_; conv => whnf) | (refine (nthK_iff _ _).2 ⟨_, (by assumption), ?_⟩; conv => whnf) | (refine Exists.intro _ (And.intro (And.intro (by omega) (by assumption)) ?_); conv => whnf) | (refine And.intro (by first | decide | omega) ?_; conv => whnf) | fail)
        exact ⟨_, fun _ _ h => h, rfl, _, _, _, _, _, rfl, rfl, fun _ => ⟨rfl, rfl, ok1⟩⟩
      · have h2 := q_refnext b ⟨4, ⟨#[]⟩, a1, 0⟩ 1 0 G hb ok1 ⟨by simp, by simp, by simp, by simp⟩
        have ok2 : (nextS b a1 0 ⟨1, 0⟩).Ok b := nextS_ok ⟨by simp, by simp, by simp, by simp⟩ ok1.a1 (by omega) (by omega)
        obtain ⟨c, a2, e2, hc⟩ : ∃ c a2 e2, numS b a1 0 = (c, a2, e2) := ⟨_, _, _, rfl⟩
        rw [nextS_one rfl, hc] at h2 ok2
        simp only at h2 ok2
        have hT : evT b a = (⟨4, 0, c, ⟨#[]⟩⟩, a2, e2) := by simp [evT, hnS, hc]
        unfold nextQ
        rw [hT]
        repeat' (first | (refine BS_t (by assumption) ?_; conv => whnf) | (refine BS_f (by assumption) ?_; conv => whnf) | (refine atG (by first | assumption | exact setG_same _ _ _) ?_; conv => whnf) | (refine (nthK_iff _ _).2 ⟨_, (by assumption), ?_⟩; conv => whnf) | (refine Exists.intro _ (And.intro (And.intro (by omega) (by assumption)) ?_); conv => whnf) | (refine And.intro (by first | decide | omega) ?_; conv => whnf) | fail)
        refine (has_ok _ _).on ?_; conv => whnf
        repeat' (first | (refine BS_t (by assumption) ?_; conv => whnf) | (refine BS_f (by assumption) ?_; conv => whnf) | (refine atG (by first | assumption | exact setG_same _ _ _) ?_; conv => whnf) | (refine (nthK_iff _ _).2 ⟨_, (by assumption), ?_⟩; conv => whnf) | (refine Exists.intro _ (And.intro (And.intro (by omega) (by assumption)) ?_); conv => whnf) | (refine And.intro (by first | decide | omega) ?_; conv => whnf) | fail)
        refine h2.on ?_; conv => whnf
        repeat' (first | (refine BS_t (by assumption) ?_; conv => whnf) | (refine BS_f (by assumption) ?_; conv => whnf) | (refine atG (by first | assumption | exact setG_same _ _ _) ?_; conv => whnf) | (refine (nthK_iff _ _).2 ⟨_, (by assumption), ?_⟩; conv => whnf) | (refine Exists.intro _ (And.intro (And.intro (by omega) (by assumption)) ?_); conv => whnf) | (refine And.intro (by first | decide | omega) ?_; conv => whnf) | fail)
        refine draw_sound (eff := []) tt_ok (by kernel_rfl) (by kernel_rfl) ?_; conv => whnf
        repeat' (first | (refine BS_t (by assumption) ?_; conv => whnf) | (refine BS_f (by assumption) ?_; conv => whnf) | (refine atG (by first | assumption | exact setG_same _ _ _) ?_; conv => whnf) | (refine (nthK_iff _ _).2 ⟨_, (by assumption), ?_⟩; conv => whnf) | (refine Exists.intro _ (And.intro (And.intro (by omega) (by assumption)) ?_); conv => whnf) | (refine And.intro (by first | decide | omega) ?_; conv => whnf) | fail)
        refine And.intro (by conv => whnf) ?_; conv => whnf
        repeat' (first | (refine BS_t (by assumption) ?_; conv => whnf) | (refine BS_f (by assumption) ?_; conv => whnf) | (refine atG (by first | assumption | exact setG_same _ _ _) ?_; conv => whnf) | (refine (nthK_iff _ _).2 ⟨_, (by assumption), ?_⟩; conv => whnf) | (refine Exists.intro _ (And.intro (And.intro (by omega) (by assumption)) ?_); conv => whnf) | (refine And.intro (by first | decide | omega) ?_; conv => whnf) | fail)
        exact ⟨_, fun _ _ h => h, rfl, _, _, _, _, _, rfl, rfl, fun _ => ⟨rfl, rfl, ok2⟩⟩
      · have h2 := q_refnext b ⟨6, ⟨#[]⟩, a1, 0⟩ 2 15 G hb ok1 ⟨by simp, by simp, by simp, by simp⟩
        have ok2 : (nextS b a1 0 ⟨2, 15⟩).Ok b := nextS_ok ⟨by simp, by simp, by simp, by simp⟩ ok1.a1 (by omega) (by omega)
        obtain ⟨c, a2, e2, hc⟩ : ∃ c a2 e2, intS b a1 0 15 = (c, a2, e2) := ⟨_, _, _, rfl⟩
        have hcb := intS_bd (b := b) (a := a1) (e := 0) 15 ok1.a1 (by omega) (by omega)
        rw [nextS_two rfl, hc] at h2 ok2
        rw [hc] at hcb
        simp only at h2 ok2 hcb
        have hT : evT b a = (⟨6, c, 0, ⟨#[]⟩⟩, a2, e2) := by simp [evT, hnS, hc]
        unfold nextQ
        rw [hT]
        repeat' (first | (refine BS_t (by assumption) ?_; conv => whnf) | (refine BS_f (by assumption) ?_; conv => whnf) | (refine atG (by first | assumption | exact setG_same _ _ _) ?_; conv => whnf) | (refine (nthK_iff _ _).2 ⟨_, (by assumption), ?_⟩; conv => whnf) | (refine Exists.intro _ (And.intro (And.intro (by omega) (by assumption)) ?_); conv => whnf) | (refine And.intro (by first | decide | omega) ?_; conv => whnf) | fail)
        refine (has_ok _ _).on ?_; conv => whnf
        repeat' (first | (refine BS_t (by assumption) ?_; conv => whnf) | (refine BS_f (by assumption) ?_; conv => whnf) | (refine atG (by first | assumption | exact setG_same _ _ _) ?_; conv => whnf) | (refine (nthK_iff _ _).2 ⟨_, (by assumption), ?_⟩; conv => whnf) | (refine Exists.intro _ (And.intro (And.intro (by omega) (by assumption)) ?_); conv => whnf) | (refine And.intro (by first | decide | omega) ?_; conv => whnf) | fail)
        refine h2.on ?_; conv => whnf
        repeat' (first | (refine BS_t (by assumption) ?_; conv => whnf) | (refine BS_f (by assumption) ?_; conv => whnf) | (refine atG (by first | assumption | exact setG_same _ _ _) ?_; conv => whnf) | (refine (nthK_iff _ _).2 ⟨_, (by assumption), ?_⟩; conv => whnf) | (refine Exists.intro _ (And.intro (And.intro (by omega) (by assumption)) ?_); conv => whnf) | (refine And.intro (by first | decide | omega) ?_; conv => whnf) | fail)
        refine draw_sound (eff := []) tt_ok (by kernel_rfl) (by kernel_rfl) ?_; conv => whnf
        repeat' (first | (refine BS_t (by assumption) ?_; conv => whnf) | (refine BS_f (by assumption) ?_; conv => whnf) | (refine atG (by first | assumption | exact setG_same _ _ _) ?_; conv => whnf) | (refine (nthK_iff _ _).2 ⟨_, (by assumption), ?_⟩; conv => whnf) | (refine Exists.intro _ (And.intro (And.intro (by omega) (by assumption)) ?_); conv => whnf) | (refine And.intro (by first | decide | omega) ?_; conv => whnf) | fail)
        refine And.intro (by conv => whnf) ?_; conv => whnf
        repeat' (first | (refine BS_t (by assumption) ?_; conv => whnf) | (refine BS_f (by assumption) ?_; conv => whnf) | (refine atG (by first | assumption | exact setG_same _ _ _) ?_; conv => whnf) | (refine (nthK_iff _ _).2 ⟨_, (by assumption), ?_⟩; conv => whnf) | (refine Exists.intro _ (And.intro (And.intro (by omega) (by assumption)) ?_); conv => whnf) | (refine And.intro (by first | decide | omega) ?_; conv => whnf) | fail)
        have hw : IntKind.i64.wrap (c : Int) = c := by rw [IntWalk.i64_in _ (by omega)]
        exact ⟨_, fun _ _ h => h, rfl, _, _, _, _, _, rfl, rfl, fun _ => ⟨by simp only [Ev.av, hw]; rfl, rfl, ok2⟩⟩
      · have h2 := q_refnext b ⟨7, ⟨#[]⟩, a1, 0⟩ 2 15 G hb ok1 ⟨by simp, by simp, by simp, by simp⟩
        have ok2 : (nextS b a1 0 ⟨2, 15⟩).Ok b := nextS_ok ⟨by simp, by simp, by simp, by simp⟩ ok1.a1 (by omega) (by omega)
        obtain ⟨c, a2, e2, hc⟩ : ∃ c a2 e2, intS b a1 0 15 = (c, a2, e2) := ⟨_, _, _, rfl⟩
        have hcb := intS_bd (b := b) (a := a1) (e := 0) 15 ok1.a1 (by omega) (by omega)
        rw [nextS_two rfl, hc] at h2 ok2
        rw [hc] at hcb
        simp only at h2 ok2 hcb
        have hT : evT b a = (⟨7, c, 0, ⟨#[]⟩⟩, a2, e2) := by simp [evT, hnS, hc]
        unfold nextQ
        rw [hT]
        repeat' (first | (refine BS_t (by assumption) ?_; conv => whnf) | (refine BS_f (by assumption) ?_; conv => whnf) | (refine atG (by first | assumption | exact setG_same _ _ _) ?_; conv => whnf) | (refine (nthK_iff _ _).2 ⟨_, (by assumption), ?_⟩; conv => whnf) | (refine Exists.intro _ (And.intro (And.intro (by omega) (by assumption)) ?_); conv => whnf) | (refine And.intro (by first | decide | omega) ?_; conv => whnf) | fail)
        refine (has_ok _ _).on ?_; conv => whnf
        repeat' (first | (refine BS_t (by assumption) ?_; conv => whnf) | (refine BS_f (by assumption) ?_; conv => whnf) | (refine atG (by first | assumption | exact setG_same _ _ _) ?_; conv => whnf) | (refine (nthK_iff _ _).2 ⟨_, (by assumption), ?_⟩; conv => whnf) | (refine Exists.intro _ (And.intro (And.intro (by omega) (by assumption)) ?_); conv => whnf) | (refine And.intro (by first | decide | omega) ?_; conv => whnf) | fail)
        refine h2.on ?_; conv => whnf
        repeat' (first | (refine BS_t (by assumption) ?_; conv => whnf) | (refine BS_f (by assumption) ?_; conv => whnf) | (refine atG (by first | assumption | exact setG_same _ _ _) ?_; conv => whnf) | (refine (nthK_iff _ _).2 ⟨_, (by assumption), ?_⟩; conv => whnf) | (refine Exists.intro _ (And.intro (And.intro (by omega) (by assumption)) ?_); conv => whnf) | (refine And.intro (by first | decide | omega) ?_; conv => whnf) | fail)
        refine draw_sound (eff := []) tt_ok (by kernel_rfl) (by kernel_rfl) ?_; conv => whnf
        repeat' (first | (refine BS_t (by assumption) ?_; conv => whnf) | (refine BS_f (by assumption) ?_; conv => whnf) | (refine atG (by first | assumption | exact setG_same _ _ _) ?_; conv => whnf) | (refine (nthK_iff _ _).2 ⟨_, (by assumption), ?_⟩; conv => whnf) | (refine Exists.intro _ (And.intro (And.intro (by omega) (by assumption)) ?_); conv => whnf) | (refine And.intro (by first | decide | omega) ?_; conv => whnf) | fail)
        refine And.intro (by conv => whnf) ?_; conv => whnf
        repeat' (first | (refine BS_t (by assumption) ?_; conv => whnf) | (refine BS_f (by assumption) ?_; conv => whnf) | (refine atG (by first | assumption | exact setG_same _ _ _) ?_; conv => whnf) | (refine (nthK_iff _ _).2 ⟨_, (by assumption), ?_⟩; conv => whnf) | (refine Exists.intro _ (And.intro (And.intro (by omega) (by assumption)) ?_); conv => whnf) | (refine And.intro (by first | decide | omega) ?_; conv => whnf) | fail)
        have hw : IntKind.i64.wrap (c : Int) = c := by rw [IntWalk.i64_in _ (by omega)]
        exact ⟨_, fun _ _ h => h, rfl, _, _, _, _, _, rfl, rfl, fun _ => ⟨by simp only [Ev.av, hw]; rfl, rfl, ok2⟩⟩
      · have h2 := q_refnext b ⟨2, ⟨#[]⟩, a1, 0⟩ 2 15 G hb ok1 ⟨by simp, by simp, by simp, by simp⟩
        have ok2 : (nextS b a1 0 ⟨2, 15⟩).Ok b := nextS_ok ⟨by simp, by simp, by simp, by simp⟩ ok1.a1 (by omega) (by omega)
        obtain ⟨c, a2, e2, hc⟩ : ∃ c a2 e2, intS b a1 0 15 = (c, a2, e2) := ⟨_, _, _, rfl⟩
        have hcb := intS_bd (b := b) (a := a1) (e := 0) 15 ok1.a1 (by omega) (by omega)
        rw [nextS_two rfl, hc] at h2 ok2
        rw [hc] at hcb
        simp only at h2 ok2 hcb
        have h3 := q_refnext b ⟨c, ⟨#[]⟩, a2, e2⟩ 3 1048576 G hb ok2 ⟨by simp, by simp, by simp, by simp⟩
        have ok3 : (nextS b a2 e2 ⟨3, 1048576⟩).Ok b := nextS_ok ⟨by simp, by simp, by simp, by simp⟩ ok2.a1 ok2.e0 ok2.e1
        obtain ⟨t, a3, e3, ht⟩ : ∃ t a3 e3, textS b a2 e2 1048576 = (t, a3, e3) := ⟨_, _, _, rfl⟩
        have e30 : e3 = 0 → e2 = 0 := fun h => by
          by_cases h2 : e2 = 0
          · exact h2
          · rw [text_sticks h2] at ht
            simp only [Prod.mk.injEq] at ht
            rw [← ht.2.2] at h
            exact absurd h h2
        have z3 : (nextS b a2 e2 ⟨3, 1048576⟩) = ⟨0, t, a3, e3⟩ := by rw [nextS_three' rfl, ht]
        rw [z3] at h3 ok3
        have hT : evT b a = (⟨2, c, 0, t⟩, a3, e3) := by simp [evT, hnS, hc, ht]
        unfold nextQ
        rw [hT]
        repeat' (first | (refine BS_t (by assumption) ?_; conv => whnf) | (refine BS_f (by assumption) ?_; conv => whnf) | (refine atG (by first | assumption | exact setG_same _ _ _) ?_; conv => whnf) | (refine (nthK_iff _ _).2 ⟨_, (by assumption), ?_⟩; conv => whnf) | (refine Exists.intro _ (And.intro (And.intro (by omega) (by assumption)) ?_); conv => whnf) | (refine And.intro (by first | decide | omega) ?_; conv => whnf) | fail)
        refine (has_ok _ _).on ?_; conv => whnf
        repeat' (first | (refine BS_t (by assumption) ?_; conv => whnf) | (refine BS_f (by assumption) ?_; conv => whnf) | (refine atG (by first | assumption | exact setG_same _ _ _) ?_; conv => whnf) | (refine (nthK_iff _ _).2 ⟨_, (by assumption), ?_⟩; conv => whnf) | (refine Exists.intro _ (And.intro (And.intro (by omega) (by assumption)) ?_); conv => whnf) | (refine And.intro (by first | decide | omega) ?_; conv => whnf) | fail)
        refine h2.on ?_; conv => whnf
        repeat' (first | (refine BS_t (by assumption) ?_; conv => whnf) | (refine BS_f (by assumption) ?_; conv => whnf) | (refine atG (by first | assumption | exact setG_same _ _ _) ?_; conv => whnf) | (refine (nthK_iff _ _).2 ⟨_, (by assumption), ?_⟩; conv => whnf) | (refine Exists.intro _ (And.intro (And.intro (by omega) (by assumption)) ?_); conv => whnf) | (refine And.intro (by first | decide | omega) ?_; conv => whnf) | fail)
        refine h3.on ?_; conv => whnf
        repeat' (first | (refine BS_t (by assumption) ?_; conv => whnf) | (refine BS_f (by assumption) ?_; conv => whnf) | (refine atG (by first | assumption | exact setG_same _ _ _) ?_; conv => whnf) | (refine (nthK_iff _ _).2 ⟨_, (by assumption), ?_⟩; conv => whnf) | (refine Exists.intro _ (And.intro (And.intro (by omega) (by assumption)) ?_); conv => whnf) | (refine And.intro (by first | decide | omega) ?_; conv => whnf) | fail)
        refine draw_sound (eff := []) tt_ok (by kernel_rfl) (by kernel_rfl) ?_; conv => whnf
        repeat' (first | (refine BS_t (by assumption) ?_; conv => whnf) | (refine BS_f (by assumption) ?_; conv => whnf) | (refine atG (by first | assumption | exact setG_same _ _ _) ?_; conv => whnf) | (refine (nthK_iff _ _).2 ⟨_, (by assumption), ?_⟩; conv => whnf) | (refine Exists.intro _ (And.intro (And.intro (by omega) (by assumption)) ?_); conv => whnf) | (refine And.intro (by first | decide | omega) ?_; conv => whnf) | fail)
        refine And.intro (by conv => whnf) ?_; conv => whnf
        repeat' (first | (refine BS_t (by assumption) ?_; conv => whnf) | (refine BS_f (by assumption) ?_; conv => whnf) | (refine atG (by first | assumption | exact setG_same _ _ _) ?_; conv => whnf) | (refine (nthK_iff _ _).2 ⟨_, (by assumption), ?_⟩; conv => whnf) | (refine Exists.intro _ (And.intro (And.intro (by omega) (by assumption)) ?_); conv => whnf) | (refine And.intro (by first | decide | omega) ?_; conv => whnf) | fail)
        have hw : IntKind.i64.wrap (c : Int) = c := by rw [IntWalk.i64_in _ (by omega)]
        exact ⟨_, fun _ _ h => h, rfl, _, _, _, _, _, rfl, rfl, fun _ => ⟨by simp only [Ev.av, hw]; rfl, rfl, ok3⟩⟩
  · have hT : (evT b a).2.2 = e1 := by simp [evT, hnS, he]
    have he0 : e1 ≠ 0 := he
    have c0 : (e1 != 0) = true := by simpa using he
    unfold nextQ
    rw [hT]
    repeat' (first | (refine BS_t (by assumption) ?_; conv => whnf) | (refine BS_f (by assumption) ?_; conv => whnf) | (refine atG (by first | assumption | exact setG_same _ _ _) ?_; conv => whnf) | (refine (nthK_iff _ _).2 ⟨_, (by assumption), ?_⟩; conv => whnf) | (refine Exists.intro _ (And.intro (And.intro (by omega) (by assumption)) ?_); conv => whnf) | (refine And.intro (by first | decide | omega) ?_; conv => whnf) | fail)
    refine draw_sound (eff := []) tt_ok (by kernel_rfl) (by kernel_rfl) ?_; conv => whnf
    repeat' (first | (refine BS_t (by assumption) ?_; conv => whnf) | (refine BS_f (by assumption) ?_; conv => whnf) | (refine atG (by first | assumption | exact setG_same _ _ _) ?_; conv => whnf) | (refine (nthK_iff _ _).2 ⟨_, (by assumption), ?_⟩; conv => whnf) | (refine Exists.intro _ (And.intro (And.intro (by omega) (by assumption)) ?_); conv => whnf) | (refine And.intro (by first | decide | omega) ?_; conv => whnf) | fail)
    refine And.intro (by conv => whnf) ?_; conv => whnf
    repeat' (first | (refine BS_t (by assumption) ?_; conv => whnf) | (refine BS_f (by assumption) ?_; conv => whnf) | (refine atG (by first | assumption | exact setG_same _ _ _) ?_; conv => whnf) | (refine (nthK_iff _ _).2 ⟨_, (by assumption), ?_⟩; conv => whnf) | (refine Exists.intro _ (And.intro (And.intro (by omega) (by assumption)) ?_); conv => whnf) | (refine And.intro (by first | decide | omega) ?_; conv => whnf) | fail)
    exact ⟨_, fun _ _ h => h, rfl, _, _, _, _, ⟨n, ⟨#[]⟩, a1, e1⟩, rfl, rfl, fun h => absurd h he0⟩
end Go.Proofs.Ytmmmaekaoanceaa
