/- A partition: what the closures of an operation do. Printed by genptd.py. -/
import Derived.Test.YtpihanlillbhkaaGreatDoorGt
import Derived.Test.YtpihanlillbhkaaGreatDoorGw
import Derived.Test.YtpihanlillbhkaaGreatDoorGu
set_option maxRecDepth 100000
set_option linter.unusedSimpArgs false
set_option linter.unusedVariables false
namespace Go.Proofs.YtpihanlillbhkaaGreatDoor
open Go Go.RowKit Go.Proofs

theorem kv_small {s : PS} {q : PQ} (hp : PR s q) (hq : q.size ≤ 100000000) {k w : ByteArray} (h : lget s.k k = some w) : k.size ≤ 100000000 ∧ w.size ≤ 100000000 := by
  have h1 := sum_mem (fun x : ByteArray × ByteArray => 16 + x.1.size + x.2.size) (lget_mem h)
  simp only at h1
  have e : sizeR s.k = (s.k.map fun x : ByteArray × ByteArray => 16 + x.1.size + x.2.size).sum := rfl
  have h2 := hp.bounds hq
  omega
theorem gput_ok {G : Glob} {b x y : Nat} {s : PS} {m : MV} {q : PQ} {a : St31} (h : PtG G b s m) (hp : PR s q) (hq : q.size ≤ 100000000) (ha : a.op = 2) (hn : a.name.size ≤ 140737488351232) (ht : a.text.size ≤ 140737488351232) (hx : G x = some (.cells [.gptr b 0])) (hy : G y = some (.cells [.str a.name, .str a.text, .int .i64 a.num, .int .u64 a.ticks])) :
    CallOk Tryz.prog TT 80 [.gptr x 0, .gptr y 0] G (fun v G' => v = .int .i64 (growS s a) ∧ G' = G) := by
  have hg := Pkgrows_ok G b m.k _ s.k a.name a.text hn ht (fun w hw => by have := kv_small hp hq hw; omega) h.stK
  have e : growS s a = kgrow s.k a.name a.text := by unfold growS; simp [ha]
  rw [e]
  refine call_sem tt_ok Tryz.func80 rfl (by kernel_rfl) Tryz.ntmps80 Tryz.results80 ?_; conv => whnf
  repeat' (first | ((first | refine Sem.st tt_ok rfl ?_ | refine BS_t (by assumption) ?_ | refine BS_f (by assumption) ?_ | refine atG (by repeat (first | assumption | exact setG_same _ _ _ | refine atNe (by first | assumption | exact Ne.symm (by assumption)) ?_)) ?_ | refine nthKi (by assumption) ?_ | refine ⟨_, ⟨(by omega), (by assumption)⟩, ?_⟩ | refine And.intro (by first | decide | omega) ?_); conv => whnf) | refine Sem.seqS ?_ | refine Sem.block ?_)
  refine draw_sound (eff := []) tt_ok (by kernel_rfl) (by kernel_rfl) ?_; conv => whnf
  repeat' (first | ((first | refine BS_t (by assumption) ?_ | refine BS_f (by assumption) ?_ | refine atG (by repeat (first | assumption | exact setG_same _ _ _ | refine atNe (by first | assumption | exact Ne.symm (by assumption)) ?_)) ?_ | refine nthKi (by assumption) ?_ | refine ⟨_, ⟨(by omega), (by assumption)⟩, ?_⟩ | refine And.intro (by first | decide | omega) ?_); conv => whnf) | fail)
  refine ⟨_, _, hg, ?_⟩; (conv => whnf); refine And.intro rfl ?_; conv => whnf
  repeat' (first | ((first | refine BS_t (by assumption) ?_ | refine BS_f (by assumption) ?_ | refine atG (by repeat (first | assumption | exact setG_same _ _ _ | refine atNe (by first | assumption | exact Ne.symm (by assumption)) ?_)) ?_ | refine nthKi (by assumption) ?_ | refine ⟨_, ⟨(by omega), (by assumption)⟩, ?_⟩ | refine And.intro (by first | decide | omega) ?_); conv => whnf) | fail)
  repeat' (first | ((first | refine Sem.st tt_ok rfl ?_ | refine BS_t (by assumption) ?_ | refine BS_f (by assumption) ?_ | refine atG (by repeat (first | assumption | exact setG_same _ _ _ | refine atNe (by first | assumption | exact Ne.symm (by assumption)) ?_)) ?_ | refine nthKi (by assumption) ?_ | refine ⟨_, ⟨(by omega), (by assumption)⟩, ?_⟩ | refine And.intro (by first | decide | omega) ?_); conv => whnf) | refine Sem.seqS ?_ | refine Sem.block ?_)
  exact ⟨_, fun _ _ h => h, rfl, rfl⟩
theorem gaddP_ok {G : Glob} {b x y : Nat} {s : PS} {m : MV} {q : PQ} {a : St31} (h : PtG G b s m) (hp : PR s q) (hq : q.size ≤ 100000000) (ha : a.op = 4) (hn : a.name.size ≤ 140737488351232) (ht : a.text.size ≤ 140737488351232) (hx : G x = some (.cells [.gptr b 0])) (hy : G y = some (.cells [.str a.name, .str a.text, .int .i64 a.num, .int .u64 a.ticks])) :
    CallOk Tryz.prog TT 49 [.gptr x 0, .gptr y 0] G (fun v G' => v = .int .i64 (growS s a) ∧ G' = G) := by
  have hg := Pcgrows_ok _ G b m.c _ s.c a.name hn h.stC
  have e : growS s a = cgrow s.c a.name := by unfold growS; simp [ha]
  rw [e]
  refine call_sem tt_ok Tryz.func49 rfl (by kernel_rfl) Tryz.ntmps49 Tryz.results49 ?_; conv => whnf
  repeat' (first | ((first | refine Sem.st tt_ok rfl ?_ | refine BS_t (by assumption) ?_ | refine BS_f (by assumption) ?_ | refine atG (by repeat (first | assumption | exact setG_same _ _ _ | refine atNe (by first | assumption | exact Ne.symm (by assumption)) ?_)) ?_ | refine nthKi (by assumption) ?_ | refine ⟨_, ⟨(by omega), (by assumption)⟩, ?_⟩ | refine And.intro (by first | decide | omega) ?_); conv => whnf) | refine Sem.seqS ?_ | refine Sem.block ?_)
  refine draw_sound (eff := []) tt_ok (by kernel_rfl) (by kernel_rfl) ?_; conv => whnf
  repeat' (first | ((first | refine BS_t (by assumption) ?_ | refine BS_f (by assumption) ?_ | refine atG (by repeat (first | assumption | exact setG_same _ _ _ | refine atNe (by first | assumption | exact Ne.symm (by assumption)) ?_)) ?_ | refine nthKi (by assumption) ?_ | refine ⟨_, ⟨(by omega), (by assumption)⟩, ?_⟩ | refine And.intro (by first | decide | omega) ?_); conv => whnf) | fail)
  refine ⟨_, _, hg, ?_⟩; (conv => whnf); refine And.intro rfl ?_; conv => whnf
  repeat' (first | ((first | refine BS_t (by assumption) ?_ | refine BS_f (by assumption) ?_ | refine atG (by repeat (first | assumption | exact setG_same _ _ _ | refine atNe (by first | assumption | exact Ne.symm (by assumption)) ?_)) ?_ | refine nthKi (by assumption) ?_ | refine ⟨_, ⟨(by omega), (by assumption)⟩, ?_⟩ | refine And.intro (by first | decide | omega) ?_); conv => whnf) | fail)
  repeat' (first | ((first | refine Sem.st tt_ok rfl ?_ | refine BS_t (by assumption) ?_ | refine BS_f (by assumption) ?_ | refine atG (by repeat (first | assumption | exact setG_same _ _ _ | refine atNe (by first | assumption | exact Ne.symm (by assumption)) ?_)) ?_ | refine nthKi (by assumption) ?_ | refine ⟨_, ⟨(by omega), (by assumption)⟩, ?_⟩ | refine And.intro (by first | decide | omega) ?_); conv => whnf) | refine Sem.seqS ?_ | refine Sem.block ?_)
  exact ⟨_, fun _ _ h => h, rfl, rfl⟩
theorem gpush_ok {G : Glob} {b x y : Nat} {s : PS} {m : MV} {q : PQ} {a : St31} (h : PtG G b s m) (hp : PR s q) (hq : q.size ≤ 100000000) (ha : a.op = 5) (hn : a.name.size ≤ 140737488351232) (ht : a.text.size ≤ 140737488351232) (hx : G x = some (.cells [.gptr b 0])) (hy : G y = some (.cells [.str a.name, .str a.text, .int .i64 a.num, .int .u64 a.ticks])) :
    CallOk Tryz.prog TT 86 [.gptr x 0, .gptr y 0] G (fun v G' => v = .int .i64 (growS s a) ∧ G' = G) := by
  have hg := Pfgrows_ok G b m.f _ s.f a.name a.text hn ht h.f.1
  have e : growS s a = fgrow s.f a.name a.text := by unfold growS; simp [ha]
  rw [e]
  refine call_sem tt_ok Tryz.func86 rfl (by kernel_rfl) Tryz.ntmps86 Tryz.results86 ?_; conv => whnf
  repeat' (first | ((first | refine Sem.st tt_ok rfl ?_ | refine BS_t (by assumption) ?_ | refine BS_f (by assumption) ?_ | refine atG (by repeat (first | assumption | exact setG_same _ _ _ | refine atNe (by first | assumption | exact Ne.symm (by assumption)) ?_)) ?_ | refine nthKi (by assumption) ?_ | refine ⟨_, ⟨(by omega), (by assumption)⟩, ?_⟩ | refine And.intro (by first | decide | omega) ?_); conv => whnf) | refine Sem.seqS ?_ | refine Sem.block ?_)
  refine draw_sound (eff := []) tt_ok (by kernel_rfl) (by kernel_rfl) ?_; conv => whnf
  repeat' (first | ((first | refine BS_t (by assumption) ?_ | refine BS_f (by assumption) ?_ | refine atG (by repeat (first | assumption | exact setG_same _ _ _ | refine atNe (by first | assumption | exact Ne.symm (by assumption)) ?_)) ?_ | refine nthKi (by assumption) ?_ | refine ⟨_, ⟨(by omega), (by assumption)⟩, ?_⟩ | refine And.intro (by first | decide | omega) ?_); conv => whnf) | fail)
  refine ⟨_, _, hg, ?_⟩; (conv => whnf); refine And.intro rfl ?_; conv => whnf
  repeat' (first | ((first | refine BS_t (by assumption) ?_ | refine BS_f (by assumption) ?_ | refine atG (by repeat (first | assumption | exact setG_same _ _ _ | refine atNe (by first | assumption | exact Ne.symm (by assumption)) ?_)) ?_ | refine nthKi (by assumption) ?_ | refine ⟨_, ⟨(by omega), (by assumption)⟩, ?_⟩ | refine And.intro (by first | decide | omega) ?_); conv => whnf) | fail)
  repeat' (first | ((first | refine Sem.st tt_ok rfl ?_ | refine BS_t (by assumption) ?_ | refine BS_f (by assumption) ?_ | refine atG (by repeat (first | assumption | exact setG_same _ _ _ | refine atNe (by first | assumption | exact Ne.symm (by assumption)) ?_)) ?_ | refine nthKi (by assumption) ?_ | refine ⟨_, ⟨(by omega), (by assumption)⟩, ?_⟩ | refine And.intro (by first | decide | omega) ?_); conv => whnf) | refine Sem.seqS ?_ | refine Sem.block ?_)
  exact ⟨_, fun _ _ h => h, rfl, rfl⟩
theorem gtake_ok {G : Glob} {b x y : Nat} {s : PS} {m : MV} {q : PQ} {a : St31} (h : PtG G b s m) (hp : PR s q) (hq : q.size ≤ 100000000) (ha : a.op = 7) (hn : a.name.size ≤ 140737488351232) (ht : a.text.size ≤ 140737488351232) (hx : G x = some (.cells [.gptr b 0])) (hy : G y = some (.cells [.str a.name, .str a.text, .int .i64 a.num, .int .u64 a.ticks])) :
    CallOk Tryz.prog TT 53 [.gptr x 0, .gptr y 0] G (fun v G' => v = .int .i64 (growS s a) ∧ G' = G) := by
  have hg := Plgrows_ok G b m.l _ s.l a.name a.text hn ht h.stL
  have e : growS s a = lgrow s.l a.name a.text := by unfold growS; simp [ha]
  rw [e]
  refine call_sem tt_ok Tryz.func53 rfl (by kernel_rfl) Tryz.ntmps53 Tryz.results53 ?_; conv => whnf
  repeat' (first | ((first | refine Sem.st tt_ok rfl ?_ | refine BS_t (by assumption) ?_ | refine BS_f (by assumption) ?_ | refine atG (by repeat (first | assumption | exact setG_same _ _ _ | refine atNe (by first | assumption | exact Ne.symm (by assumption)) ?_)) ?_ | refine nthKi (by assumption) ?_ | refine ⟨_, ⟨(by omega), (by assumption)⟩, ?_⟩ | refine And.intro (by first | decide | omega) ?_); conv => whnf) | refine Sem.seqS ?_ | refine Sem.block ?_)
  refine draw_sound (eff := []) tt_ok (by kernel_rfl) (by kernel_rfl) ?_; conv => whnf
  repeat' (first | ((first | refine BS_t (by assumption) ?_ | refine BS_f (by assumption) ?_ | refine atG (by repeat (first | assumption | exact setG_same _ _ _ | refine atNe (by first | assumption | exact Ne.symm (by assumption)) ?_)) ?_ | refine nthKi (by assumption) ?_ | refine ⟨_, ⟨(by omega), (by assumption)⟩, ?_⟩ | refine And.intro (by first | decide | omega) ?_); conv => whnf) | fail)
  refine ⟨_, _, hg, ?_⟩; (conv => whnf); refine And.intro rfl ?_; conv => whnf
  repeat' (first | ((first | refine BS_t (by assumption) ?_ | refine BS_f (by assumption) ?_ | refine atG (by repeat (first | assumption | exact setG_same _ _ _ | refine atNe (by first | assumption | exact Ne.symm (by assumption)) ?_)) ?_ | refine nthKi (by assumption) ?_ | refine ⟨_, ⟨(by omega), (by assumption)⟩, ?_⟩ | refine And.intro (by first | decide | omega) ?_); conv => whnf) | fail)
  repeat' (first | ((first | refine Sem.st tt_ok rfl ?_ | refine BS_t (by assumption) ?_ | refine BS_f (by assumption) ?_ | refine atG (by repeat (first | assumption | exact setG_same _ _ _ | refine atNe (by first | assumption | exact Ne.symm (by assumption)) ?_)) ?_ | refine nthKi (by assumption) ?_ | refine ⟨_, ⟨(by omega), (by assumption)⟩, ?_⟩ | refine And.intro (by first | decide | omega) ?_); conv => whnf) | refine Sem.seqS ?_ | refine Sem.block ?_)
  exact ⟨_, fun _ _ h => h, rfl, rfl⟩
theorem gnone_ok (G : Glob) : CallOk Tryz.prog TT 57 [] G (fun v G' => v = .int .i64 0 ∧ G' = G) := by
  refine call_sem tt_ok Tryz.func57 rfl (by kernel_rfl) Tryz.ntmps57 Tryz.results57 ?_; conv => whnf
  repeat' (first | ((first | refine Sem.st tt_ok rfl ?_ | refine BS_t (by assumption) ?_ | refine BS_f (by assumption) ?_ | refine atG (by repeat (first | assumption | exact setG_same _ _ _ | refine atNe (by first | assumption | exact Ne.symm (by assumption)) ?_)) ?_ | refine nthKi (by assumption) ?_ | refine ⟨_, ⟨(by omega), (by assumption)⟩, ?_⟩ | refine And.intro (by first | decide | omega) ?_); conv => whnf) | refine Sem.seqS ?_ | refine Sem.block ?_)
  exact ⟨_, fun _ _ h => h, rfl, rfl⟩
theorem dget_ok {G : Glob} {b x y : Nat} {s : PS} {m : MV} {q : PQ} {a : St31} (h : PtG G b s m) (hp : PR s q) (hq : q.size ≤ 100000000) (ha : a.op = 1) (hn : a.name.size ≤ 140737488351232) (ht : a.text.size ≤ 140737488351232) (hx : G x = some (.cells [.gptr b 0])) (hy : G y = some (.cells [.str a.name, .str a.text, .int .i64 a.num, .int .u64 a.ticks])) :
    CallOk Tryz.prog TT 79 [.gptr x 0, .gptr y 0] G (fun v G' => v = (applyQ q a).2.av ∧ PtX G' b (applyQ q a).1 ∧ PinK G G') := by
  have e : applyQ q a = (q, match lget q.kv a.name with | some v => ⟨v, true, 0⟩ | none => noRes) := by unfold applyQ; rw [if_pos ha] <;> rfl
  rw [e]
  have hg := Pkget_ok G b m.k _ s.k a.name h.stK
  unfold kget at hg
  rw [hp.k.get] at hg
  cases hl : lget q.kv a.name with
  | some v =>
    simp only [hl] at hg
    refine call_sem tt_ok Tryz.func79 rfl (by kernel_rfl) Tryz.ntmps79 Tryz.results79 ?_; conv => whnf
    repeat' (first | ((first | refine Sem.st tt_ok rfl ?_ | refine BS_t (by assumption) ?_ | refine BS_f (by assumption) ?_ | refine atG (by repeat (first | assumption | exact setG_same _ _ _ | refine atNe (by first | assumption | exact Ne.symm (by assumption)) ?_)) ?_ | refine nthKi (by assumption) ?_ | refine ⟨_, ⟨(by omega), (by assumption)⟩, ?_⟩ | refine And.intro (by first | decide | omega) ?_); conv => whnf) | refine Sem.seqS ?_ | refine Sem.block ?_)
    refine draw_sound (eff := []) tt_ok (by kernel_rfl) (by kernel_rfl) ?_; conv => whnf
    repeat' (first | ((first | refine BS_t (by assumption) ?_ | refine BS_f (by assumption) ?_ | refine atG (by repeat (first | assumption | exact setG_same _ _ _ | refine atNe (by first | assumption | exact Ne.symm (by assumption)) ?_)) ?_ | refine nthKi (by assumption) ?_ | refine ⟨_, ⟨(by omega), (by assumption)⟩, ?_⟩ | refine And.intro (by first | decide | omega) ?_); conv => whnf) | fail)
    refine ⟨_, _, hg, ?_⟩; (conv => whnf); refine And.intro rfl ?_; conv => whnf
    repeat' (first | ((first | refine BS_t (by assumption) ?_ | refine BS_f (by assumption) ?_ | refine atG (by repeat (first | assumption | exact setG_same _ _ _ | refine atNe (by first | assumption | exact Ne.symm (by assumption)) ?_)) ?_ | refine nthKi (by assumption) ?_ | refine ⟨_, ⟨(by omega), (by assumption)⟩, ?_⟩ | refine And.intro (by first | decide | omega) ?_); conv => whnf) | fail)
    repeat' (first | ((first | refine Sem.st tt_ok rfl ?_ | refine BS_t (by assumption) ?_ | refine BS_f (by assumption) ?_ | refine atG (by repeat (first | assumption | exact setG_same _ _ _ | refine atNe (by first | assumption | exact Ne.symm (by assumption)) ?_)) ?_ | refine nthKi (by assumption) ?_ | refine ⟨_, ⟨(by omega), (by assumption)⟩, ?_⟩ | refine And.intro (by first | decide | omega) ?_); conv => whnf) | refine Sem.seqS ?_ | refine Sem.block ?_)
    exact ⟨_, fun _ _ h => h, rfl, ⟨s, m, h, hp⟩, PinK.refl _⟩
  | none =>
    simp only [hl] at hg
    refine call_sem tt_ok Tryz.func79 rfl (by kernel_rfl) Tryz.ntmps79 Tryz.results79 ?_; conv => whnf
    repeat' (first | ((first | refine Sem.st tt_ok rfl ?_ | refine BS_t (by assumption) ?_ | refine BS_f (by assumption) ?_ | refine atG (by repeat (first | assumption | exact setG_same _ _ _ | refine atNe (by first | assumption | exact Ne.symm (by assumption)) ?_)) ?_ | refine nthKi (by assumption) ?_ | refine ⟨_, ⟨(by omega), (by assumption)⟩, ?_⟩ | refine And.intro (by first | decide | omega) ?_); conv => whnf) | refine Sem.seqS ?_ | refine Sem.block ?_)
    refine draw_sound (eff := []) tt_ok (by kernel_rfl) (by kernel_rfl) ?_; conv => whnf
    repeat' (first | ((first | refine BS_t (by assumption) ?_ | refine BS_f (by assumption) ?_ | refine atG (by repeat (first | assumption | exact setG_same _ _ _ | refine atNe (by first | assumption | exact Ne.symm (by assumption)) ?_)) ?_ | refine nthKi (by assumption) ?_ | refine ⟨_, ⟨(by omega), (by assumption)⟩, ?_⟩ | refine And.intro (by first | decide | omega) ?_); conv => whnf) | fail)
    refine ⟨_, _, hg, ?_⟩; (conv => whnf); refine And.intro rfl ?_; conv => whnf
    repeat' (first | ((first | refine BS_t (by assumption) ?_ | refine BS_f (by assumption) ?_ | refine atG (by repeat (first | assumption | exact setG_same _ _ _ | refine atNe (by first | assumption | exact Ne.symm (by assumption)) ?_)) ?_ | refine nthKi (by assumption) ?_ | refine ⟨_, ⟨(by omega), (by assumption)⟩, ?_⟩ | refine And.intro (by first | decide | omega) ?_); conv => whnf) | fail)
    repeat' (first | ((first | refine Sem.st tt_ok rfl ?_ | refine BS_t (by assumption) ?_ | refine BS_f (by assumption) ?_ | refine atG (by repeat (first | assumption | exact setG_same _ _ _ | refine atNe (by first | assumption | exact Ne.symm (by assumption)) ?_)) ?_ | refine nthKi (by assumption) ?_ | refine ⟨_, ⟨(by omega), (by assumption)⟩, ?_⟩ | refine And.intro (by first | decide | omega) ?_); conv => whnf) | refine Sem.seqS ?_ | refine Sem.block ?_)
    exact ⟨_, fun _ _ h => h, rfl, ⟨s, m, h, hp⟩, PinK.refl _⟩
theorem dput_ok {G : Glob} {b x y : Nat} {s : PS} {m : MV} {q : PQ} {a : St31} (h : PtG G b s m) (hp : PR s q) (hq : q.size ≤ 100000000) (ha : a.op = 2) (hn : a.name.size ≤ 140737488351232) (ht : a.text.size ≤ 140737488351232) (hx : G x = some (.cells [.gptr b 0])) (hy : G y = some (.cells [.str a.name, .str a.text, .int .i64 a.num, .int .u64 a.ticks])) :
    CallOk Tryz.prog TT 82 [.gptr x 0, .gptr y 0] G (fun v G' => v = (applyQ q a).2.av ∧ PtX G' b (applyQ q a).1 ∧ PinK G G') := by
  have e : applyQ q a = (⟨putK a.name a.text q.kv false, q.cn, q.qu, q.le⟩, noRes) := by unfold applyQ; rw [if_neg (by omega), if_pos ha] <;> rfl
  rw [e]
  have hb := hp.bounds hq
  have hc := Pkput_ok G b m.k _ s.k a.name a.text hn ht (fun w hw => by have := kv_small hp hq hw; omega) (by omega) (by omega) h.stK
  rw [← sizeR_lput a.name a.text s.k] at hc
  refine call_sem tt_ok Tryz.func82 rfl (by kernel_rfl) Tryz.ntmps82 Tryz.results82 ?_; conv => whnf
  repeat' (first | ((first | refine Sem.st tt_ok rfl ?_ | refine BS_t (by assumption) ?_ | refine BS_f (by assumption) ?_ | refine atG (by repeat (first | assumption | exact setG_same _ _ _ | refine atNe (by first | assumption | exact Ne.symm (by assumption)) ?_)) ?_ | refine nthKi (by assumption) ?_ | refine ⟨_, ⟨(by omega), (by assumption)⟩, ?_⟩ | refine And.intro (by first | decide | omega) ?_); conv => whnf) | refine Sem.seqS ?_ | refine Sem.block ?_)
  refine draw_lasts 7 (eff := []) tt_ok (by kernel_rfl) (by kernel_rfl) (by kernel_rfl) ?_
  conv => whnf
  repeat' (first | ((first | refine BS_t (by assumption) ?_ | refine BS_f (by assumption) ?_ | refine atG (by repeat (first | assumption | exact setG_same _ _ _ | refine atNe (by first | assumption | exact Ne.symm (by assumption)) ?_)) ?_ | refine nthKi (by assumption) ?_ | refine ⟨_, ⟨(by omega), (by assumption)⟩, ?_⟩ | refine And.intro (by first | decide | omega) ?_); conv => whnf) | fail)
  refine (hc).mono fun v G1 hv => ?_; obtain ⟨rfl, mv1, h1, h2⟩ := hv; conv => whnf
  repeat' (first | ((first | refine BS_t (by assumption) ?_ | refine BS_f (by assumption) ?_ | refine atG (by repeat (first | assumption | exact setG_same _ _ _ | refine atNe (by first | assumption | exact Ne.symm (by assumption)) ?_)) ?_ | refine nthKi (by assumption) ?_ | refine ⟨_, ⟨(by omega), (by assumption)⟩, ?_⟩ | refine And.intro (by first | decide | omega) ?_); conv => whnf) | fail)
  repeat' (first | ((first | refine Sem.st tt_ok rfl ?_ | refine BS_t (by assumption) ?_ | refine BS_f (by assumption) ?_ | refine atG (by repeat (first | assumption | exact setG_same _ _ _ | refine atNe (by first | assumption | exact Ne.symm (by assumption)) ?_)) ?_ | refine nthKi (by assumption) ?_ | refine ⟨_, ⟨(by omega), (by assumption)⟩, ?_⟩ | refine And.intro (by first | decide | omega) ?_); conv => whnf) | refine Sem.seqS ?_ | refine Sem.block ?_)
  exact ⟨_, fun _ _ h => h, rfl, ⟨_, _, (h.toK h1 h2).1, ⟨hp.k.put _ _, hp.c, hp.f, hp.l, hp.t⟩⟩, (h.toK h1 h2).2⟩
theorem ddel_ok {G : Glob} {b x y : Nat} {s : PS} {m : MV} {q : PQ} {a : St31} (h : PtG G b s m) (hp : PR s q) (hq : q.size ≤ 100000000) (ha : a.op = 3) (hn : a.name.size ≤ 140737488351232) (ht : a.text.size ≤ 140737488351232) (hx : G x = some (.cells [.gptr b 0])) (hy : G y = some (.cells [.str a.name, .str a.text, .int .i64 a.num, .int .u64 a.ticks])) :
    CallOk Tryz.prog TT 84 [.gptr x 0, .gptr y 0] G (fun v G' => v = (applyQ q a).2.av ∧ PtX G' b (applyQ q a).1 ∧ PinK G G') := by
  have e : applyQ q a = (⟨delR q.kv a.name, q.cn, q.qu, q.le⟩, ⟨⟨#[]⟩, (lget q.kv a.name).isSome, 0⟩) := by unfold applyQ; rw [if_neg (by omega), if_neg (by omega), if_pos ha] <;> rfl
  rw [e]
  have hb := hp.bounds hq
  have hd := KInv.del hp.k a.name
  cases hl : lget s.k a.name with
  | none =>
    have hg := Pkdel_none G b m.k _ s.k a.name h.stK hl
    have e2 : delR q.kv a.name = q.kv := by
      rw [hp.k.get] at hl
      unfold delR
      rw [List.filter_eq_self]
      intro x hx
      have := lget_none hl x hx
      simpa using this
    rw [← hp.k.get, hl, e2]
    refine call_sem tt_ok Tryz.func84 rfl (by kernel_rfl) Tryz.ntmps84 Tryz.results84 ?_; conv => whnf
    repeat' (first | ((first | refine Sem.st tt_ok rfl ?_ | refine BS_t (by assumption) ?_ | refine BS_f (by assumption) ?_ | refine atG (by repeat (first | assumption | exact setG_same _ _ _ | refine atNe (by first | assumption | exact Ne.symm (by assumption)) ?_)) ?_ | refine nthKi (by assumption) ?_ | refine ⟨_, ⟨(by omega), (by assumption)⟩, ?_⟩ | refine And.intro (by first | decide | omega) ?_); conv => whnf) | refine Sem.seqS ?_ | refine Sem.block ?_)
    refine draw_sound (eff := []) tt_ok (by kernel_rfl) (by kernel_rfl) ?_; conv => whnf
    repeat' (first | ((first | refine BS_t (by assumption) ?_ | refine BS_f (by assumption) ?_ | refine atG (by repeat (first | assumption | exact setG_same _ _ _ | refine atNe (by first | assumption | exact Ne.symm (by assumption)) ?_)) ?_ | refine nthKi (by assumption) ?_ | refine ⟨_, ⟨(by omega), (by assumption)⟩, ?_⟩ | refine And.intro (by first | decide | omega) ?_); conv => whnf) | fail)
    refine ⟨_, _, hg, ?_⟩; (conv => whnf); refine And.intro rfl ?_; conv => whnf
    repeat' (first | ((first | refine BS_t (by assumption) ?_ | refine BS_f (by assumption) ?_ | refine atG (by repeat (first | assumption | exact setG_same _ _ _ | refine atNe (by first | assumption | exact Ne.symm (by assumption)) ?_)) ?_ | refine nthKi (by assumption) ?_ | refine ⟨_, ⟨(by omega), (by assumption)⟩, ?_⟩ | refine And.intro (by first | decide | omega) ?_); conv => whnf) | fail)
    repeat' (first | ((first | refine Sem.st tt_ok rfl ?_ | refine BS_t (by assumption) ?_ | refine BS_f (by assumption) ?_ | refine atG (by repeat (first | assumption | exact setG_same _ _ _ | refine atNe (by first | assumption | exact Ne.symm (by assumption)) ?_)) ?_ | refine nthKi (by assumption) ?_ | refine ⟨_, ⟨(by omega), (by assumption)⟩, ?_⟩ | refine And.intro (by first | decide | omega) ?_); conv => whnf) | refine Sem.seqS ?_ | refine Sem.block ?_)
    exact ⟨_, fun _ _ h => h, rfl, ⟨s, m, h, hp⟩, PinK.refl _⟩
  | some w =>
    have hw := kv_small hp hq hl
    have hc := Pkdel_ok G b m.k _ s.k a.name w hn (by omega) (by omega) (by omega) h.stK hl
    have h2 := sizeR_ldel a.name hl
    rw [show ((sizeR s.k : Nat) : Int) - (16 + a.name.size + w.size) = (sizeR (ldel s.k a.name) : Nat) by omega] at hc
    rw [← hp.k.get, hl]
    refine call_sem tt_ok Tryz.func84 rfl (by kernel_rfl) Tryz.ntmps84 Tryz.results84 ?_; conv => whnf
    repeat' (first | ((first | refine Sem.st tt_ok rfl ?_ | refine BS_t (by assumption) ?_ | refine BS_f (by assumption) ?_ | refine atG (by repeat (first | assumption | exact setG_same _ _ _ | refine atNe (by first | assumption | exact Ne.symm (by assumption)) ?_)) ?_ | refine nthKi (by assumption) ?_ | refine ⟨_, ⟨(by omega), (by assumption)⟩, ?_⟩ | refine And.intro (by first | decide | omega) ?_); conv => whnf) | refine Sem.seqS ?_ | refine Sem.block ?_)
    refine draw_lasts 5 (eff := []) tt_ok (by kernel_rfl) (by kernel_rfl) (by kernel_rfl) ?_
    conv => whnf
    repeat' (first | ((first | refine BS_t (by assumption) ?_ | refine BS_f (by assumption) ?_ | refine atG (by repeat (first | assumption | exact setG_same _ _ _ | refine atNe (by first | assumption | exact Ne.symm (by assumption)) ?_)) ?_ | refine nthKi (by assumption) ?_ | refine ⟨_, ⟨(by omega), (by assumption)⟩, ?_⟩ | refine And.intro (by first | decide | omega) ?_); conv => whnf) | fail)
    refine (hc).mono fun v G1 hv => ?_; obtain ⟨rfl, h1, h2⟩ := hv; conv => whnf
    repeat' (first | ((first | refine BS_t (by assumption) ?_ | refine BS_f (by assumption) ?_ | refine atG (by repeat (first | assumption | exact setG_same _ _ _ | refine atNe (by first | assumption | exact Ne.symm (by assumption)) ?_)) ?_ | refine nthKi (by assumption) ?_ | refine ⟨_, ⟨(by omega), (by assumption)⟩, ?_⟩ | refine And.intro (by first | decide | omega) ?_); conv => whnf) | fail)
    repeat' (first | ((first | refine Sem.st tt_ok rfl ?_ | refine BS_t (by assumption) ?_ | refine BS_f (by assumption) ?_ | refine atG (by repeat (first | assumption | exact setG_same _ _ _ | refine atNe (by first | assumption | exact Ne.symm (by assumption)) ?_)) ?_ | refine nthKi (by assumption) ?_ | refine ⟨_, ⟨(by omega), (by assumption)⟩, ?_⟩ | refine And.intro (by first | decide | omega) ?_); conv => whnf) | refine Sem.seqS ?_ | refine Sem.block ?_)
    exact ⟨_, fun _ _ h => h, rfl, ⟨_, _, (h.toK h1 h2).1, ⟨hd, hp.c, hp.f, hp.l, hp.t⟩⟩, (h.toK h1 h2).2⟩
theorem daddP_ok {G : Glob} {b x y : Nat} {s : PS} {m : MV} {q : PQ} {a : St31} (h : PtG G b s m) (hp : PR s q) (hq : q.size ≤ 100000000) (ha : a.op = 4) (hn : a.name.size ≤ 140737488351232) (ht : a.text.size ≤ 140737488351232) (hx : G x = some (.cells [.gptr b 0])) (hy : G y = some (.cells [.str a.name, .str a.text, .int .i64 a.num, .int .u64 a.ticks])) :
    CallOk Tryz.prog TT 51 [.gptr x 0, .gptr y 0] G (fun v G' => v = (applyQ q a).2.av ∧ PtX G' b (applyQ q a).1 ∧ PinK G G') := by
  have e : applyQ q a = (⟨q.kv, q.cn ++ [⟨a.name, a.num⟩], q.qu, q.le⟩, ⟨⟨#[]⟩, false, IntKind.i64.wrap (sumN (q.cn ++ [⟨a.name, a.num⟩]) a.name)⟩) := by unfold applyQ; rw [if_neg (by omega), if_neg (by omega), if_neg (by omega), if_pos ha] <;> rfl
  rw [e]
  have hb := hp.bounds hq
  have hc := Pcadd_ok _ G b m.c _ s.c a.name a.num hn (by omega) (by omega) h.stC
  have hI := hp.c.add ⟨a.name, a.num⟩
  have hv := hI.val a.name
  have e3 : cval (addA s.c ⟨a.name, a.num⟩) a.name = IntKind.i64.wrap (cval s.c a.name + a.num) := by unfold cval addA; rw [lget_put_same]; rfl
  rw [e3] at hv
  have ht2 := totC_put a.name (IntKind.i64.wrap (cval s.c a.name + a.num)) s.c
  rw [← ht2, hv] at hc
  unfold addA at hI
  simp only at hI
  rw [hv] at hI
  refine call_sem tt_ok Tryz.func51 rfl (by kernel_rfl) Tryz.ntmps51 Tryz.results51 ?_; conv => whnf
  repeat' (first | ((first | refine Sem.st tt_ok rfl ?_ | refine BS_t (by assumption) ?_ | refine BS_f (by assumption) ?_ | refine atG (by repeat (first | assumption | exact setG_same _ _ _ | refine atNe (by first | assumption | exact Ne.symm (by assumption)) ?_)) ?_ | refine nthKi (by assumption) ?_ | refine ⟨_, ⟨(by omega), (by assumption)⟩, ?_⟩ | refine And.intro (by first | decide | omega) ?_); conv => whnf) | refine Sem.seqS ?_ | refine Sem.block ?_)
  refine draw_lasts 7 (eff := []) tt_ok (by kernel_rfl) (by kernel_rfl) (by kernel_rfl) ?_
  conv => whnf
  repeat' (first | ((first | refine BS_t (by assumption) ?_ | refine BS_f (by assumption) ?_ | refine atG (by repeat (first | assumption | exact setG_same _ _ _ | refine atNe (by first | assumption | exact Ne.symm (by assumption)) ?_)) ?_ | refine nthKi (by assumption) ?_ | refine ⟨_, ⟨(by omega), (by assumption)⟩, ?_⟩ | refine And.intro (by first | decide | omega) ?_); conv => whnf) | fail)
  refine (hc).mono fun v G1 hv => ?_; obtain ⟨rfl, mv1, h1, h2⟩ := hv; conv => whnf
  repeat' (first | ((first | refine BS_t (by assumption) ?_ | refine BS_f (by assumption) ?_ | refine atG (by repeat (first | assumption | exact setG_same _ _ _ | refine atNe (by first | assumption | exact Ne.symm (by assumption)) ?_)) ?_ | refine nthKi (by assumption) ?_ | refine ⟨_, ⟨(by omega), (by assumption)⟩, ?_⟩ | refine And.intro (by first | decide | omega) ?_); conv => whnf) | fail)
  repeat' (first | ((first | refine Sem.st tt_ok rfl ?_ | refine BS_t (by assumption) ?_ | refine BS_f (by assumption) ?_ | refine atG (by repeat (first | assumption | exact setG_same _ _ _ | refine atNe (by first | assumption | exact Ne.symm (by assumption)) ?_)) ?_ | refine nthKi (by assumption) ?_ | refine ⟨_, ⟨(by omega), (by assumption)⟩, ?_⟩ | refine And.intro (by first | decide | omega) ?_); conv => whnf) | refine Sem.seqS ?_ | refine Sem.block ?_)
  exact ⟨_, fun _ _ h => h, rfl, ⟨_, _, (h.toC h1 h2).1, ⟨hp.k, hI, hp.f, hp.l, hp.t⟩⟩, (h.toC h1 h2).2⟩
theorem dpush_ok {G : Glob} {b x y : Nat} {s : PS} {m : MV} {q : PQ} {a : St31} (h : PtG G b s m) (hp : PR s q) (hq : q.size ≤ 100000000) (ha : a.op = 5) (hn : a.name.size ≤ 140737488351232) (ht : a.text.size ≤ 140737488351232) (hx : G x = some (.cells [.gptr b 0])) (hy : G y = some (.cells [.str a.name, .str a.text, .int .i64 a.num, .int .u64 a.ticks])) :
    CallOk Tryz.prog TT 88 [.gptr x 0, .gptr y 0] G (fun v G' => v = (applyQ q a).2.av ∧ PtX G' b (applyQ q a).1 ∧ PinK G G') := by
  have e : applyQ q a = (⟨q.kv, q.cn, q.qu ++ [(a.name, a.text)], q.le⟩, noRes) := by unfold applyQ; rw [if_neg (by omega), if_neg (by omega), if_neg (by omega), if_neg (by omega), if_pos ha] <;> rfl
  rw [e]
  have hb := hp.bounds hq
  have hlen : (fT s.f a.name).length ≤ totF s.f := by
    unfold fT
    cases hl : lget s.f a.name with
    | none => simp
    | some y =>
      have h1 := sum_mem qT (lget_mem hl)
      have h2 := sum_len (fun z : Nat × ByteArray => 16 + z.2.size) (fun z => by omega) y.2
      have e : totF s.f = (s.f.map qT).sum := rfl
      simp only [List.length_map]
      unfold qT at h1
      simp only at h1
      unfold qT at e
      omega
  have hc := Pfpush_T G b m.f s.f a.name a.text hn ht (by omega) h.f (by omega)
  refine call_sem tt_ok Tryz.func88 rfl (by kernel_rfl) Tryz.ntmps88 Tryz.results88 ?_; conv => whnf
  repeat' (first | ((first | refine Sem.st tt_ok rfl ?_ | refine BS_t (by assumption) ?_ | refine BS_f (by assumption) ?_ | refine atG (by repeat (first | assumption | exact setG_same _ _ _ | refine atNe (by first | assumption | exact Ne.symm (by assumption)) ?_)) ?_ | refine nthKi (by assumption) ?_ | refine ⟨_, ⟨(by omega), (by assumption)⟩, ?_⟩ | refine And.intro (by first | decide | omega) ?_); conv => whnf) | refine Sem.seqS ?_ | refine Sem.block ?_)
  refine draw_lasts 7 (eff := []) tt_ok (by kernel_rfl) (by kernel_rfl) (by kernel_rfl) ?_
  conv => whnf
  repeat' (first | ((first | refine BS_t (by assumption) ?_ | refine BS_f (by assumption) ?_ | refine atG (by repeat (first | assumption | exact setG_same _ _ _ | refine atNe (by first | assumption | exact Ne.symm (by assumption)) ?_)) ?_ | refine nthKi (by assumption) ?_ | refine ⟨_, ⟨(by omega), (by assumption)⟩, ?_⟩ | refine And.intro (by first | decide | omega) ?_); conv => whnf) | fail)
  refine (hc).mono fun v G1 hv => ?_; obtain ⟨rfl, mv1, f', h0, h1, h2, h3, h4, h5, h6, h7⟩ := hv; conv => whnf
  repeat' (first | ((first | refine BS_t (by assumption) ?_ | refine BS_f (by assumption) ?_ | refine atG (by repeat (first | assumption | exact setG_same _ _ _ | refine atNe (by first | assumption | exact Ne.symm (by assumption)) ?_)) ?_ | refine nthKi (by assumption) ?_ | refine ⟨_, ⟨(by omega), (by assumption)⟩, ?_⟩ | refine And.intro (by first | decide | omega) ?_); conv => whnf) | fail)
  repeat' (first | ((first | refine Sem.st tt_ok rfl ?_ | refine BS_t (by assumption) ?_ | refine BS_f (by assumption) ?_ | refine atG (by repeat (first | assumption | exact setG_same _ _ _ | refine atNe (by first | assumption | exact Ne.symm (by assumption)) ?_)) ?_ | refine nthKi (by assumption) ?_ | refine ⟨_, ⟨(by omega), (by assumption)⟩, ?_⟩ | refine And.intro (by first | decide | omega) ?_); conv => whnf) | refine Sem.seqS ?_ | refine Sem.block ?_)
  exact ⟨_, fun _ _ h => h, rfl, ⟨_, _, (h.toF h2 h0 h1).1, ⟨hp.k, hp.c, hp.f.push h2.2.1 (fun e he => (h2.2.2.1 e he).1) h3 h4, hp.l, hp.t⟩⟩, (h.toF h2 h0 h1).2⟩
theorem dpop_ok {G : Glob} {b x y : Nat} {s : PS} {m : MV} {q : PQ} {a : St31} (h : PtG G b s m) (hp : PR s q) (hq : q.size ≤ 100000000) (ha : a.op = 6) (hn : a.name.size ≤ 140737488351232) (ht : a.text.size ≤ 140737488351232) (hx : G x = some (.cells [.gptr b 0])) (hy : G y = some (.cells [.str a.name, .str a.text, .int .i64 a.num, .int .u64 a.ticks])) :
    CallOk Tryz.prog TT 90 [.gptr x 0, .gptr y 0] G (fun v G' => v = (applyQ q a).2.av ∧ PtX G' b (applyQ q a).1 ∧ PinK G G') := by
  have e : applyQ q a = (match popAt q.qu a.name with | some (r, t) => (⟨q.kv, q.cn, r, q.le⟩, ⟨t, true, 0⟩) | none => (q, noRes)) := by unfold applyQ; rw [if_neg (by omega), if_neg (by omega), if_neg (by omega), if_neg (by omega), if_neg (by omega), if_pos ha] <;> rfl
  rw [e]
  have hb := hp.bounds hq
  have htx := hp.f.tx a.name
  cases hl : popAt q.qu a.name with
  | none =>
    rw [popAt_nil hl] at htx
    have hg := Pfpop_T0 G b m.f s.f a.name h.f htx
    simp only
    refine call_sem tt_ok Tryz.func90 rfl (by kernel_rfl) Tryz.ntmps90 Tryz.results90 ?_; conv => whnf
    repeat' (first | ((first | refine Sem.st tt_ok rfl ?_ | refine BS_t (by assumption) ?_ | refine BS_f (by assumption) ?_ | refine atG (by repeat (first | assumption | exact setG_same _ _ _ | refine atNe (by first | assumption | exact Ne.symm (by assumption)) ?_)) ?_ | refine nthKi (by assumption) ?_ | refine ⟨_, ⟨(by omega), (by assumption)⟩, ?_⟩ | refine And.intro (by first | decide | omega) ?_); conv => whnf) | refine Sem.seqS ?_ | refine Sem.block ?_)
    refine draw_sound (eff := []) tt_ok (by kernel_rfl) (by kernel_rfl) ?_; conv => whnf
    repeat' (first | ((first | refine BS_t (by assumption) ?_ | refine BS_f (by assumption) ?_ | refine atG (by repeat (first | assumption | exact setG_same _ _ _ | refine atNe (by first | assumption | exact Ne.symm (by assumption)) ?_)) ?_ | refine nthKi (by assumption) ?_ | refine ⟨_, ⟨(by omega), (by assumption)⟩, ?_⟩ | refine And.intro (by first | decide | omega) ?_); conv => whnf) | fail)
    refine ⟨_, _, hg, ?_⟩; (conv => whnf); refine And.intro rfl ?_; conv => whnf
    repeat' (first | ((first | refine BS_t (by assumption) ?_ | refine BS_f (by assumption) ?_ | refine atG (by repeat (first | assumption | exact setG_same _ _ _ | refine atNe (by first | assumption | exact Ne.symm (by assumption)) ?_)) ?_ | refine nthKi (by assumption) ?_ | refine ⟨_, ⟨(by omega), (by assumption)⟩, ?_⟩ | refine And.intro (by first | decide | omega) ?_); conv => whnf) | fail)
    repeat' (first | ((first | refine Sem.st tt_ok rfl ?_ | refine BS_t (by assumption) ?_ | refine BS_f (by assumption) ?_ | refine atG (by repeat (first | assumption | exact setG_same _ _ _ | refine atNe (by first | assumption | exact Ne.symm (by assumption)) ?_)) ?_ | refine nthKi (by assumption) ?_ | refine ⟨_, ⟨(by omega), (by assumption)⟩, ?_⟩ | refine And.intro (by first | decide | omega) ?_); conv => whnf) | refine Sem.seqS ?_ | refine Sem.block ?_)
    exact ⟨_, fun _ _ h => h, rfl, ⟨s, m, h, hp⟩, PinK.refl _⟩
  | some z =>
    obtain ⟨r, t⟩ := z
    obtain ⟨p1, p2, p3, p4, p5⟩ := popAt_spec hl
    rw [p1] at htx
    have hts : t.size ≤ 100000000 := by
      have h1 := sum_mem (fun x : ByteArray × ByteArray => 16 + x.2.size) p5
      have h2 : szA q.qu ≤ q.size := by unfold PQ.size sz28; omega
      have e : szA q.qu = (q.qu.map fun x : ByteArray × ByteArray => 16 + x.2.size).sum := rfl
      simp only at h1
      omega
    obtain ⟨G1, hc, f', h1, h2, h3, h4, h5, h6, h7⟩ := Pfpop_X G b m.f s.f a.name t _ hn (by omega) (by omega) h.f htx
    have hx1 : G1 x = some (.cells [.gptr b 0]) := h1 x _ hx (fun e => by rw [e, h.box] at hx; simp at hx) (fun e => by have := h.fm.some e; rw [hx] at this; cases this) fun u hu => by
      have hQ := (h.f.2.2.1 _ (lget_mem hu)).2.1
      refine ⟨fun e => ?_, fun e => ?_⟩
      · rcases que_box hQ (.inl rfl) with ⟨_, _, _, e2⟩ | ⟨_, _, e2⟩ <;> rw [← e, hx] at e2 <;> simp at e2
      · rcases que_box hQ (.inr e) with ⟨_, _, _, e2⟩ | ⟨_, _, e2⟩ <;> rw [hx] at e2 <;> simp at e2
    have hy1 : G1 y = some (.cells [.str a.name, .str a.text, .int .i64 a.num, .int .u64 a.ticks]) := h1 y _ hy (fun e => by rw [e, h.box] at hy; simp at hy) (fun e => by have := h.fm.some e; rw [hy] at this; cases this) fun u hu => by
      have hQ := (h.f.2.2.1 _ (lget_mem hu)).2.1
      refine ⟨fun e => ?_, fun e => ?_⟩
      · rcases que_box hQ (.inl rfl) with ⟨_, _, _, e2⟩ | ⟨_, _, e2⟩ <;> rw [← e, hy] at e2 <;> simp at e2
      · rcases que_box hQ (.inr e) with ⟨_, _, _, e2⟩ | ⟨_, _, e2⟩ <;> rw [hy] at e2 <;> simp at e2
    simp only
    refine call_sem tt_ok Tryz.func90 rfl (by kernel_rfl) Tryz.ntmps90 Tryz.results90 ?_; conv => whnf
    repeat' (first | ((first | refine Sem.st tt_ok rfl ?_ | refine BS_t (by assumption) ?_ | refine BS_f (by assumption) ?_ | refine atG (by repeat (first | assumption | exact setG_same _ _ _ | refine atNe (by first | assumption | exact Ne.symm (by assumption)) ?_)) ?_ | refine nthKi (by assumption) ?_ | refine ⟨_, ⟨(by omega), (by assumption)⟩, ?_⟩ | refine And.intro (by first | decide | omega) ?_); conv => whnf) | refine Sem.seqS ?_ | refine Sem.block ?_)
    refine draw_sound (eff := [5]) tt_ok (by kernel_rfl) (by kernel_rfl) ?_; conv => whnf
    repeat' (first | ((first | refine BS_t (by assumption) ?_ | refine BS_f (by assumption) ?_ | refine atG (by repeat (first | assumption | exact setG_same _ _ _ | refine atNe (by first | assumption | exact Ne.symm (by assumption)) ?_)) ?_ | refine nthKi (by assumption) ?_ | refine ⟨_, ⟨(by omega), (by assumption)⟩, ?_⟩ | refine And.intro (by first | decide | omega) ?_); conv => whnf) | fail)
    refine ⟨_, _, hc, ?_⟩
    conv => whnf
    repeat' (first | (refine And.intro ?_ ?_ <;> conv => whnf) | (refine atG hx1 ?_; conv => whnf) | (refine atG hy1 ?_; conv => whnf) | fail)
    repeat' (first | ((first | refine BS_t (by assumption) ?_ | refine BS_f (by assumption) ?_ | refine atG (by repeat (first | assumption | exact setG_same _ _ _ | refine atNe (by first | assumption | exact Ne.symm (by assumption)) ?_)) ?_ | refine nthKi (by assumption) ?_ | refine ⟨_, ⟨(by omega), (by assumption)⟩, ?_⟩ | refine And.intro (by first | decide | omega) ?_); conv => whnf) | fail)
    repeat' (first | ((first | refine Sem.st tt_ok rfl ?_ | refine BS_t (by assumption) ?_ | refine BS_f (by assumption) ?_ | refine atG (by repeat (first | assumption | exact setG_same _ _ _ | refine atNe (by first | assumption | exact Ne.symm (by assumption)) ?_)) ?_ | refine nthKi (by assumption) ?_ | refine ⟨_, ⟨(by omega), (by assumption)⟩, ?_⟩ | refine And.intro (by first | decide | omega) ?_); conv => whnf) | refine Sem.seqS ?_ | refine Sem.block ?_)
    exact ⟨_, fun _ _ h => h, rfl, ⟨_, _, (h.toF h2 (.inl rfl) h1).1, ⟨hp.k, hp.c, hp.f.pop hl h2.2.1 (fun e he => (h2.2.2.1 e he).1) h3 h4, hp.l, hp.t⟩⟩, (h.toF h2 (.inl rfl) h1).2⟩
theorem dtake_ok {G : Glob} {b x y z w : Nat} {s : PS} {m : MV} {q : PQ} {a : St31} (h : PtG G b s m) (hp : PR s q) (hq : q.size ≤ 100000000) (ha : a.op = 7) (hn : a.name.size ≤ 140737488351232) (ht : a.text.size ≤ 140737488351232) (hx : G x = some (.cells [.gptr b 0])) (hy : G y = some (.cells [.str a.name, .str a.text, .int .i64 a.num, .int .u64 a.ticks])) (hz : G z = some (.cells [.int .i64 (ticksOf a.ticks)])) (hw : G w = some (.cells [.int .i64 a.now])) :
    CallOk Tryz.prog TT 55 [.gptr x 0, .gptr y 0, .gptr z 0, .gptr w 0] G (fun v G' => v = (applyQ q a).2.av ∧ PtX G' b (applyQ q a).1 ∧ PinK G G') := by
  have e : applyQ q a = (match lget q.le a.name with
    | some (x, _) => if x = a.text then (⟨q.kv, q.cn, q.qu, putA a.name (a.text, tillOf (ticksOf a.ticks) a.now) q.le false⟩, ⟨⟨#[]⟩, true, 0⟩) else (q, noRes)
    | none => (⟨q.kv, q.cn, q.qu, putA a.name (a.text, tillOf (ticksOf a.ticks) a.now) q.le false⟩, ⟨⟨#[]⟩, true, 0⟩)) := by unfold applyQ; rw [if_neg (by omega), if_neg (by omega), if_neg (by omega), if_neg (by omega), if_neg (by omega), if_neg (by omega), if_pos ha] <;> rfl
  rw [e]
  have hb := hp.bounds hq
  have hgl := hp.l.get a.name
  have hT : ∀ x ∈ lput s.l a.name (a.text, tillOf (ticksOf a.ticks) a.now), 1 ≤ x.2.2 ∧ x.2.2 ≤ 1099512676352 := fun x hx => by
    rcases mem_lput s.l hp.l.nd hx with rfl | ⟨hx, _⟩
    · exact tillOf_in _ _
    · exact hp.t x hx
  cases hl : lget q.le a.name with
  | none =>
    rw [hl] at hgl
    have hc := PltakeS G b m.l s.l a.name a.text (ticksOf a.ticks) a.now hn ht (by omega) h.stL (fun x u hx => by rw [hgl] at hx; cases hx)
    simp only
    refine call_sem tt_ok Tryz.func55 rfl (by kernel_rfl) Tryz.ntmps55 Tryz.results55 ?_; conv => whnf
    repeat' (first | ((first | refine Sem.st tt_ok rfl ?_ | refine BS_t (by assumption) ?_ | refine BS_f (by assumption) ?_ | refine atG (by repeat (first | assumption | exact setG_same _ _ _ | refine atNe (by first | assumption | exact Ne.symm (by assumption)) ?_)) ?_ | refine nthKi (by assumption) ?_ | refine ⟨_, ⟨(by omega), (by assumption)⟩, ?_⟩ | refine And.intro (by first | decide | omega) ?_); conv => whnf) | refine Sem.seqS ?_ | refine Sem.block ?_)
    refine draw_lasts 9 (eff := []) tt_ok (by kernel_rfl) (by kernel_rfl) (by kernel_rfl) ?_
    conv => whnf
    repeat' (first | ((first | refine BS_t (by assumption) ?_ | refine BS_f (by assumption) ?_ | refine atG (by repeat (first | assumption | exact setG_same _ _ _ | refine atNe (by first | assumption | exact Ne.symm (by assumption)) ?_)) ?_ | refine nthKi (by assumption) ?_ | refine ⟨_, ⟨(by omega), (by assumption)⟩, ?_⟩ | refine And.intro (by first | decide | omega) ?_); conv => whnf) | fail)
    refine (hc).mono fun v G1 hv => ?_; obtain ⟨rfl, mv1, h1, h2⟩ := hv; conv => whnf
    repeat' (first | ((first | refine BS_t (by assumption) ?_ | refine BS_f (by assumption) ?_ | refine atG (by repeat (first | assumption | exact setG_same _ _ _ | refine atNe (by first | assumption | exact Ne.symm (by assumption)) ?_)) ?_ | refine nthKi (by assumption) ?_ | refine ⟨_, ⟨(by omega), (by assumption)⟩, ?_⟩ | refine And.intro (by first | decide | omega) ?_); conv => whnf) | fail)
    repeat' (first | ((first | refine Sem.st tt_ok rfl ?_ | refine BS_t (by assumption) ?_ | refine BS_f (by assumption) ?_ | refine atG (by repeat (first | assumption | exact setG_same _ _ _ | refine atNe (by first | assumption | exact Ne.symm (by assumption)) ?_)) ?_ | refine nthKi (by assumption) ?_ | refine ⟨_, ⟨(by omega), (by assumption)⟩, ?_⟩ | refine And.intro (by first | decide | omega) ?_); conv => whnf) | refine Sem.seqS ?_ | refine Sem.block ?_)
    exact ⟨_, fun _ _ h => h, rfl, ⟨_, _, (h.toL h1 h2).1, ⟨hp.k, hp.c, hp.f, hp.l.put _ _, hT⟩⟩, (h.toL h1 h2).2.1⟩
  | some v =>
    obtain ⟨v, u⟩ := v
    rw [hl] at hgl
    have hu := hp.t _ (lget_mem hgl)
    simp only
    by_cases hvt : v = a.text
    · rw [if_pos hvt]
      have hc := PltakeS G b m.l s.l a.name a.text (ticksOf a.ticks) a.now hn ht (by omega) h.stL (fun x u hx => by rw [hgl] at hx; cases hx; exact ⟨hu.1, hvt⟩)
      refine call_sem tt_ok Tryz.func55 rfl (by kernel_rfl) Tryz.ntmps55 Tryz.results55 ?_; conv => whnf
      repeat' (first | ((first | refine Sem.st tt_ok rfl ?_ | refine BS_t (by assumption) ?_ | refine BS_f (by assumption) ?_ | refine atG (by repeat (first | assumption | exact setG_same _ _ _ | refine atNe (by first | assumption | exact Ne.symm (by assumption)) ?_)) ?_ | refine nthKi (by assumption) ?_ | refine ⟨_, ⟨(by omega), (by assumption)⟩, ?_⟩ | refine And.intro (by first | decide | omega) ?_); conv => whnf) | refine Sem.seqS ?_ | refine Sem.block ?_)
      refine draw_lasts 9 (eff := []) tt_ok (by kernel_rfl) (by kernel_rfl) (by kernel_rfl) ?_
      conv => whnf
      repeat' (first | ((first | refine BS_t (by assumption) ?_ | refine BS_f (by assumption) ?_ | refine atG (by repeat (first | assumption | exact setG_same _ _ _ | refine atNe (by first | assumption | exact Ne.symm (by assumption)) ?_)) ?_ | refine nthKi (by assumption) ?_ | refine ⟨_, ⟨(by omega), (by assumption)⟩, ?_⟩ | refine And.intro (by first | decide | omega) ?_); conv => whnf) | fail)
      refine (hc).mono fun v G1 hv => ?_; obtain ⟨rfl, mv1, h1, h2⟩ := hv; conv => whnf
      repeat' (first | ((first | refine BS_t (by assumption) ?_ | refine BS_f (by assumption) ?_ | refine atG (by repeat (first | assumption | exact setG_same _ _ _ | refine atNe (by first | assumption | exact Ne.symm (by assumption)) ?_)) ?_ | refine nthKi (by assumption) ?_ | refine ⟨_, ⟨(by omega), (by assumption)⟩, ?_⟩ | refine And.intro (by first | decide | omega) ?_); conv => whnf) | fail)
      repeat' (first | ((first | refine Sem.st tt_ok rfl ?_ | refine BS_t (by assumption) ?_ | refine BS_f (by assumption) ?_ | refine atG (by repeat (first | assumption | exact setG_same _ _ _ | refine atNe (by first | assumption | exact Ne.symm (by assumption)) ?_)) ?_ | refine nthKi (by assumption) ?_ | refine ⟨_, ⟨(by omega), (by assumption)⟩, ?_⟩ | refine And.intro (by first | decide | omega) ?_); conv => whnf) | refine Sem.seqS ?_ | refine Sem.block ?_)
      exact ⟨_, fun _ _ h => h, rfl, ⟨_, _, (h.toL h1 h2).1, ⟨hp.k, hp.c, hp.f, hp.l.put _ _, hT⟩⟩, (h.toL h1 h2).2.1⟩
    · rw [if_neg hvt]
      have hg := Pltake_no G b m.l _ s.l a.name a.text (ticksOf a.ticks) a.now h.stL v u hgl hu.1 hvt
      refine call_sem tt_ok Tryz.func55 rfl (by kernel_rfl) Tryz.ntmps55 Tryz.results55 ?_; conv => whnf
      repeat' (first | ((first | refine Sem.st tt_ok rfl ?_ | refine BS_t (by assumption) ?_ | refine BS_f (by assumption) ?_ | refine atG (by repeat (first | assumption | exact setG_same _ _ _ | refine atNe (by first | assumption | exact Ne.symm (by assumption)) ?_)) ?_ | refine nthKi (by assumption) ?_ | refine ⟨_, ⟨(by omega), (by assumption)⟩, ?_⟩ | refine And.intro (by first | decide | omega) ?_); conv => whnf) | refine Sem.seqS ?_ | refine Sem.block ?_)
      refine draw_sound (eff := []) tt_ok (by kernel_rfl) (by kernel_rfl) ?_; conv => whnf
      repeat' (first | ((first | refine BS_t (by assumption) ?_ | refine BS_f (by assumption) ?_ | refine atG (by repeat (first | assumption | exact setG_same _ _ _ | refine atNe (by first | assumption | exact Ne.symm (by assumption)) ?_)) ?_ | refine nthKi (by assumption) ?_ | refine ⟨_, ⟨(by omega), (by assumption)⟩, ?_⟩ | refine And.intro (by first | decide | omega) ?_); conv => whnf) | fail)
      refine ⟨_, _, hg, ?_⟩; (conv => whnf); refine And.intro rfl ?_; conv => whnf
      repeat' (first | ((first | refine BS_t (by assumption) ?_ | refine BS_f (by assumption) ?_ | refine atG (by repeat (first | assumption | exact setG_same _ _ _ | refine atNe (by first | assumption | exact Ne.symm (by assumption)) ?_)) ?_ | refine nthKi (by assumption) ?_ | refine ⟨_, ⟨(by omega), (by assumption)⟩, ?_⟩ | refine And.intro (by first | decide | omega) ?_); conv => whnf) | fail)
      repeat' (first | ((first | refine Sem.st tt_ok rfl ?_ | refine BS_t (by assumption) ?_ | refine BS_f (by assumption) ?_ | refine atG (by repeat (first | assumption | exact setG_same _ _ _ | refine atNe (by first | assumption | exact Ne.symm (by assumption)) ?_)) ?_ | refine nthKi (by assumption) ?_ | refine ⟨_, ⟨(by omega), (by assumption)⟩, ?_⟩ | refine And.intro (by first | decide | omega) ?_); conv => whnf) | refine Sem.seqS ?_ | refine Sem.block ?_)
      exact ⟨_, fun _ _ h => h, rfl, ⟨s, m, h, hp⟩, PinK.refl _⟩
theorem dfree_ok {G : Glob} {b x y : Nat} {s : PS} {m : MV} {q : PQ} {a : St31} (h : PtG G b s m) (hp : PR s q) (hq : q.size ≤ 100000000) (ha : a.op = 8) (hn : a.name.size ≤ 140737488351232) (ht : a.text.size ≤ 140737488351232) (hx : G x = some (.cells [.gptr b 0])) (hy : G y = some (.cells [.str a.name, .str a.text, .int .i64 a.num, .int .u64 a.ticks])) :
    CallOk Tryz.prog TT 58 [.gptr x 0, .gptr y 0] G (fun v G' => v = (applyQ q a).2.av ∧ PtX G' b (applyQ q a).1 ∧ PinK G G') := by
  have e : applyQ q a = (match lget q.le a.name with
    | some (x, _) => if x = a.text then (⟨q.kv, q.cn, q.qu, delA q.le a.name⟩, ⟨⟨#[]⟩, true, 0⟩) else (q, noRes)
    | none => (q, noRes)) := by unfold applyQ; rw [if_neg (by omega), if_neg (by omega), if_neg (by omega), if_neg (by omega), if_neg (by omega), if_neg (by omega), if_neg (by omega)] <;> rfl
  rw [e]
  have hb := hp.bounds hq
  have hgl := hp.l.get a.name
  cases hl : lget q.le a.name with
  | none =>
    rw [hl] at hgl
    have hg := Plfree_none G b m.l _ s.l a.name a.text h.stL hgl
    simp only
    refine call_sem tt_ok Tryz.func58 rfl (by kernel_rfl) Tryz.ntmps58 Tryz.results58 ?_; conv => whnf
    repeat' (first | ((first | refine Sem.st tt_ok rfl ?_ | refine BS_t (by assumption) ?_ | refine BS_f (by assumption) ?_ | refine atG (by repeat (first | assumption | exact setG_same _ _ _ | refine atNe (by first | assumption | exact Ne.symm (by assumption)) ?_)) ?_ | refine nthKi (by assumption) ?_ | refine ⟨_, ⟨(by omega), (by assumption)⟩, ?_⟩ | refine And.intro (by first | decide | omega) ?_); conv => whnf) | refine Sem.seqS ?_ | refine Sem.block ?_)
    refine draw_sound (eff := []) tt_ok (by kernel_rfl) (by kernel_rfl) ?_; conv => whnf
    repeat' (first | ((first | refine BS_t (by assumption) ?_ | refine BS_f (by assumption) ?_ | refine atG (by repeat (first | assumption | exact setG_same _ _ _ | refine atNe (by first | assumption | exact Ne.symm (by assumption)) ?_)) ?_ | refine nthKi (by assumption) ?_ | refine ⟨_, ⟨(by omega), (by assumption)⟩, ?_⟩ | refine And.intro (by first | decide | omega) ?_); conv => whnf) | fail)
    refine ⟨_, _, hg, ?_⟩; (conv => whnf); refine And.intro rfl ?_; conv => whnf
    repeat' (first | ((first | refine BS_t (by assumption) ?_ | refine BS_f (by assumption) ?_ | refine atG (by repeat (first | assumption | exact setG_same _ _ _ | refine atNe (by first | assumption | exact Ne.symm (by assumption)) ?_)) ?_ | refine nthKi (by assumption) ?_ | refine ⟨_, ⟨(by omega), (by assumption)⟩, ?_⟩ | refine And.intro (by first | decide | omega) ?_); conv => whnf) | fail)
    repeat' (first | ((first | refine Sem.st tt_ok rfl ?_ | refine BS_t (by assumption) ?_ | refine BS_f (by assumption) ?_ | refine atG (by repeat (first | assumption | exact setG_same _ _ _ | refine atNe (by first | assumption | exact Ne.symm (by assumption)) ?_)) ?_ | refine nthKi (by assumption) ?_ | refine ⟨_, ⟨(by omega), (by assumption)⟩, ?_⟩ | refine And.intro (by first | decide | omega) ?_); conv => whnf) | refine Sem.seqS ?_ | refine Sem.block ?_)
    exact ⟨_, fun _ _ h => h, rfl, ⟨s, m, h, hp⟩, PinK.refl _⟩
  | some v =>
    obtain ⟨v, u⟩ := v
    rw [hl] at hgl
    simp only
    by_cases hvt : v = a.text
    · rw [hvt] at hgl
      rw [if_pos hvt]
      have hc := PlfreeS G b m.l s.l a.name a.text u hn ht (by omega) h.stL hgl
      refine call_sem tt_ok Tryz.func58 rfl (by kernel_rfl) Tryz.ntmps58 Tryz.results58 ?_; conv => whnf
      repeat' (first | ((first | refine Sem.st tt_ok rfl ?_ | refine BS_t (by assumption) ?_ | refine BS_f (by assumption) ?_ | refine atG (by repeat (first | assumption | exact setG_same _ _ _ | refine atNe (by first | assumption | exact Ne.symm (by assumption)) ?_)) ?_ | refine nthKi (by assumption) ?_ | refine ⟨_, ⟨(by omega), (by assumption)⟩, ?_⟩ | refine And.intro (by first | decide | omega) ?_); conv => whnf) | refine Sem.seqS ?_ | refine Sem.block ?_)
      refine draw_lasts 7 (eff := []) tt_ok (by kernel_rfl) (by kernel_rfl) (by kernel_rfl) ?_
      conv => whnf
      repeat' (first | ((first | refine BS_t (by assumption) ?_ | refine BS_f (by assumption) ?_ | refine atG (by repeat (first | assumption | exact setG_same _ _ _ | refine atNe (by first | assumption | exact Ne.symm (by assumption)) ?_)) ?_ | refine nthKi (by assumption) ?_ | refine ⟨_, ⟨(by omega), (by assumption)⟩, ?_⟩ | refine And.intro (by first | decide | omega) ?_); conv => whnf) | fail)
      refine (hc).mono fun v G1 hv => ?_; obtain ⟨rfl, h1, h2⟩ := hv; conv => whnf
      repeat' (first | ((first | refine BS_t (by assumption) ?_ | refine BS_f (by assumption) ?_ | refine atG (by repeat (first | assumption | exact setG_same _ _ _ | refine atNe (by first | assumption | exact Ne.symm (by assumption)) ?_)) ?_ | refine nthKi (by assumption) ?_ | refine ⟨_, ⟨(by omega), (by assumption)⟩, ?_⟩ | refine And.intro (by first | decide | omega) ?_); conv => whnf) | fail)
      repeat' (first | ((first | refine Sem.st tt_ok rfl ?_ | refine BS_t (by assumption) ?_ | refine BS_f (by assumption) ?_ | refine atG (by repeat (first | assumption | exact setG_same _ _ _ | refine atNe (by first | assumption | exact Ne.symm (by assumption)) ?_)) ?_ | refine nthKi (by assumption) ?_ | refine ⟨_, ⟨(by omega), (by assumption)⟩, ?_⟩ | refine And.intro (by first | decide | omega) ?_); conv => whnf) | refine Sem.seqS ?_ | refine Sem.block ?_)
      exact ⟨_, fun _ _ h => h, rfl, ⟨_, _, (h.toL h1 h2).1, ⟨hp.k, hp.c, hp.f, hp.l.del _, fun x hx => hp.t x (mem_ldel _ hp.l.nd hx).1⟩⟩, (h.toL h1 h2).2.1⟩
    · rw [if_neg hvt]
      have hg := Plfree_no G b m.l _ s.l a.name a.text v u h.stL hgl hvt
      refine call_sem tt_ok Tryz.func58 rfl (by kernel_rfl) Tryz.ntmps58 Tryz.results58 ?_; conv => whnf
      repeat' (first | ((first | refine Sem.st tt_ok rfl ?_ | refine BS_t (by assumption) ?_ | refine BS_f (by assumption) ?_ | refine atG (by repeat (first | assumption | exact setG_same _ _ _ | refine atNe (by first | assumption | exact Ne.symm (by assumption)) ?_)) ?_ | refine nthKi (by assumption) ?_ | refine ⟨_, ⟨(by omega), (by assumption)⟩, ?_⟩ | refine And.intro (by first | decide | omega) ?_); conv => whnf) | refine Sem.seqS ?_ | refine Sem.block ?_)
      refine draw_sound (eff := []) tt_ok (by kernel_rfl) (by kernel_rfl) ?_; conv => whnf
      repeat' (first | ((first | refine BS_t (by assumption) ?_ | refine BS_f (by assumption) ?_ | refine atG (by repeat (first | assumption | exact setG_same _ _ _ | refine atNe (by first | assumption | exact Ne.symm (by assumption)) ?_)) ?_ | refine nthKi (by assumption) ?_ | refine ⟨_, ⟨(by omega), (by assumption)⟩, ?_⟩ | refine And.intro (by first | decide | omega) ?_); conv => whnf) | fail)
      refine ⟨_, _, hg, ?_⟩; (conv => whnf); refine And.intro rfl ?_; conv => whnf
      repeat' (first | ((first | refine BS_t (by assumption) ?_ | refine BS_f (by assumption) ?_ | refine atG (by repeat (first | assumption | exact setG_same _ _ _ | refine atNe (by first | assumption | exact Ne.symm (by assumption)) ?_)) ?_ | refine nthKi (by assumption) ?_ | refine ⟨_, ⟨(by omega), (by assumption)⟩, ?_⟩ | refine And.intro (by first | decide | omega) ?_); conv => whnf) | fail)
      repeat' (first | ((first | refine Sem.st tt_ok rfl ?_ | refine BS_t (by assumption) ?_ | refine BS_f (by assumption) ?_ | refine atG (by repeat (first | assumption | exact setG_same _ _ _ | refine atNe (by first | assumption | exact Ne.symm (by assumption)) ?_)) ?_ | refine nthKi (by assumption) ?_ | refine ⟨_, ⟨(by omega), (by assumption)⟩, ?_⟩ | refine And.intro (by first | decide | omega) ?_); conv => whnf) | refine Sem.seqS ?_ | refine Sem.block ?_)
      exact ⟨_, fun _ _ h => h, rfl, ⟨s, m, h, hp⟩, PinK.refl _⟩
end Go.Proofs.YtpihanlillbhkaaGreatDoor
