/- A partition: an operation done. Printed by genptd.py. -/
import Derived.Test.YtpihanlillbhkaaGreatDoorPtE
import Derived.Test.YtpihanlillbhkaaGreatDoorGw
set_option maxRecDepth 100000
set_option linter.unusedSimpArgs false
set_option linter.unusedVariables false
namespace Go.Proofs.YtpihanlillbhkaaGreatDoor
open Go Go.RowKit Go.Proofs

theorem sub_new {G : Glob} {x : Nat} {X : GB} (hx : G x = none) : (∀ i z, G i = some z → setG G x X i = some z) ∧ (∀ i, setG G x X i = none → G i = none) := by
  refine ⟨fun i z h => ?_, fun i h => ?_⟩
  · rw [setG_ne _ _ (fun e => by rw [e, hx] at h; cases h)]; exact h
  · by_cases h1 : i = x
    · subst h1; rw [setG_same] at h; cases h
    · rwa [setG_ne _ _ h1] at h
theorem le_all {s : PS} {q : PQ} (hp : PR s q) (hq : q.size ≤ 1000000) : s.l.length ≤ 1000000 ∧ ∀ x ∈ s.l, x.1.size ≤ 140737488351232 ∧ x.2.1.size ≤ 140737488351232 := by
  have hb := hp.bounds (by omega)
  have e : sizeL s.l = (s.l.map fun x : ByteArray × (ByteArray × Int) => 24 + x.1.size + x.2.1.size).sum := rfl
  have h1 := sum_len (fun x : ByteArray × (ByteArray × Int) => 24 + x.1.size + x.2.1.size) (fun x => by omega) s.l
  refine ⟨by omega, fun x hx => ?_⟩
  have h2 := sum_mem (fun x : ByteArray × (ByteArray × Int) => 24 + x.1.size + x.2.1.size) hx
  omega
set_option maxHeartbeats 1000000 in
theorem pdoA_ok {G : Glob} {b : Nat} {q : PQ} {a : St31} (fd : FuncId) (hq : q.size ≤ 1000000) (hop : 1 ≤ a.op ∧ a.op ≤ 8) (h0 : ∀ s, growS s a = 0) (hlim : -9223372036854775808 ≤ a.limit ∧ a.limit ≤ 9223372036854775807) (hn : a.name.size ≤ 140737488351232) (ht : a.text.size ≤ 140737488351232)
    (hf : CallOk Tryz.prog TT 15 [.gptr b 0, .int .i64 a.op, .agg [.str a.name, .str a.text, .int .i64 a.num, .int .u64 a.ticks], .int .i64 a.now] G (fun v G' => ∃ x y, G x = none ∧ setG G x (.cells [.gptr b 0]) y = none ∧ v = .tup [.agg [.fn (.func 57) [] [], .fn (.func fd) [] [.gptr x 0, .gptr y 0]], .bool true] ∧ G' = setG (setG G x (.cells [.gptr b 0])) y (.cells [.str a.name, .str a.text, .int .i64 a.num, .int .u64 a.ticks])))
    (hd : ∀ (H : Glob) (x y : Nat) (s : PS) (m : MV), PtG H b s m → PR s (expQ q a.now) → H x = some (.cells [.gptr b 0]) → H y = some (.cells [.str a.name, .str a.text, .int .i64 a.num, .int .u64 a.ticks]) → CallOk Tryz.prog TT fd [.gptr x 0, .gptr y 0] H (fun v G' => v = (applyQ (expQ q a.now) a).2.av ∧ PtX G' b (applyQ (expQ q a.now) a).1 ∧ PinK H G'))
    (hX : PtX G b q) : CallOk Tryz.prog TT 8 [.gptr b 0, .int .i64 a.op, .agg [.str a.name, .str a.text, .int .i64 a.num, .int .u64 a.ticks], .int .i64 a.now, .int .i64 a.limit] G (fun v G' => v = .tup [(doQ q a).2.1.av, .int .i64 (doQ q a).2.2] ∧ PtX G' b (doQ q a).1 ∧ PinK G G') := by
  obtain ⟨s, m, h, hp⟩ := hX
  have hall := le_all hp hq
  have hbd := hp.bounds (by omega)
  have hpE := hp.exp a.now
  have hszE := exp_size q a.now
  have hbE := hpE.bounds (by omega)
  have hgin := grow_in hpE a (by omega) hn ht
  have hfi := full_iff (a := a) hpE
  have hdq : doQ q a = if fullQ q a = true then (expQ q a.now, noRes, 13) else ((applyQ (expQ q a.now) a).1, (applyQ (expQ q a.now) a).2, 0) := by unfold doQ; rw [if_neg (by omega)]
  rw [hdq]
  clear hdq
  have hg0 := h0 ⟨s.k, s.c, s.f, liveL a.now s.l⟩
  refine call_sem tt_ok Tryz.func8 rfl (by kernel_rfl) Tryz.ntmps8 Tryz.results8 ?_; conv => whnf
  repeat' (first | ((first | refine Sem.st tt_ok rfl ?_ | refine BS_t (by assumption) ?_ | refine BS_f (by assumption) ?_ | refine atG (by repeat (first | assumption | exact setG_same _ _ _ | refine atNe (by first | assumption | exact Ne.symm (by assumption)) ?_)) ?_ | refine nthKi (by assumption) ?_ | refine ⟨_, ⟨(by omega), (by assumption)⟩, ?_⟩ | refine And.intro (by first | decide | omega) ?_); conv => whnf) | refine Sem.seqS ?_ | refine Sem.block ?_)
  refine (hf).mono fun v G1 hv => ?_; obtain ⟨x, y, hx, hy, rfl, rfl⟩ := hv; conv => whnf
  obtain ⟨sub, nosub, hxx⟩ := lent2 (Y := (.cells [.str a.name, .str a.text, .int .i64 a.num, .int .u64 a.ticks])) hx hy
  have hyy : setG (setG G x (.cells [.gptr b 0])) y (.cells [.str a.name, .str a.text, .int .i64 a.num, .int .u64 a.ticks]) y = some (.cells [.str a.name, .str a.text, .int .i64 a.num, .int .u64 a.ticks]) := setG_same _ _ _
  generalize setG (setG G x (.cells [.gptr b 0])) y (.cells [.str a.name, .str a.text, .int .i64 a.num, .int .u64 a.ticks]) = H at *
  have hH := h.sub sub
  have hex := Plexpire_ok H b m.l s.l a.now hp.l.nd hall.1 hall.2 (by omega) hH.stL
  repeat' (first | ((first | refine Sem.st tt_ok rfl ?_ | refine BS_t (by assumption) ?_ | refine BS_f (by assumption) ?_ | refine atG (by repeat (first | assumption | exact setG_same _ _ _ | refine atNe (by first | assumption | exact Ne.symm (by assumption)) ?_)) ?_ | refine nthKi (by assumption) ?_ | refine ⟨_, ⟨(by omega), (by assumption)⟩, ?_⟩ | refine And.intro (by first | decide | omega) ?_); conv => whnf) | refine Sem.seqS ?_ | refine Sem.block ?_)
  refine (hex).mono fun v G1 hv => ?_; obtain ⟨rfl, e1, e2⟩ := hv; conv => whnf
  have hE := hH.toL e1 e2
  have hpin : PinK G G1 := PinK.trans (fun i k o hi => sub _ _ hi) hE.2.1
  have ne : ∀ {i cs}, H i = some (.cells cs) → cs.length ≠ 8 → i ≠ b := fun hi hl e => by subst e; rw [hH.box] at hi; cases hi; exact hl rfl
  have hx1 := hE.2.2 x _ hxx (ne hxx (by simp))
  have hy1 := hE.2.2 y _ hyy (ne hyy (by simp))
  have hsz := psize_at hE.1.box (by omega) (by omega) (by omega) (by omega)
  have hgr := gnone_ok G1
  have hdo := hd G1 x y _ _ hE.1 hpE hx1 hy1
  have hEX : PtX G1 b (expQ q a.now) := ⟨_, _, hE.1, hpE⟩
  have hsum := hpE.size
  simp only at hsum hbE
  rw [hg0] at hfi
  rw [show decide ((0 : Int) > 0) = false from rfl, Bool.false_and] at hfi
  rw [hfi, if_neg (by decide)]
  clear hg0 hfi hgin h0
  generalize hrs : applyQ (expQ q a.now) a = ar at *
  obtain ⟨q', r⟩ := ar
  obtain ⟨rt, rh, rn⟩ := r
  clear hd hex hf hrs e1 e2 hE hx1 hy1 hxx hyy ne sub nosub
  repeat' (first | ((first | refine Sem.st tt_ok rfl ?_ | refine BS_t (by assumption) ?_ | refine BS_f (by assumption) ?_ | refine atG (by repeat (first | assumption | exact setG_same _ _ _ | refine atNe (by first | assumption | exact Ne.symm (by assumption)) ?_)) ?_ | refine nthKi (by assumption) ?_ | refine ⟨_, ⟨(by omega), (by assumption)⟩, ?_⟩ | refine And.intro (by first | decide | omega) ?_); conv => whnf) | refine Sem.seqS ?_ | refine Sem.block ?_)
  refine hgr.on ?_; conv => whnf
  repeat' (first | ((first | refine Sem.st tt_ok rfl ?_ | refine BS_t (by assumption) ?_ | refine BS_f (by assumption) ?_ | refine atG (by repeat (first | assumption | exact setG_same _ _ _ | refine atNe (by first | assumption | exact Ne.symm (by assumption)) ?_)) ?_ | refine nthKi (by assumption) ?_ | refine ⟨_, ⟨(by omega), (by assumption)⟩, ?_⟩ | refine And.intro (by first | decide | omega) ?_); conv => whnf) | refine Sem.seqS ?_ | refine Sem.block ?_)
  refine hdo.mono fun v G2 hv => ?_
  obtain ⟨rfl, hX2, hp2⟩ := hv
  conv => whnf
  repeat' (first | ((first | refine Sem.st tt_ok rfl ?_ | refine BS_t (by assumption) ?_ | refine BS_f (by assumption) ?_ | refine atG (by repeat (first | assumption | exact setG_same _ _ _ | refine atNe (by first | assumption | exact Ne.symm (by assumption)) ?_)) ?_ | refine nthKi (by assumption) ?_ | refine ⟨_, ⟨(by omega), (by assumption)⟩, ?_⟩ | refine And.intro (by first | decide | omega) ?_); conv => whnf) | refine Sem.seqS ?_ | refine Sem.block ?_)
  exact ⟨_, fun _ _ h => h, rfl, hX2, hpin.trans hp2⟩
set_option maxHeartbeats 1000000 in
theorem pdoB_ok {G : Glob} {b : Nat} {q : PQ} {a : St31} (fg fd : FuncId) (hq : q.size ≤ 1000000) (hop : 1 ≤ a.op ∧ a.op ≤ 8) (hlim : -9223372036854775808 ≤ a.limit ∧ a.limit ≤ 9223372036854775807) (hn : a.name.size ≤ 140737488351232) (ht : a.text.size ≤ 140737488351232)
    (hf : CallOk Tryz.prog TT 15 [.gptr b 0, .int .i64 a.op, .agg [.str a.name, .str a.text, .int .i64 a.num, .int .u64 a.ticks], .int .i64 a.now] G (fun v G' => ∃ x y, G x = none ∧ setG G x (.cells [.gptr b 0]) y = none ∧ v = .tup [.agg [.fn (.func fg) [] [.gptr x 0, .gptr y 0], .fn (.func fd) [] [.gptr x 0, .gptr y 0]], .bool true] ∧ G' = setG (setG G x (.cells [.gptr b 0])) y (.cells [.str a.name, .str a.text, .int .i64 a.num, .int .u64 a.ticks])))
    (hg : ∀ (H : Glob) (x y : Nat) (s : PS) (m : MV), PtG H b s m → PR s (expQ q a.now) → H x = some (.cells [.gptr b 0]) → H y = some (.cells [.str a.name, .str a.text, .int .i64 a.num, .int .u64 a.ticks]) → CallOk Tryz.prog TT fg [.gptr x 0, .gptr y 0] H (fun v G' => v = .int .i64 (growS s a) ∧ G' = H))
    (hd : ∀ (H : Glob) (x y : Nat) (s : PS) (m : MV), PtG H b s m → PR s (expQ q a.now) → H x = some (.cells [.gptr b 0]) → H y = some (.cells [.str a.name, .str a.text, .int .i64 a.num, .int .u64 a.ticks]) → CallOk Tryz.prog TT fd [.gptr x 0, .gptr y 0] H (fun v G' => v = (applyQ (expQ q a.now) a).2.av ∧ PtX G' b (applyQ (expQ q a.now) a).1 ∧ PinK H G'))
    (hX : PtX G b q) : CallOk Tryz.prog TT 8 [.gptr b 0, .int .i64 a.op, .agg [.str a.name, .str a.text, .int .i64 a.num, .int .u64 a.ticks], .int .i64 a.now, .int .i64 a.limit] G (fun v G' => v = .tup [(doQ q a).2.1.av, .int .i64 (doQ q a).2.2] ∧ PtX G' b (doQ q a).1 ∧ PinK G G') := by
  obtain ⟨s, m, h, hp⟩ := hX
  have hall := le_all hp hq
  have hbd := hp.bounds (by omega)
  have hpE := hp.exp a.now
  have hszE := exp_size q a.now
  have hbE := hpE.bounds (by omega)
  have hgin := grow_in hpE a (by omega) hn ht
  have hfi := full_iff (a := a) hpE
  have hdq : doQ q a = if fullQ q a = true then (expQ q a.now, noRes, 13) else ((applyQ (expQ q a.now) a).1, (applyQ (expQ q a.now) a).2, 0) := by unfold doQ; rw [if_neg (by omega)]
  rw [hdq]
  clear hdq
  refine call_sem tt_ok Tryz.func8 rfl (by kernel_rfl) Tryz.ntmps8 Tryz.results8 ?_; conv => whnf
  repeat' (first | ((first | refine Sem.st tt_ok rfl ?_ | refine BS_t (by assumption) ?_ | refine BS_f (by assumption) ?_ | refine atG (by repeat (first | assumption | exact setG_same _ _ _ | refine atNe (by first | assumption | exact Ne.symm (by assumption)) ?_)) ?_ | refine nthKi (by assumption) ?_ | refine ⟨_, ⟨(by omega), (by assumption)⟩, ?_⟩ | refine And.intro (by first | decide | omega) ?_); conv => whnf) | refine Sem.seqS ?_ | refine Sem.block ?_)
  refine (hf).mono fun v G1 hv => ?_; obtain ⟨x, y, hx, hy, rfl, rfl⟩ := hv; conv => whnf
  obtain ⟨sub, nosub, hxx⟩ := lent2 (Y := (.cells [.str a.name, .str a.text, .int .i64 a.num, .int .u64 a.ticks])) hx hy
  have hyy : setG (setG G x (.cells [.gptr b 0])) y (.cells [.str a.name, .str a.text, .int .i64 a.num, .int .u64 a.ticks]) y = some (.cells [.str a.name, .str a.text, .int .i64 a.num, .int .u64 a.ticks]) := setG_same _ _ _
  generalize setG (setG G x (.cells [.gptr b 0])) y (.cells [.str a.name, .str a.text, .int .i64 a.num, .int .u64 a.ticks]) = H at *
  have hH := h.sub sub
  have hex := Plexpire_ok H b m.l s.l a.now hp.l.nd hall.1 hall.2 (by omega) hH.stL
  repeat' (first | ((first | refine Sem.st tt_ok rfl ?_ | refine BS_t (by assumption) ?_ | refine BS_f (by assumption) ?_ | refine atG (by repeat (first | assumption | exact setG_same _ _ _ | refine atNe (by first | assumption | exact Ne.symm (by assumption)) ?_)) ?_ | refine nthKi (by assumption) ?_ | refine ⟨_, ⟨(by omega), (by assumption)⟩, ?_⟩ | refine And.intro (by first | decide | omega) ?_); conv => whnf) | refine Sem.seqS ?_ | refine Sem.block ?_)
  refine (hex).mono fun v G1 hv => ?_; obtain ⟨rfl, e1, e2⟩ := hv; conv => whnf
  have hE := hH.toL e1 e2
  have hpin : PinK G G1 := PinK.trans (fun i k o hi => sub _ _ hi) hE.2.1
  have ne : ∀ {i cs}, H i = some (.cells cs) → cs.length ≠ 8 → i ≠ b := fun hi hl e => by subst e; rw [hH.box] at hi; cases hi; exact hl rfl
  have hx1 := hE.2.2 x _ hxx (ne hxx (by simp))
  have hy1 := hE.2.2 y _ hyy (ne hyy (by simp))
  have hsz := psize_at hE.1.box (by omega) (by omega) (by omega) (by omega)
  have hgr := hg G1 x y _ _ hE.1 hpE hx1 hy1
  have hdo := hd G1 x y _ _ hE.1 hpE hx1 hy1
  have hEX : PtX G1 b (expQ q a.now) := ⟨_, _, hE.1, hpE⟩
  have hsum := hpE.size
  simp only at hsum hbE
  generalize growS ⟨s.k, s.c, s.f, liveL a.now s.l⟩ a = g at *
  generalize hrs : applyQ (expQ q a.now) a = ar at *
  obtain ⟨q', r⟩ := ar
  obtain ⟨rt, rh, rn⟩ := r
  clear hd hex hg hf hrs e1 e2 hE hx1 hy1 hxx hyy ne sub nosub
  by_cases h1 : g > 0
  case neg =>
    have t1 : decide (g > 0) = false := decide_eq_false h1
    rw [t1, Bool.false_and] at hfi
    rw [hfi, if_neg (by decide)]
    clear hfi
    repeat' (first | ((first | refine Sem.st tt_ok rfl ?_ | refine BS_t (by assumption) ?_ | refine BS_f (by assumption) ?_ | refine atG (by repeat (first | assumption | exact setG_same _ _ _ | refine atNe (by first | assumption | exact Ne.symm (by assumption)) ?_)) ?_ | refine nthKi (by assumption) ?_ | refine ⟨_, ⟨(by omega), (by assumption)⟩, ?_⟩ | refine And.intro (by first | decide | omega) ?_); conv => whnf) | refine Sem.seqS ?_ | refine Sem.block ?_)
    refine hgr.on ?_; conv => whnf
    repeat' (first | ((first | refine Sem.st tt_ok rfl ?_ | refine BS_t (by assumption) ?_ | refine BS_f (by assumption) ?_ | refine atG (by repeat (first | assumption | exact setG_same _ _ _ | refine atNe (by first | assumption | exact Ne.symm (by assumption)) ?_)) ?_ | refine nthKi (by assumption) ?_ | refine ⟨_, ⟨(by omega), (by assumption)⟩, ?_⟩ | refine And.intro (by first | decide | omega) ?_); conv => whnf) | refine Sem.seqS ?_ | refine Sem.block ?_)
    refine hdo.mono fun v G2 hv => ?_
    obtain ⟨rfl, hX2, hp2⟩ := hv
    conv => whnf
    repeat' (first | ((first | refine Sem.st tt_ok rfl ?_ | refine BS_t (by assumption) ?_ | refine BS_f (by assumption) ?_ | refine atG (by repeat (first | assumption | exact setG_same _ _ _ | refine atNe (by first | assumption | exact Ne.symm (by assumption)) ?_)) ?_ | refine nthKi (by assumption) ?_ | refine ⟨_, ⟨(by omega), (by assumption)⟩, ?_⟩ | refine And.intro (by first | decide | omega) ?_); conv => whnf) | refine Sem.seqS ?_ | refine Sem.block ?_)
    exact ⟨_, fun _ _ h => h, rfl, hX2, hpin.trans hp2⟩
  have t1 : decide (g > 0) = true := decide_eq_true h1
  rw [t1, Bool.true_and] at hfi
  by_cases h2 : a.limit < g
  case pos =>
    have t2 : decide (a.limit < g) = true := decide_eq_true h2
    rw [t2, Bool.true_or] at hfi
    rw [hfi, if_pos rfl]
    clear hfi
    repeat' (first | ((first | refine Sem.st tt_ok rfl ?_ | refine BS_t (by assumption) ?_ | refine BS_f (by assumption) ?_ | refine atG (by repeat (first | assumption | exact setG_same _ _ _ | refine atNe (by first | assumption | exact Ne.symm (by assumption)) ?_)) ?_ | refine nthKi (by assumption) ?_ | refine ⟨_, ⟨(by omega), (by assumption)⟩, ?_⟩ | refine And.intro (by first | decide | omega) ?_); conv => whnf) | refine Sem.seqS ?_ | refine Sem.block ?_)
    refine hgr.on ?_; conv => whnf
    repeat' (first | ((first | refine Sem.st tt_ok rfl ?_ | refine BS_t (by assumption) ?_ | refine BS_f (by assumption) ?_ | refine atG (by repeat (first | assumption | exact setG_same _ _ _ | refine atNe (by first | assumption | exact Ne.symm (by assumption)) ?_)) ?_ | refine nthKi (by assumption) ?_ | refine ⟨_, ⟨(by omega), (by assumption)⟩, ?_⟩ | refine And.intro (by first | decide | omega) ?_); conv => whnf) | refine Sem.seqS ?_ | refine Sem.block ?_)
    exact ⟨_, fun _ _ h => h, rfl, hEX, hpin⟩
  have t2 : decide (a.limit < g) = false := decide_eq_false h2
  rw [t2, Bool.false_or] at hfi
  have w1 : IntKind.i64.wrap (a.limit - g) = a.limit - g := IntWalk.i64_in _ (by omega)
  by_cases h3 : (((expQ q a.now).size : Nat) : Int) > a.limit - g
  case pos =>
    rw [decide_eq_true h3] at hfi
    have t3 : decide (((sizeR s.k : Nat) : Int) + ((totC s.c : Nat) : Int) + ((totF s.f : Nat) : Int) + ((sizeL (liveL a.now s.l) : Nat) : Int) > IntKind.i64.wrap (a.limit - g)) = true := by rw [w1, decide_eq_true_eq]; omega
    rw [hfi, if_pos rfl]
    clear hfi
    repeat' (first | ((first | refine Sem.st tt_ok rfl ?_ | refine BS_t (by assumption) ?_ | refine BS_f (by assumption) ?_ | refine atG (by repeat (first | assumption | exact setG_same _ _ _ | refine atNe (by first | assumption | exact Ne.symm (by assumption)) ?_)) ?_ | refine nthKi (by assumption) ?_ | refine ⟨_, ⟨(by omega), (by assumption)⟩, ?_⟩ | refine And.intro (by first | decide | omega) ?_); conv => whnf) | refine Sem.seqS ?_ | refine Sem.block ?_)
    refine hgr.on ?_; conv => whnf
    repeat' (first | ((first | refine Sem.st tt_ok rfl ?_ | refine BS_t (by assumption) ?_ | refine BS_f (by assumption) ?_ | refine atG (by repeat (first | assumption | exact setG_same _ _ _ | refine atNe (by first | assumption | exact Ne.symm (by assumption)) ?_)) ?_ | refine nthKi (by assumption) ?_ | refine ⟨_, ⟨(by omega), (by assumption)⟩, ?_⟩ | refine And.intro (by first | decide | omega) ?_); conv => whnf) | refine Sem.seqS ?_ | refine Sem.block ?_)
    refine hsz.on ?_; conv => whnf
    repeat' (first | ((first | refine Sem.st tt_ok rfl ?_ | refine BS_t (by assumption) ?_ | refine BS_f (by assumption) ?_ | refine atG (by repeat (first | assumption | exact setG_same _ _ _ | refine atNe (by first | assumption | exact Ne.symm (by assumption)) ?_)) ?_ | refine nthKi (by assumption) ?_ | refine ⟨_, ⟨(by omega), (by assumption)⟩, ?_⟩ | refine And.intro (by first | decide | omega) ?_); conv => whnf) | refine Sem.seqS ?_ | refine Sem.block ?_)
    exact ⟨_, fun _ _ h => h, rfl, hEX, hpin⟩
  rw [decide_eq_false h3] at hfi
  have t3 : decide (((sizeR s.k : Nat) : Int) + ((totC s.c : Nat) : Int) + ((totF s.f : Nat) : Int) + ((sizeL (liveL a.now s.l) : Nat) : Int) > IntKind.i64.wrap (a.limit - g)) = false := by rw [w1, decide_eq_false_iff_not]; omega
  rw [hfi, if_neg (by decide)]
  clear hfi
  repeat' (first | ((first | refine Sem.st tt_ok rfl ?_ | refine BS_t (by assumption) ?_ | refine BS_f (by assumption) ?_ | refine atG (by repeat (first | assumption | exact setG_same _ _ _ | refine atNe (by first | assumption | exact Ne.symm (by assumption)) ?_)) ?_ | refine nthKi (by assumption) ?_ | refine ⟨_, ⟨(by omega), (by assumption)⟩, ?_⟩ | refine And.intro (by first | decide | omega) ?_); conv => whnf) | refine Sem.seqS ?_ | refine Sem.block ?_)
  refine hgr.on ?_; conv => whnf
  repeat' (first | ((first | refine Sem.st tt_ok rfl ?_ | refine BS_t (by assumption) ?_ | refine BS_f (by assumption) ?_ | refine atG (by repeat (first | assumption | exact setG_same _ _ _ | refine atNe (by first | assumption | exact Ne.symm (by assumption)) ?_)) ?_ | refine nthKi (by assumption) ?_ | refine ⟨_, ⟨(by omega), (by assumption)⟩, ?_⟩ | refine And.intro (by first | decide | omega) ?_); conv => whnf) | refine Sem.seqS ?_ | refine Sem.block ?_)
  refine hsz.on ?_; conv => whnf
  repeat' (first | ((first | refine Sem.st tt_ok rfl ?_ | refine BS_t (by assumption) ?_ | refine BS_f (by assumption) ?_ | refine atG (by repeat (first | assumption | exact setG_same _ _ _ | refine atNe (by first | assumption | exact Ne.symm (by assumption)) ?_)) ?_ | refine nthKi (by assumption) ?_ | refine ⟨_, ⟨(by omega), (by assumption)⟩, ?_⟩ | refine And.intro (by first | decide | omega) ?_); conv => whnf) | refine Sem.seqS ?_ | refine Sem.block ?_)
  refine hdo.mono fun v G2 hv => ?_
  obtain ⟨rfl, hX2, hp2⟩ := hv
  conv => whnf
  repeat' (first | ((first | refine Sem.st tt_ok rfl ?_ | refine BS_t (by assumption) ?_ | refine BS_f (by assumption) ?_ | refine atG (by repeat (first | assumption | exact setG_same _ _ _ | refine atNe (by first | assumption | exact Ne.symm (by assumption)) ?_)) ?_ | refine nthKi (by assumption) ?_ | refine ⟨_, ⟨(by omega), (by assumption)⟩, ?_⟩ | refine And.intro (by first | decide | omega) ?_); conv => whnf) | refine Sem.seqS ?_ | refine Sem.block ?_)
  exact ⟨_, fun _ _ h => h, rfl, hX2, hpin.trans hp2⟩
set_option maxHeartbeats 1000000 in
theorem pdoC_ok {G : Glob} {b : Nat} {q : PQ} {a : St31} (fg fd : FuncId) (hq : q.size ≤ 1000000) (hop : 1 ≤ a.op ∧ a.op ≤ 8) (hlim : -9223372036854775808 ≤ a.limit ∧ a.limit ≤ 9223372036854775807) (hn : a.name.size ≤ 140737488351232) (ht : a.text.size ≤ 140737488351232)
    (hf : CallOk Tryz.prog TT 15 [.gptr b 0, .int .i64 a.op, .agg [.str a.name, .str a.text, .int .i64 a.num, .int .u64 a.ticks], .int .i64 a.now] G (fun v G' => ∃ x y z w, G x = none ∧ setG G x (.cells [.gptr b 0]) y = none ∧ setG (setG G x (.cells [.gptr b 0])) y (.cells [.str a.name, .str a.text, .int .i64 a.num, .int .u64 a.ticks]) z = none ∧ setG (setG (setG G x (.cells [.gptr b 0])) y (.cells [.str a.name, .str a.text, .int .i64 a.num, .int .u64 a.ticks])) z (.cells [.int .i64 (ticksOf a.ticks)]) w = none ∧ v = .tup [.agg [.fn (.func fg) [] [.gptr x 0, .gptr y 0], .fn (.func fd) [] [.gptr x 0, .gptr y 0, .gptr z 0, .gptr w 0]], .bool true] ∧ G' = setG (setG (setG (setG G x (.cells [.gptr b 0])) y (.cells [.str a.name, .str a.text, .int .i64 a.num, .int .u64 a.ticks])) z (.cells [.int .i64 (ticksOf a.ticks)])) w (.cells [.int .i64 a.now])))
    (hg : ∀ (H : Glob) (x y : Nat) (s : PS) (m : MV), PtG H b s m → PR s (expQ q a.now) → H x = some (.cells [.gptr b 0]) → H y = some (.cells [.str a.name, .str a.text, .int .i64 a.num, .int .u64 a.ticks]) → CallOk Tryz.prog TT fg [.gptr x 0, .gptr y 0] H (fun v G' => v = .int .i64 (growS s a) ∧ G' = H))
    (hd : ∀ (H : Glob) (x y z w : Nat) (s : PS) (m : MV), PtG H b s m → PR s (expQ q a.now) → H x = some (.cells [.gptr b 0]) → H y = some (.cells [.str a.name, .str a.text, .int .i64 a.num, .int .u64 a.ticks]) → H z = some (.cells [.int .i64 (ticksOf a.ticks)]) → H w = some (.cells [.int .i64 a.now]) → CallOk Tryz.prog TT fd [.gptr x 0, .gptr y 0, .gptr z 0, .gptr w 0] H (fun v G' => v = (applyQ (expQ q a.now) a).2.av ∧ PtX G' b (applyQ (expQ q a.now) a).1 ∧ PinK H G'))
    (hX : PtX G b q) : CallOk Tryz.prog TT 8 [.gptr b 0, .int .i64 a.op, .agg [.str a.name, .str a.text, .int .i64 a.num, .int .u64 a.ticks], .int .i64 a.now, .int .i64 a.limit] G (fun v G' => v = .tup [(doQ q a).2.1.av, .int .i64 (doQ q a).2.2] ∧ PtX G' b (doQ q a).1 ∧ PinK G G') := by
  obtain ⟨s, m, h, hp⟩ := hX
  have hall := le_all hp hq
  have hbd := hp.bounds (by omega)
  have hpE := hp.exp a.now
  have hszE := exp_size q a.now
  have hbE := hpE.bounds (by omega)
  have hgin := grow_in hpE a (by omega) hn ht
  have hfi := full_iff (a := a) hpE
  have hdq : doQ q a = if fullQ q a = true then (expQ q a.now, noRes, 13) else ((applyQ (expQ q a.now) a).1, (applyQ (expQ q a.now) a).2, 0) := by unfold doQ; rw [if_neg (by omega)]
  rw [hdq]
  clear hdq
  refine call_sem tt_ok Tryz.func8 rfl (by kernel_rfl) Tryz.ntmps8 Tryz.results8 ?_; conv => whnf
  repeat' (first | ((first | refine Sem.st tt_ok rfl ?_ | refine BS_t (by assumption) ?_ | refine BS_f (by assumption) ?_ | refine atG (by repeat (first | assumption | exact setG_same _ _ _ | refine atNe (by first | assumption | exact Ne.symm (by assumption)) ?_)) ?_ | refine nthKi (by assumption) ?_ | refine ⟨_, ⟨(by omega), (by assumption)⟩, ?_⟩ | refine And.intro (by first | decide | omega) ?_); conv => whnf) | refine Sem.seqS ?_ | refine Sem.block ?_)
  refine (hf).mono fun v G1 hv => ?_; obtain ⟨x, y, z, w, hx, hy, hz, hw, rfl, rfl⟩ := hv; conv => whnf
  obtain ⟨sub1, _⟩ := sub_new (X := (.cells [.gptr b 0])) hx
  have k1 : setG G x (.cells [.gptr b 0]) x = some (.cells [.gptr b 0]) := setG_same _ _ _
  generalize setG G x (.cells [.gptr b 0]) = H1 at *
  obtain ⟨sub2, _⟩ := sub_new (X := (.cells [.str a.name, .str a.text, .int .i64 a.num, .int .u64 a.ticks])) hy
  have k2 : setG H1 y (.cells [.str a.name, .str a.text, .int .i64 a.num, .int .u64 a.ticks]) y = some (.cells [.str a.name, .str a.text, .int .i64 a.num, .int .u64 a.ticks]) := setG_same _ _ _
  have k1 := sub2 _ _ k1
  generalize setG H1 y (.cells [.str a.name, .str a.text, .int .i64 a.num, .int .u64 a.ticks]) = H2 at *
  obtain ⟨sub3, _⟩ := sub_new (X := (.cells [.int .i64 (ticksOf a.ticks)])) hz
  have k3 : setG H2 z (.cells [.int .i64 (ticksOf a.ticks)]) z = some (.cells [.int .i64 (ticksOf a.ticks)]) := setG_same _ _ _
  have k1 := sub3 _ _ k1
  have k2 := sub3 _ _ k2
  generalize setG H2 z (.cells [.int .i64 (ticksOf a.ticks)]) = H3 at *
  obtain ⟨sub4, _⟩ := sub_new (X := (.cells [.int .i64 a.now])) hw
  have hww : setG H3 w (.cells [.int .i64 a.now]) w = some (.cells [.int .i64 a.now]) := setG_same _ _ _
  have hxx := sub4 _ _ k1
  have hyy := sub4 _ _ k2
  have hzz := sub4 _ _ k3
  have sub : ∀ i u, G i = some u → setG H3 w (.cells [.int .i64 a.now]) i = some u := fun i u hi => sub4 _ _ (sub3 _ _ (sub2 _ _ (sub1 _ _ hi)))
  generalize setG H3 w (.cells [.int .i64 a.now]) = H at *
  clear sub1 sub2 sub3 sub4 k1 k2 k3 hx hy hz hw
  have hH := h.sub sub
  have hex := Plexpire_ok H b m.l s.l a.now hp.l.nd hall.1 hall.2 (by omega) hH.stL
  repeat' (first | ((first | refine Sem.st tt_ok rfl ?_ | refine BS_t (by assumption) ?_ | refine BS_f (by assumption) ?_ | refine atG (by repeat (first | assumption | exact setG_same _ _ _ | refine atNe (by first | assumption | exact Ne.symm (by assumption)) ?_)) ?_ | refine nthKi (by assumption) ?_ | refine ⟨_, ⟨(by omega), (by assumption)⟩, ?_⟩ | refine And.intro (by first | decide | omega) ?_); conv => whnf) | refine Sem.seqS ?_ | refine Sem.block ?_)
  refine (hex).mono fun v G1 hv => ?_; obtain ⟨rfl, e1, e2⟩ := hv; conv => whnf
  have hE := hH.toL e1 e2
  have hpin : PinK G G1 := PinK.trans (fun i k o hi => sub _ _ hi) hE.2.1
  have ne : ∀ {i cs}, H i = some (.cells cs) → cs.length ≠ 8 → i ≠ b := fun hi hl e => by subst e; rw [hH.box] at hi; cases hi; exact hl rfl
  have hx1 := hE.2.2 x _ hxx (ne hxx (by simp))
  have hy1 := hE.2.2 y _ hyy (ne hyy (by simp))
  have hz1 := hE.2.2 z _ hzz (ne hzz (by simp))
  have hw1 := hE.2.2 w _ hww (ne hww (by simp))
  have hsz := psize_at hE.1.box (by omega) (by omega) (by omega) (by omega)
  have hgr := hg G1 x y _ _ hE.1 hpE hx1 hy1
  have hdo := hd G1 x y z w _ _ hE.1 hpE hx1 hy1 hz1 hw1
  have hEX : PtX G1 b (expQ q a.now) := ⟨_, _, hE.1, hpE⟩
  have hsum := hpE.size
  simp only at hsum hbE
  generalize growS ⟨s.k, s.c, s.f, liveL a.now s.l⟩ a = g at *
  generalize hrs : applyQ (expQ q a.now) a = ar at *
  obtain ⟨q', r⟩ := ar
  obtain ⟨rt, rh, rn⟩ := r
  clear hd hex hg hf hrs e1 e2 hE hx1 hy1 hxx hyy ne sub
  by_cases h1 : g > 0
  case neg =>
    have t1 : decide (g > 0) = false := decide_eq_false h1
    rw [t1, Bool.false_and] at hfi
    rw [hfi, if_neg (by decide)]
    clear hfi
    repeat' (first | ((first | refine Sem.st tt_ok rfl ?_ | refine BS_t (by assumption) ?_ | refine BS_f (by assumption) ?_ | refine atG (by repeat (first | assumption | exact setG_same _ _ _ | refine atNe (by first | assumption | exact Ne.symm (by assumption)) ?_)) ?_ | refine nthKi (by assumption) ?_ | refine ⟨_, ⟨(by omega), (by assumption)⟩, ?_⟩ | refine And.intro (by first | decide | omega) ?_); conv => whnf) | refine Sem.seqS ?_ | refine Sem.block ?_)
    refine hgr.on ?_; conv => whnf
    repeat' (first | ((first | refine Sem.st tt_ok rfl ?_ | refine BS_t (by assumption) ?_ | refine BS_f (by assumption) ?_ | refine atG (by repeat (first | assumption | exact setG_same _ _ _ | refine atNe (by first | assumption | exact Ne.symm (by assumption)) ?_)) ?_ | refine nthKi (by assumption) ?_ | refine ⟨_, ⟨(by omega), (by assumption)⟩, ?_⟩ | refine And.intro (by first | decide | omega) ?_); conv => whnf) | refine Sem.seqS ?_ | refine Sem.block ?_)
    refine hdo.mono fun v G2 hv => ?_
    obtain ⟨rfl, hX2, hp2⟩ := hv
    conv => whnf
    repeat' (first | ((first | refine Sem.st tt_ok rfl ?_ | refine BS_t (by assumption) ?_ | refine BS_f (by assumption) ?_ | refine atG (by repeat (first | assumption | exact setG_same _ _ _ | refine atNe (by first | assumption | exact Ne.symm (by assumption)) ?_)) ?_ | refine nthKi (by assumption) ?_ | refine ⟨_, ⟨(by omega), (by assumption)⟩, ?_⟩ | refine And.intro (by first | decide | omega) ?_); conv => whnf) | refine Sem.seqS ?_ | refine Sem.block ?_)
    exact ⟨_, fun _ _ h => h, rfl, hX2, hpin.trans hp2⟩
  have t1 : decide (g > 0) = true := decide_eq_true h1
  rw [t1, Bool.true_and] at hfi
  by_cases h2 : a.limit < g
  case pos =>
    have t2 : decide (a.limit < g) = true := decide_eq_true h2
    rw [t2, Bool.true_or] at hfi
    rw [hfi, if_pos rfl]
    clear hfi
    repeat' (first | ((first | refine Sem.st tt_ok rfl ?_ | refine BS_t (by assumption) ?_ | refine BS_f (by assumption) ?_ | refine atG (by repeat (first | assumption | exact setG_same _ _ _ | refine atNe (by first | assumption | exact Ne.symm (by assumption)) ?_)) ?_ | refine nthKi (by assumption) ?_ | refine ⟨_, ⟨(by omega), (by assumption)⟩, ?_⟩ | refine And.intro (by first | decide | omega) ?_); conv => whnf) | refine Sem.seqS ?_ | refine Sem.block ?_)
    refine hgr.on ?_; conv => whnf
    repeat' (first | ((first | refine Sem.st tt_ok rfl ?_ | refine BS_t (by assumption) ?_ | refine BS_f (by assumption) ?_ | refine atG (by repeat (first | assumption | exact setG_same _ _ _ | refine atNe (by first | assumption | exact Ne.symm (by assumption)) ?_)) ?_ | refine nthKi (by assumption) ?_ | refine ⟨_, ⟨(by omega), (by assumption)⟩, ?_⟩ | refine And.intro (by first | decide | omega) ?_); conv => whnf) | refine Sem.seqS ?_ | refine Sem.block ?_)
    exact ⟨_, fun _ _ h => h, rfl, hEX, hpin⟩
  have t2 : decide (a.limit < g) = false := decide_eq_false h2
  rw [t2, Bool.false_or] at hfi
  have w1 : IntKind.i64.wrap (a.limit - g) = a.limit - g := IntWalk.i64_in _ (by omega)
  by_cases h3 : (((expQ q a.now).size : Nat) : Int) > a.limit - g
  case pos =>
    rw [decide_eq_true h3] at hfi
    have t3 : decide (((sizeR s.k : Nat) : Int) + ((totC s.c : Nat) : Int) + ((totF s.f : Nat) : Int) + ((sizeL (liveL a.now s.l) : Nat) : Int) > IntKind.i64.wrap (a.limit - g)) = true := by rw [w1, decide_eq_true_eq]; omega
    rw [hfi, if_pos rfl]
    clear hfi
    repeat' (first | ((first | refine Sem.st tt_ok rfl ?_ | refine BS_t (by assumption) ?_ | refine BS_f (by assumption) ?_ | refine atG (by repeat (first | assumption | exact setG_same _ _ _ | refine atNe (by first | assumption | exact Ne.symm (by assumption)) ?_)) ?_ | refine nthKi (by assumption) ?_ | refine ⟨_, ⟨(by omega), (by assumption)⟩, ?_⟩ | refine And.intro (by first | decide | omega) ?_); conv => whnf) | refine Sem.seqS ?_ | refine Sem.block ?_)
    refine hgr.on ?_; conv => whnf
    repeat' (first | ((first | refine Sem.st tt_ok rfl ?_ | refine BS_t (by assumption) ?_ | refine BS_f (by assumption) ?_ | refine atG (by repeat (first | assumption | exact setG_same _ _ _ | refine atNe (by first | assumption | exact Ne.symm (by assumption)) ?_)) ?_ | refine nthKi (by assumption) ?_ | refine ⟨_, ⟨(by omega), (by assumption)⟩, ?_⟩ | refine And.intro (by first | decide | omega) ?_); conv => whnf) | refine Sem.seqS ?_ | refine Sem.block ?_)
    refine hsz.on ?_; conv => whnf
    repeat' (first | ((first | refine Sem.st tt_ok rfl ?_ | refine BS_t (by assumption) ?_ | refine BS_f (by assumption) ?_ | refine atG (by repeat (first | assumption | exact setG_same _ _ _ | refine atNe (by first | assumption | exact Ne.symm (by assumption)) ?_)) ?_ | refine nthKi (by assumption) ?_ | refine ⟨_, ⟨(by omega), (by assumption)⟩, ?_⟩ | refine And.intro (by first | decide | omega) ?_); conv => whnf) | refine Sem.seqS ?_ | refine Sem.block ?_)
    exact ⟨_, fun _ _ h => h, rfl, hEX, hpin⟩
  rw [decide_eq_false h3] at hfi
  have t3 : decide (((sizeR s.k : Nat) : Int) + ((totC s.c : Nat) : Int) + ((totF s.f : Nat) : Int) + ((sizeL (liveL a.now s.l) : Nat) : Int) > IntKind.i64.wrap (a.limit - g)) = false := by rw [w1, decide_eq_false_iff_not]; omega
  rw [hfi, if_neg (by decide)]
  clear hfi
  repeat' (first | ((first | refine Sem.st tt_ok rfl ?_ | refine BS_t (by assumption) ?_ | refine BS_f (by assumption) ?_ | refine atG (by repeat (first | assumption | exact setG_same _ _ _ | refine atNe (by first | assumption | exact Ne.symm (by assumption)) ?_)) ?_ | refine nthKi (by assumption) ?_ | refine ⟨_, ⟨(by omega), (by assumption)⟩, ?_⟩ | refine And.intro (by first | decide | omega) ?_); conv => whnf) | refine Sem.seqS ?_ | refine Sem.block ?_)
  refine hgr.on ?_; conv => whnf
  repeat' (first | ((first | refine Sem.st tt_ok rfl ?_ | refine BS_t (by assumption) ?_ | refine BS_f (by assumption) ?_ | refine atG (by repeat (first | assumption | exact setG_same _ _ _ | refine atNe (by first | assumption | exact Ne.symm (by assumption)) ?_)) ?_ | refine nthKi (by assumption) ?_ | refine ⟨_, ⟨(by omega), (by assumption)⟩, ?_⟩ | refine And.intro (by first | decide | omega) ?_); conv => whnf) | refine Sem.seqS ?_ | refine Sem.block ?_)
  refine hsz.on ?_; conv => whnf
  repeat' (first | ((first | refine Sem.st tt_ok rfl ?_ | refine BS_t (by assumption) ?_ | refine BS_f (by assumption) ?_ | refine atG (by repeat (first | assumption | exact setG_same _ _ _ | refine atNe (by first | assumption | exact Ne.symm (by assumption)) ?_)) ?_ | refine nthKi (by assumption) ?_ | refine ⟨_, ⟨(by omega), (by assumption)⟩, ?_⟩ | refine And.intro (by first | decide | omega) ?_); conv => whnf) | refine Sem.seqS ?_ | refine Sem.block ?_)
  refine hdo.mono fun v G2 hv => ?_
  obtain ⟨rfl, hX2, hp2⟩ := hv
  conv => whnf
  repeat' (first | ((first | refine Sem.st tt_ok rfl ?_ | refine BS_t (by assumption) ?_ | refine BS_f (by assumption) ?_ | refine atG (by repeat (first | assumption | exact setG_same _ _ _ | refine atNe (by first | assumption | exact Ne.symm (by assumption)) ?_)) ?_ | refine nthKi (by assumption) ?_ | refine ⟨_, ⟨(by omega), (by assumption)⟩, ?_⟩ | refine And.intro (by first | decide | omega) ?_); conv => whnf) | refine Sem.seqS ?_ | refine Sem.block ?_)
  exact ⟨_, fun _ _ h => h, rfl, hX2, hpin.trans hp2⟩
theorem pdo0_ok {G : Glob} {b : Nat} {q : PQ} {a : St31} (hop : a.op < 1 ∨ 8 < a.op) (hX : PtX G b q) : CallOk Tryz.prog TT 8 [.gptr b 0, .int .i64 a.op, .agg [.str a.name, .str a.text, .int .i64 a.num, .int .u64 a.ticks], .int .i64 a.now, .int .i64 a.limit] G (fun v G' => v = .tup [(doQ q a).2.1.av, .int .i64 (doQ q a).2.2] ∧ PtX G' b (doQ q a).1 ∧ PinK G G') := by
  have hdq : doQ q a = (q, noRes, 4) := by unfold doQ; rw [if_pos hop]
  have hf := find0_ok G b a a.op a.now hop
  rw [hdq]
  refine call_sem tt_ok Tryz.func8 rfl (by kernel_rfl) Tryz.ntmps8 Tryz.results8 ?_; conv => whnf
  repeat' (first | ((first | refine Sem.st tt_ok rfl ?_ | refine BS_t (by assumption) ?_ | refine BS_f (by assumption) ?_ | refine atG (by repeat (first | assumption | exact setG_same _ _ _ | refine atNe (by first | assumption | exact Ne.symm (by assumption)) ?_)) ?_ | refine nthKi (by assumption) ?_ | refine ⟨_, ⟨(by omega), (by assumption)⟩, ?_⟩ | refine And.intro (by first | decide | omega) ?_); conv => whnf) | refine Sem.seqS ?_ | refine Sem.block ?_)
  refine hf.on ?_; conv => whnf
  repeat' (first | ((first | refine Sem.st tt_ok rfl ?_ | refine BS_t (by assumption) ?_ | refine BS_f (by assumption) ?_ | refine atG (by repeat (first | assumption | exact setG_same _ _ _ | refine atNe (by first | assumption | exact Ne.symm (by assumption)) ?_)) ?_ | refine nthKi (by assumption) ?_ | refine ⟨_, ⟨(by omega), (by assumption)⟩, ?_⟩ | refine And.intro (by first | decide | omega) ?_); conv => whnf) | refine Sem.seqS ?_ | refine Sem.block ?_)
  exact ⟨_, fun _ _ h => h, rfl, hX, PinK.refl _⟩
theorem pdo_ok {G : Glob} {b : Nat} {q : PQ} {a : St31} (hq : q.size ≤ 1000000) (hlim : -9223372036854775808 ≤ a.limit ∧ a.limit ≤ 9223372036854775807) (htk : 0 ≤ a.ticks ∧ a.ticks ≤ 18446744073709551615) (hn : a.name.size ≤ 140737488351232) (ht : a.text.size ≤ 140737488351232) (hX : PtX G b q) :
    CallOk Tryz.prog TT 8 [.gptr b 0, .int .i64 a.op, .agg [.str a.name, .str a.text, .int .i64 a.num, .int .u64 a.ticks], .int .i64 a.now, .int .i64 a.limit] G (fun v G' => v = .tup [(doQ q a).2.1.av, .int .i64 (doQ q a).2.2] ∧ PtX G' b (doQ q a).1 ∧ PinK G G') := by
  have he := exp_size q a.now
  by_cases h0 : a.op < 1 ∨ 8 < a.op
  · exact pdo0_ok h0 hX
  have hop : 1 ≤ a.op ∧ a.op ≤ 8 := by omega
  have hc : a.op = 1 ∨ a.op = 2 ∨ a.op = 3 ∨ a.op = 4 ∨ a.op = 5 ∨ a.op = 6 ∨ a.op = 7 ∨ a.op = 8 := by omega
  rcases hc with h | h | h | h | h | h | h | h
  · exact pdoA_ok 79 hq hop (fun s => by unfold growS; simp [h]) hlim hn ht (by rw [h]; exact find1_ok G b a a.now) (fun H x y s m h1 h2 h3 h4 => dget_ok h1 h2 (by omega) h hn ht h3 h4) hX
  · exact pdoB_ok 80 82 hq hop hlim hn ht (by rw [h]; exact find2_ok G b a a.now) (fun H x y s m h1 h2 h3 h4 => gput_ok h1 h2 (by omega) h hn ht h3 h4) (fun H x y s m h1 h2 h3 h4 => dput_ok h1 h2 (by omega) h hn ht h3 h4) hX
  · exact pdoA_ok 84 hq hop (fun s => by unfold growS; simp [h]) hlim hn ht (by rw [h]; exact find3_ok G b a a.now) (fun H x y s m h1 h2 h3 h4 => ddel_ok h1 h2 (by omega) h hn ht h3 h4) hX
  · exact pdoB_ok 49 51 hq hop hlim hn ht (by rw [h]; exact find4_ok G b a a.now) (fun H x y s m h1 h2 h3 h4 => gaddP_ok h1 h2 (by omega) h hn ht h3 h4) (fun H x y s m h1 h2 h3 h4 => daddP_ok h1 h2 (by omega) h hn ht h3 h4) hX
  · exact pdoB_ok 86 88 hq hop hlim hn ht (by rw [h]; exact find5_ok G b a a.now) (fun H x y s m h1 h2 h3 h4 => gpush_ok h1 h2 (by omega) h hn ht h3 h4) (fun H x y s m h1 h2 h3 h4 => dpush_ok h1 h2 (by omega) h hn ht h3 h4) hX
  · exact pdoA_ok 90 hq hop (fun s => by unfold growS; simp [h]) hlim hn ht (by rw [h]; exact find6_ok G b a a.now) (fun H x y s m h1 h2 h3 h4 => dpop_ok h1 h2 (by omega) h hn ht h3 h4) hX
  · exact pdoC_ok 53 55 hq hop hlim hn ht (by rw [h]; exact find7_ok G b a a.now htk) (fun H x y s m h1 h2 h3 h4 => gtake_ok h1 h2 (by omega) h hn ht h3 h4) (fun H x y z w s m h1 h2 h3 h4 h5 h6 => dtake_ok h1 h2 (by omega) h hn ht h3 h4 h5 h6) hX
  · exact pdoA_ok 58 hq hop (fun s => by unfold growS; simp [h]) hlim hn ht (by rw [h]; exact find8_ok G b a a.now) (fun H x y s m h1 h2 h3 h4 => dfree_ok h1 h2 (by omega) h hn ht h3 h4) hX
end Go.Proofs.YtpihanlillbhkaaGreatDoor
