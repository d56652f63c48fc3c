/- A call: what is handed over, and what comes back. -/
import Derived.Test.YtmmmaekaoanceaaAf
namespace Go.Proofs.Ytmmmaekaoanceaa
open Go Go.RowKit

section
variable {P : Program} {T : TypeId → TR} {g g' : Gh} {w w' : World} {a : Act}

theorem St.env {c : Cf} (h : St T g w a c) : EnvR T g w c.env a := ⟨h.size, h.vals, h.defers⟩
theorem St.mk' {c : Cf} (h : Rel T g c.L c.nl c.nt c.G w) (he : EnvR T g w c.env a) : St T g w a c := ⟨h, he.size, he.vals, he.defers⟩
theorem Cx.refl (S : Nat → Prop) (g : Gh) (w : World) : Cx S g w g w := ⟨Dx.refl g w, Nat.le_refl _, fun _ _ => rfl, Nat.le_refl _, fun _ _ _ => ⟨rfl, fun _ _ _ _ _ => ⟨rfl, rfl⟩⟩⟩
theorem Cx.trans {S : Nat → Prop} {g1 g2 g3 : Gh} {w1 w2 w3 : World} (h : Cx S g1 w1 g2 w2) (k : Cx S g2 w2 g3 w3) (hs : w1.heap.size ≤ w2.heap.size) : Cx S g1 w1 g3 w3 := by
  refine ⟨h.dx.trans k.dx, Nat.le_trans h.nl k.nl, fun j hj => (k.lam j (Nat.lt_of_lt_of_le hj h.nl)).trans (h.lam j hj), Nat.le_trans h.nt k.nt, fun j hj hn => ?_⟩
  obtain ⟨h1, h2⟩ := h.tok j hj hn
  obtain ⟨k1, k2⟩ := k.tok j (Nat.lt_of_lt_of_le hj h.nt) hn
  refine ⟨k1.trans h1, fun q n q1 q2 q3 => ?_⟩
  obtain ⟨p1, p2⟩ := h2 q n q1 q2 q3
  obtain ⟨r1, r2⟩ := k2 q n (by rw [h1]; exact q1) (by rw [p1]; exact q2) (Nat.lt_of_lt_of_le q3 hs)
  exact ⟨r1.trans p1, r2.trans p2⟩

/-- a local box is lent -/
theorem lend_live {L : List LB} {nl nt : Nat} {G : Glob} (hr : Rel T g L nl nt G w) {j : Nat} {org : Option Nat} {cells : List AV} (hj : L[j]? = some (.live org cells)) (b : Nat) (g' : Gh) (hown : g'.own = fun i => if i = g.lam j then .gbox b else g.own i)
    (hb : b < g'.nb) (hbeta : g'.beta b = g.lam j) (hold : ∀ i, i < g.nb → g'.beta i = g.beta i) (hnb : g.nb ≤ g'.nb) (hl : g'.lam = g.lam) (hnl : g'.nl = g.nl) (ht : g'.tau = g.tau) (hnt : g'.nt = g.nt) :
    Rel T g' (L.set j (.away b)) nl nt (setG G b (.cells (cells.map dat0))) w ∧ Cx (fun _ => False) g w g' w ∧ Ext g w g' w := by
  have hloc := hr.loc j _ hj
  obtain ⟨ho, ⟨us, e, c1, c2, c3, c4⟩, horg⟩ := hloc
  have hne : ∀ k i, g.frz k i → k ≠ g.lam j := by
    rintro k i h rfl
    unfold Gh.frz at h; rw [ho] at h; exact h
  have dx : Dx g w g' w := ⟨fun k i u h1 h2 => ⟨by unfold Gh.frz at *; rw [hown]; simp only [hne k i h1, if_false]; exact h1, h2⟩, hnb, hold⟩
  have cx : Cx (fun _ => False) g w g' w := ⟨dx, Nat.le_of_eq hnl.symm, fun _ _ => by rw [hl], Nat.le_of_eq hnt.symm, fun i _ _ => ⟨by rw [ht], fun k n _ h2 _ => ⟨by
    have : k ≠ g.lam j := by rintro rfl; rw [ho] at h2; cases h2
    rw [hown]; simp only [this, if_false], rfl⟩⟩⟩
  refine ⟨⟨fun i bx hi => ?_, fun i bx hi => ?_, by simpa using hr.hL, by rw [hnl]; exact hr.hl, by rw [hnt]; exact hr.ht⟩, cx, ⟨dx.cell, dx.nb, dx.beta, fun k _ h2 => ⟨by
    have : k ≠ g.lam j := by rintro rfl; rw [ho] at h2; exact h2
    rw [hown]; simp only [this, if_false], rfl⟩, Nat.le_refl _, rfl, rfl, rfl⟩⟩
  · by_cases hib : i = b
    · subst hib
      rw [setG_same] at hi
      simp only [Option.some.injEq] at hi
      subst hi
      refine ⟨hb, by rw [hbeta, hown]; simp, ?_⟩
      show CellsAt w (g'.beta i) _ _
      rw [hbeta]
      refine ⟨us, e, c1, by simpa using c2, c3, fun q c u hc hu => ?_⟩
      rw [List.getElem?_map] at hc
      obtain ⟨c', hc', rfl⟩ := Option.map_eq_some_iff.1 hc
      exact (dat0_sound (c4 q c' u hc' hu) (c3 _ (Array.mem_of_getElem? hu))).mono dx
    · rw [setG_ne _ _ hib] at hi
      obtain ⟨i1, i2, i3⟩ := hr.glob i bx hi
      have hnj : g.beta i ≠ g.lam j := by intro h; rw [h, ho] at i2; cases i2
      refine ⟨Nat.lt_of_lt_of_le i1 hnb, by rw [hold i i1, hown]; simp only [hnj, if_false]; exact i2, ?_⟩
      refine i3.keep i1 i2 dx fun k hk _ => ⟨?_, rfl⟩
      have : k ≠ g.lam j := by rintro rfl; rw [ho] at hk; exact hk
      rw [hown]; simp only [this, if_false]
  · by_cases hij : i = j
    · subst hij
      rw [List.getElem?_set_self (List.getElem?_eq_some_iff.1 hj).1] at hi
      simp only [Option.some.injEq] at hi
      subst hi
      exact ⟨hb, by rw [hbeta, hl]⟩
    · rw [List.getElem?_set_ne (Ne.symm hij)] at hi
      refine (hr.loc i bx hi).keep (by rw [hr.hl, ← hr.hL]; exact (List.getElem?_eq_some_iff.1 hi).1) cx (fun org cells hb h1 => ⟨?_, rfl⟩)
      have hnj : g.lam i ≠ g.lam j := by intro h; rw [h, ho] at h1; simp only [Own.lbox.injEq] at h1; exact hij h1.symm
      rw [hown]; simp only [hnj, if_false]; exact h1
/-- what a lending leaves -/
def Lent (T : TypeId → TR) (g : Gh) (w : World) (a : Act) (c : Cf) (K : Gh → Cf → Prop) : Prop :=
  ∃ g' c', K g' c' ∧ St T g' w a c' ∧ c'.env = c.env ∧ Cx (fun _ => False) g w g' w ∧ Ext g w g' w
theorem lend_sound {c : Cf} (hs : St T g w a c) (j : Nat) (K : Nat → Cf → Prop) (h : lendK j c K) : Lent T g w a c fun g' c' => ∃ b, K b c' ∧ b < g'.nb ∧ g'.beta b = g.lam j := by
  obtain ⟨env, L, nl, nt, G⟩ := c
  have hr := hs.rel
  have he := hs.env
  obtain ⟨bx, hj, h⟩ := (nthK_iff _ _).1 h
  cases bx with
  | live org cells =>
    have hloc := hr.loc j _ hj
    cases org with
    | some b =>
      simp only at h
      rw [dat0sK_iff, setK_iff] at h
      obtain ⟨_, hK⟩ := h
      obtain ⟨h1, h2⟩ := hloc.2.2 b rfl
      obtain ⟨q1, q2, q3⟩ := lend_live hr hj b { g with own := fun i => if i = g.lam j then .gbox b else g.own i } rfl h1 h2 (fun _ _ => rfl) (Nat.le_refl _) rfl rfl rfl rfl
      exact ⟨{ g with own := fun i => if i = g.lam j then .gbox b else g.own i }, _, ⟨b, hK, h1, h2⟩, St.mk' q1 (he.keep q2), rfl, q2, q3⟩
    | none =>
      simp only at h
      rw [dat0sK_iff] at h
      have hfree : G g.nb = none := by
        cases hG : G g.nb with
        | none => rfl
        | some bx => have := (hr.glob g.nb bx hG).1; omega
      have h := h g.nb hfree
      rw [setK_iff] at h
      obtain ⟨_, hK⟩ := h
      obtain ⟨q1, q2, q3⟩ := lend_live hr hj g.nb { g with own := fun i => if i = g.lam j then .gbox g.nb else g.own i, beta := fun i => if i = g.nb then g.lam j else g.beta i, nb := g.nb + 1 } rfl (Nat.lt_succ_self _) (by simp) (fun i hi => by simp [show i ≠ g.nb by omega]) (Nat.le_succ _) rfl rfl rfl rfl
      exact ⟨_, _, ⟨g.nb, hK, Nat.lt_succ_self _, by simp⟩, St.mk' q1 (he.keep q2), rfl, q2, q3⟩
  | away b =>
    obtain ⟨h1, h2⟩ := hr.loc j _ hj
    exact ⟨g, _, ⟨b, h, h1, h2⟩, hs, rfl, Cx.refl _ _ _, Ext.refl _ _⟩
  | dead => exact h.elim
theorem lendC_sound {c : Cf} (hs : St T g w a c) {v : AV} {u : Value} (hv : Cz T g w v u) (h1 : u.oneCell' = true) (K : AV → Cf → Prop) (h : lendCK v c K) : Lent T g w a c fun g' c' => ∃ v', K v' c' ∧ Dz T g' w v' u := by
  have other : (∀ K : AV → Cf → Prop, lendCK v c K ↔ dat0K v fun v' => K v' c) → Lent T g w a c fun g' c' => ∃ v', K v' c' ∧ Dz T g' w v' u := fun hk => by
    rw [hk, dat0K_iff] at h
    exact ⟨g, c, ⟨_, h, dat0_sound hv h1⟩, hs, rfl, Cx.refl _ _ _, Ext.refl _ _⟩
  cases v with
  | lptr j o =>
    obtain ⟨g', c', ⟨b, q1, q2, q3⟩, r1, r2, r3, r4⟩ := lend_sound hs j _ h
    refine ⟨g', c', ⟨_, q1, ?_⟩, r1, r2, r3, r4⟩
    rw [(cz_lptr hv).2, ← q3]
    exact .gptr b o q2
  | _ => exact other (fun _ => Iff.rfl)
/-- lendings, one behind the other -/
theorem lends_sound {F : AV → Cf → (AV → Cf → Prop) → Prop} {Fs : List AV → Cf → (List AV → Cf → Prop) → Prop} (hn : ∀ c K, Fs [] c K = K [] c) (hc : ∀ v r c K, Fs (v :: r) c K = F v c fun v' c' => Fs r c' fun l c'' => K (v' :: l) c'')
    {Pre : AV → Value → Prop} (hF : ∀ {g : Gh} {c : Cf} {v : AV} {u : Value}, St T g w a c → Cz T g w v u → Pre v u → ∀ K : AV → Cf → Prop, F v c K → Lent T g w a c fun g' c' => ∃ v', K v' c' ∧ Dz T g' w v' u) :
    ∀ (vs : List AV) (us : List Value) (g : Gh) (c : Cf), St T g w a c → vs.length = us.length → (∀ (i : Nat) (v : AV) (u : Value), vs[i]? = some v → us[i]? = some u → Cz T g w v u ∧ Pre v u) → ∀ K : List AV → Cf → Prop, Fs vs c K →
      Lent T g w a c fun g' c' => ∃ l, K l c' ∧ l.length = us.length ∧ ∀ (i : Nat) (v : AV) (u : Value), l[i]? = some v → us[i]? = some u → Dz T g' w v u
  | [], [], g, c, hs, _, _, K, h => by
    rw [hn] at h
    exact ⟨g, c, ⟨[], h, rfl, fun i v u h => by simp at h⟩, hs, rfl, Cx.refl _ _ _, Ext.refl _ _⟩
  | v :: vs, u :: us, g, c, hs, hl, hp, K, h => by
    rw [hc] at h
    obtain ⟨p1, p2⟩ := hp 0 v u rfl rfl
    obtain ⟨g1, c1, ⟨v', q1, q2⟩, r1, r2, r3, r4⟩ := hF hs p1 p2 _ h
    obtain ⟨g2, c2, ⟨l, s1, s2, s3⟩, t1, t2, t3, t4⟩ := lends_sound hn hc hF vs us g1 c1 r1 (by simpa using hl) (fun i v u hv hu => by
      obtain ⟨z1, z2⟩ := hp (i + 1) v u (by simpa using hv) (by simpa using hu)
      exact ⟨z1.mono r3, z2⟩) _ q1
    refine ⟨g2, c2, ⟨v' :: l, s1, by simp [s2], fun i z y hz hy => ?_⟩, t1, t2.trans r2, r3.trans t3 (Nat.le_refl _), r4.trans t4⟩
    cases i with
    | zero => simp at hz hy; subst hz; subst hy; exact q2.mono t3.dx
    | succ i => exact s3 i z y (by simpa using hz) (by simpa using hy)
theorem lendCs_sound (vs : List AV) (us : Array Value) (c : Cf) (hs : St T g w a c) (hl : vs.length = us.size) (h1 : ∀ u ∈ us, u.oneCell' = true) (hp : ∀ (i : Nat) (v : AV) (u : Value), vs[i]? = some v → us[i]? = some u → Cz T g w v u) (K : List AV → Cf → Prop) (h : lendCsK vs c K) :
    Lent T g w a c fun g' c' => ∃ l, K l c' ∧ l.length = us.size ∧ ∀ (i : Nat) (v : AV) (u : Value), l[i]? = some v → us[i]? = some u → Dz T g' w v u := by
  obtain ⟨g', c', ⟨l, q1, q2, q3⟩, r⟩ := lends_sound (Pre := fun _ u => u.oneCell' = true) (fun _ _ => rfl) (fun _ _ _ _ => rfl) (fun hs hv h1 K h => lendC_sound hs hv h1 K h) vs us.toList g c hs (by simpa using hl) (fun i v u hv hu => ⟨hp i v u hv (by simpa using hu), h1 u (by simpa using List.mem_of_getElem? hu)⟩) K h
  exact ⟨g', c', ⟨l, q1, by simpa using q2, fun i v u hv hu => q3 i v u hv (by simpa using hu)⟩, r⟩
theorem lend0_sound {c : Cf} (hs : St T g w a c) {v : AV} {u : Value} (hv : Cz T g w v u) (K : AV → Cf → Prop) (h : lend0K v c K) : Lent T g w a c fun g' c' => ∃ v', K v' c' ∧ Dz T g' w v' u := by
  cases v <;> first | exact h.elim | exact lendC_sound hs hv (cz_one (fun _ h => by cases h) (fun h => by cases h) (fun _ h => by cases h) hv) K h
theorem lend0s_sound (vs : List AV) (us : Array Value) (c : Cf) (hs : St T g w a c) (hl : vs.length = us.size) (hp : ∀ (i : Nat) (v : AV) (u : Value), vs[i]? = some v → us[i]? = some u → Cz T g w v u) (K : List AV → Cf → Prop) (h : lend0sK vs c K) :
    Lent T g w a c fun g' c' => ∃ l, K l c' ∧ l.length = us.size ∧ ∀ (i : Nat) (v : AV) (u : Value), l[i]? = some v → us[i]? = some u → Dz T g' w v u := by
  obtain ⟨g', c', ⟨l, q1, q2, q3⟩, r⟩ := lends_sound (Pre := fun _ _ => True) (fun _ _ => rfl) (fun _ _ _ _ => rfl) (fun hs hv _ K h => lend0_sound hs hv K h) vs us.toList g c hs (by simpa using hl) (fun i v u hv hu => ⟨hp i v u hv (by simpa using hu), trivial⟩) K h
  exact ⟨g', c', ⟨l, q1, by simpa using q2, fun i v u hv hu => q3 i v u hv (by simpa using hu)⟩, r⟩
theorem lend1_sound {c : Cf} (hs : St T g w a c) {v : AV} {u : Value} (hv : Cz T g w v u) (K : AV → Cf → Prop) (h : lend1K v c K) : Lent T g w a c fun g' c' => ∃ v', K v' c' ∧ Dz T g' w v' u := by
  cases v with
  | fn f p q =>
    obtain ⟨us, vs, rfl, ha, hb, h1, h2⟩ := cz_fn hv
    obtain ⟨g1, c1, ⟨l1, q1, q2, q3⟩, r1, r2, r3, r4⟩ := lend0s_sound p us c hs ha h1 _ h
    obtain ⟨g2, c2, ⟨l2, s1, s2, s3⟩, t1, t2, t3, t4⟩ := lend0s_sound q vs c1 r1 hb (fun i v u hv hu => (h2 i v u hv hu).mono r3) _ q1
    exact ⟨g2, c2, ⟨_, s1, .fn _ _ _ _ _ q2 s2 (fun i v u hv hu => (q3 i v u hv hu).mono t3.dx) s3⟩, t1, t2.trans r2, r3.trans t3 (Nat.le_refl _), r4.trans t4⟩
  | agg cs =>
    obtain ⟨us, rfl, hl, h1, h2⟩ := cz_agg hv
    obtain ⟨g1, c1, ⟨l1, q1, q2, q3⟩, r⟩ := lendCs_sound cs us c hs hl h1 h2 _ h
    exact ⟨g1, c1, ⟨_, q1, .agg _ _ q2 h1 q3⟩, r⟩
  | ifc t v =>
    obtain ⟨y, rfl, hy⟩ := cz_ifc hv
    have other : lend0K v c (fun v' c' => K (.ifc t v') c') → Lent T g w a c fun g' c' => ∃ v', K v' c' ∧ Dz T g' w v' (.iface t y) := fun h => by
      obtain ⟨g1, c1, ⟨l1, q1, q2⟩, r⟩ := lend0_sound hs hy _ h
      exact ⟨g1, c1, ⟨_, q1, .ifc t _ _ q2⟩, r⟩
    cases v with
    | agg cs =>
      obtain ⟨us, rfl, hl, h1, h2⟩ := cz_agg hy
      obtain ⟨g1, c1, ⟨l1, q1, q2, q3⟩, r⟩ := lendCs_sound cs us c hs hl h1 h2 _ h
      exact ⟨g1, c1, ⟨_, q1, .ifc t _ _ (.agg _ _ q2 h1 q3)⟩, r⟩
    | _ => exact other h
  | _ => exact lend0_sound hs hv K h
theorem lend1s_sound (vs : List AV) (us : Array Value) (c : Cf) (hs : St T g w a c) (hl : vs.length = us.size) (hp : ∀ (i : Nat) (v : AV) (u : Value), vs[i]? = some v → us[i]? = some u → Cz T g w v u) (K : List AV → Cf → Prop) (h : lend1sK vs c K) :
    Lent T g w a c fun g' c' => ∃ l, K l c' ∧ l.length = us.size ∧ ∀ (i : Nat) (v : AV) (u : Value), l[i]? = some v → us[i]? = some u → Dz T g' w v u := by
  obtain ⟨g', c', ⟨l, q1, q2, q3⟩, r⟩ := lends_sound (Pre := fun _ _ => True) (fun _ _ => rfl) (fun _ _ _ _ => rfl) (fun hs hv _ K h => lend1_sound hs hv K h) vs us.toList g c hs (by simpa using hl) (fun i v u hv hu => ⟨hp i v u hv (by simpa using hu), trivial⟩) K h
  exact ⟨g', c', ⟨l, q1, by simpa using q2, fun i v u hv hu => q3 i v u hv (by simpa using hu)⟩, r⟩

/-- what a callee sees of its caller's own blocks -/
def Gh.hide (g : Gh) : Gh := { g with own := fun k => match g.own k with | .lbox _ => .prot 0 | .tok _ n => .prot n | o => o }
/-- the caller's own blocks again -/
def Gh.back (g : Gh) (w : World) (g' : Gh) : Gh := { g' with own := fun k => if k < w.heap.size then (match g.own k with | .lbox j => .lbox j | .tok j n => .tok j n | _ => g'.own k) else g'.own k, lam := g.lam, nl := g.nl, tau := g.tau, nt := g.nt }
theorem hide_dx (g : Gh) (w : World) : Dx g w g.hide w := by
  refine ⟨fun k i u h1 h2 => ⟨?_, h2⟩, Nat.le_refl _, fun _ _ => rfl⟩
  unfold Gh.frz Gh.hide at *
  revert h1
  simp only
  cases g.own k <;> intro h1 <;> first | exact h1 | exact h1.elim
theorem hide_rel {G : Glob} (h : GRel T g G w) : GRel T g.hide G w := by
  intro b bx hb
  obtain ⟨h1, h2, h3⟩ := h b bx hb
  refine ⟨h1, by simp only [Gh.hide, h2], h3.keep h1 h2 (hide_dx g w) fun k hk _ => ⟨?_, rfl⟩⟩
  simp only [Gh.hide]
  revert hk
  cases g.own k <;> intro hk <;> first | rfl | exact hk.elim
theorem back_dx {g' : Gh} (h : Ext g.hide w g' w') : Dx g' w' (g.back w g') w' := by
  refine ⟨fun k i u h1 h2 => ⟨?_, h2⟩, Nat.le_refl _, fun _ _ => rfl⟩
  unfold Gh.frz Gh.back at *
  simp only
  split
  · rename_i hk
    have hkept := h.kept k hk
    cases ho : g.own k with
    | lbox j =>
      have := (hkept (by simp [Gh.hide, ho, Own.kept])).1
      rw [this] at h1
      simp only [Gh.hide, ho] at h1
      exact absurd h1 (Nat.not_lt_zero _)
    | tok j n =>
      have := (hkept (by simp [Gh.hide, ho, Own.kept])).1
      rw [this] at h1
      simp only [Gh.hide, ho] at h1
      exact h1
    | _ => exact h1
  · exact h1
theorem back_cx {g' : Gh} (h : Ext g.hide w g' w') : Cx (fun _ => False) g w (g.back w g') w' := by
  refine ⟨?_, Nat.le_refl _, fun _ _ => rfl, Nat.le_refl _, fun j hj _ => ⟨rfl, fun k n h1 h2 hk => ⟨by simp only [Gh.back, hk, if_true, h2], ?_⟩⟩⟩
  · have := (hide_dx g w).trans (h.dx.trans (back_dx h))
    exact this
  · exact (h.kept k hk (by simp [Gh.hide, h2, Own.kept])).2
theorem back_ext {g' : Gh} (h : Ext g.hide w g' w') : Ext g w (g.back w g') w' := by
  have := (back_cx h).dx
  refine ⟨this.cell, this.nb, this.beta, fun k hk hkept => ?_, h.size, h.os, h.tape, h.output⟩
  have h1 := h.kept k hk
  have h2 : (g.hide.own k).kept ∧ g.hide.own k = g.own k := by
    revert hkept; simp only [Gh.hide]; cases g.own k <;> intro hkept <;> first | exact ⟨trivial, rfl⟩ | exact hkept.elim
  obtain ⟨h3, h4⟩ := h1 h2.1
  refine ⟨?_, h4⟩
  rw [h2.2] at h3
  simp only [Gh.back, hk, if_true]
  revert hkept
  cases ho : g.own k <;> intro hkept <;> first | (rw [ho] at h3; exact h3) | exact hkept.elim
theorem back_st {g' : Gh} {c : Cf} (hs : St T g w a c) (h : Ext g.hide w g' w') {G' : Glob} (hG : GRel T g' G' w') : St T (g.back w g') w' a { c with G := G' } := by
  have cx := back_cx h
  refine St.mk' ⟨fun b bx hb => ?_, fun j bx hj => ?_, hs.rel.hL, hs.rel.hl, hs.rel.ht⟩ (hs.env.keep cx)
  · obtain ⟨h1, h2, h3⟩ := hG b bx hb
    refine ⟨h1, ?_, ?_⟩
    · simp only [Gh.back]
      split
      · rename_i hk
        have hkept := h.kept _ hk
        cases ho : g.own (g'.beta b) with
        | lbox j => have := (hkept (by simp [Gh.hide, ho, Own.kept])).1; rw [this] at h2; simp [Gh.hide, ho] at h2
        | tok j n => have := (hkept (by simp [Gh.hide, ho, Own.kept])).1; rw [this] at h2; simp [Gh.hide, ho] at h2
        | _ => exact h2
      · exact h2
    · refine h3.keep h1 h2 (back_dx h) fun k hk _ => ⟨?_, rfl⟩
      simp only [Gh.back]
      split
      · rename_i hlt
        have hkept := h.kept k hlt
        cases ho : g.own k with
        | lbox j => have := (hkept (by simp [Gh.hide, ho, Own.kept])).1; rw [this] at hk; simp only [Gh.hide, ho] at hk; exact hk.elim
        | tok j n => have := (hkept (by simp [Gh.hide, ho, Own.kept])).1; rw [this] at hk; simp only [Gh.hide, ho] at hk; exact hk.elim
        | _ => rfl
      · rfl
  · refine (hs.rel.loc j bx hj).keep (by rw [hs.rel.hl, ← hs.rel.hL]; exact (List.getElem?_eq_some_iff.1 hj).1) cx (fun org cells hb h1 => ?_)
    have hlt : g.lam j < w.heap.size := by have := hs.rel.loc j bx hj; rw [hb] at this; exact loc_lt this
    exact ⟨by simp only [Gh.back, hlt, if_true, h1], (h.kept _ hlt (by simp [Gh.hide, h1, Own.kept])).2⟩
/-- after a call -/
theorem call_sound {f : FuncId} {args : List AV} {Q : AV → Glob → Prop} {c : Cf} (hs : St T g w a c) (hc : CallOk P T f args c.G Q) (us : Array Value) (hl : us.size = args.length) (hp : ∀ (i : Nat) (v : AV) (u : Value), args[i]? = some v → us[i]? = some u → Dz T g w v u) :
    Calls P f us w fun e w' => ∃ u g' G' v, e = .returned u ∧ Q v G' ∧ St T g' w' a { c with G := G' } ∧ Ext g w g' w' ∧ Dz T g' w' v u :=
  (hc.calls g.hide us w (hide_rel hs.rel.glob) hl (fun i v u hv hu => (hp i v u hv hu).mono (hide_dx g w))).mono fun _ _ ⟨u, g', G', v, h1, h2, h3, h4, h5⟩ =>
    ⟨u, g.back w g', G', v, h1, h2, back_st hs h4 h3, back_ext h4, h5.mono (back_dx h4)⟩
theorem run_callFunc {id : FuncId} {fn : Func} {args : Array Value} (e1 : P.funcs[id]? = some fn) (e2 : (fn.name == "runtime.NumGoroutine") = false) (e3 : fn.body.isNone = false) : (callFunc id args).run P w = .ok (.enter id args) w := by
  unfold callFunc
  simp only [Sem.run_bind, run_program, Result.andThen_ok, e1, e2, e3, Bool.false_eq_true, if_false, Sem.run_pure]
theorem e_call {o : Oper} {env : List AV} {L : List LB} {nl nt : Nat} {G : Glob} (hs : St T g w a ⟨env, L, nl, nt, G⟩) (f : Operand) (args : Array Operand) (ts : Array TypeId) (ho : o.op = .call { callee := .value f, args := args, argTypes := ts })
    {next : Act → World → Prop} {Q : Exit → Act → World → Prop} {K : AV → Cf → Prop} (hn : NextOk T a o.dst next g w K) (h : evOp0 P T (.call { callee := .value f, args := args, argTypes := ts }) ⟨env, L, nl, nt, G⟩ K) : o.wp P a w next Q := by
  simp only [evOp0] at h
  obtain ⟨fv, h1, h2, h2'⟩ := opd_sound hs.env f _ h
  clear h2'
  cases fv <;> first | exact h1.elim | skip
  rename_i fn p q
  cases fn <;> first | exact h1.elim | skip
  rename_i id
  obtain ⟨us, vs, ef, hpl, hql, hp, hq⟩ := cz_fn h2
  obtain ⟨l, h3, h3', h4, h5⟩ := opds_sound hs.env args.toList _ h1
  clear h3'
  obtain ⟨g1, c1, ⟨p', q1, q2, q3⟩, r1, r2, r3, r4⟩ := lend1s_sound p us _ hs hpl hp _ h3
  obtain ⟨g2, c2, ⟨l', s1, s2, s3⟩, t1, t2, t3, t4⟩ := lend1s_sound l (args.map a.eval) c1 r1 (by simpa using h4) (fun i v u hv hu => by
    simp only [Array.getElem?_map, Option.map_eq_some_iff] at hu
    obtain ⟨x, hx, rfl⟩ := hu
    exact (h5 i v x hv (by simpa using hx)).mono r3) _ q1
  have cx2 := r3.trans t3 (Nat.le_refl _)
  obtain ⟨g3, c3, ⟨q', y1, y2, y3⟩, z1, z2, z3, z4⟩ := lend1s_sound q vs c2 t1 hql (fun i v u hv hu => (hq i v u hv hu).mono cx2) _ s1
  obtain ⟨env3, L3, nl3, nt3, G3⟩ := c3
  simp only at y1
  obtain ⟨fn, e1, e2, e3⟩ := y1.enters
  have hargs : ((us ++ args.map a.eval) ++ vs).size = (p' ++ (l' ++ q')).length := by simp [q2, s2, y2]
  have hcall := call_sound z1 y1 ((us ++ args.map a.eval) ++ vs) hargs (fun i v u hv hu => by
    rcases Nat.lt_or_ge i us.size with hi | hi
    · rw [List.getElem?_append_left (by omega)] at hv
      rw [Array.getElem?_append_left (by simp; omega), Array.getElem?_append_left hi] at hu
      exact ((q3 i v u hv hu).mono t3.dx).mono z3.dx
    · rw [List.getElem?_append_right (by omega)] at hv
      rcases Nat.lt_or_ge i (us.size + args.size) with hi2 | hi2
      · rw [List.getElem?_append_left (by simp at s2; omega)] at hv
        rw [Array.getElem?_append_left (by simp; omega), Array.getElem?_append_right hi] at hu
        exact (s3 (i - p'.length) v u hv (by rw [q2]; exact hu)).mono z3.dx
      · rw [List.getElem?_append_right (by simp at s2; omega)] at hv
        rw [Array.getElem?_append_right (by simp; omega)] at hu
        refine y3 _ v u hv ?_
        rw [show i - p'.length - l'.length = i - (us ++ args.map a.eval).size by simp at s2 ⊢; omega]
        exact hu)
  have run : (execOp a.eval o).run P w = .ok (.enter id ((us ++ args.map a.eval) ++ vs)) w := by
    simp only [execOp, ho, resolve, ef, Deferred.ofValue, invoke, Sem.run_bind, Sem.run_pure, Result.andThen_ok]
    exact run_callFunc e1 e2 e3
  unfold Oper.wp
  rw [run]
  refine Calls.mono hcall ?_
  rintro e w' ⟨u, g', G', v, rfl, hQ, hst, hext, hd⟩
  have ext2 := r4.trans (t4.trans z4)
  exact hn v _ g' w' u hQ hst.rel hst.env (.dz _ _ hd) (ext2.trans hext)
/-- every operation, nothing being lent for it -/
theorem evOp0_sound (TO : TOk P T) {c : Cf} (hs : St T g w a c) (o : Oper) {next : Act → World → Prop} {Q : Exit → Act → World → Prop} {K : AV → Cf → Prop} (hn : NextOk T a o.dst next g w K) (h : evOp0 P T o.op c K) : o.wp P a w next Q := by
  obtain ⟨env, L, nl, nt, G⟩ := c
  have quiet : (evOp0 P T o.op ⟨env, L, nl, nt, G⟩ K ↔ qOp T L G env o.op fun v => K v ⟨env, L, nl, nt, G⟩) → o.wp P a w next Q := fun hk => by
    rw [hk] at h
    obtain ⟨v, u, h1, h2, h3, _⟩ := qOp_sound TO hs.rel hs.env o _ h
    exact wp_value h3 (hn v _ g w u h1 hs.rel hs.env h2 (Ext.refl _ _))
  cases hop : o.op with
  | alloc t => exact e_alloc TO hs.rel hs.env t hop hn (by rw [hop] at h; exact h)
  | box t x => exact e_box hs.rel hs.env t x hop hn (by rw [hop] at h; exact h)
  | store t p x => exact e_store TO hs.rel hs.env t p x hop hn (by rw [hop] at h; exact h)
  | buildSlice t len parts => exact e_buildSlice TO hs.rel hs.env t len parts hop hn (by rw [hop] at h; exact h)
  | call c =>
    obtain ⟨callee, args, ts⟩ := c
    cases callee with
    | value f => exact e_call hs f args ts hop hn (by rw [hop] at h; exact h)
    | invoke r m => exact quiet (by rw [hop]; exact Iff.rfl)
    | builtin b =>
      cases b with
      | append =>
        rw [hop] at h
        simp only [evOp0] at h
        obtain ⟨l⟩ := args
        obtain ⟨l2⟩ := ts
        match l, l2, h, hop with
        | [s, x], [t, t'], h, hop =>
          simp only at h
          cases hd : (T t).desc <;> simp only [hd] at h <;> first | exact h.elim | skip
          rename_i e
          by_cases htt : t = t'
          · subst htt
            simp only [decide_true] at h
            cases hk : kindD (T e).desc with
            | none => simp only [hk] at h
            | some kb =>
              cases hc : (T e).cells with
              | zero => simp only [hk, hc] at h
              | succ n =>
                simp only [hk, hc] at h
                exact e_append TO hs.rel hs.env s x t e hop hd (by rw [hk]; simp) (by omega) hn h
          · simp only [decide_eq_false htt] at h
      | delete => exact e_delete TO hs.rel hs.env args ts hop hn (by rw [hop] at h; exact h)
      | _ => exact quiet (by rw [hop]; exact Iff.rfl)
  | mapUpdate t m k x => exact e_mapUpdate TO hs.rel hs.env t m k x hop hn (by rw [hop] at h; exact h)
  | _ => exact quiet (by rw [hop]; exact Iff.rfl)
theorem preK_sound {c : Cf} (hs : St T g w a c) {p v : AV} (K : Cf → Prop) (h : preK c.L p v c K) : ∃ g' c', K c' ∧ St T g' w a c' ∧ Ext g w g' w := by
  unfold preK at h
  have lend : ∀ j, (lendK j c fun _ c' => K c') → ∃ g' c', K c' ∧ St T g' w a c' ∧ Ext g w g' w := fun j h => by
    obtain ⟨g', c', ⟨b, q1, _⟩, r1, _, _, r4⟩ := lend_sound hs j _ h
    exact ⟨g', c', q1, r1, r4⟩
  split at h
  · split at h
    · obtain ⟨bx, _, h⟩ := (nthK_iff _ _).1 h
      cases bx with
      | live org cells => exact ⟨g, c, h, hs, Ext.refl _ _⟩
      | away b => exact lend _ h
      | dead => exact lend _ h
    · exact lend _ h
  · exact ⟨g, c, h, hs, Ext.refl _ _⟩
/-- every operation -/
theorem evOp_sound (TO : TOk P T) {c : Cf} (hs : St T g w a c) (o : Oper) {next : Act → World → Prop} {Q : Exit → Act → World → Prop} {K : AV → Cf → Prop} (hn : NextOk T a o.dst next g w K) (h : evOp P T o.op c K) : o.wp P a w next Q := by
  obtain ⟨env, L, nl, nt, G⟩ := c
  have quiet : (evOp P T o.op ⟨env, L, nl, nt, G⟩ K ↔ evOp0 P T o.op ⟨env, L, nl, nt, G⟩ K) → o.wp P a w next Q := fun hk => evOp0_sound TO hs o hn (hk.1 h)
  have from' : ∀ {g' : Gh}, Ext g w g' w → NextOk T a o.dst next g' w K := fun hx v c' g2 w2 u h1 h2 h3 h4 h5 => hn v c' g2 w2 u h1 h2 h3 h4 (hx.trans h5)
  cases hop : o.op with
  | alloc t =>
    rw [hop] at h
    simp only [evOp] at h
    cases hb : (T t).bld with
    | none =>
      simp only [hb] at h
      exact evOp0_sound TO hs o hn (by rw [hop]; exact h)
    | some e =>
      simp only [hb] at h
      cases hk : kindD (T t).desc with
      | none => simp only [hk] at h
      | some kb =>
        simp only [hk] at h
        exact e_allocB TO hs.rel hs.env t hop hn hb (by rw [hk]; simp) h
  | store t p x =>
    rw [hop] at h
    simp only [evOp] at h
    obtain ⟨pv, h, _, _⟩ := opd_sound hs.env p _ h
    obtain ⟨v, h, _, _⟩ := opd_sound hs.env x _ h
    obtain ⟨g', c', h, hs', hx⟩ := preK_sound hs _ h
    exact evOp0_sound TO hs' o (from' hx) (by rw [hop]; exact h)
  | mapUpdate t m k x =>
    rw [hop] at h
    simp only [evOp] at h
    obtain ⟨v, h, _, _⟩ := opd_sound hs.env x _ h
    obtain ⟨g', c', h, hs', hx⟩ := preK_sound hs _ h
    exact evOp0_sound TO hs' o (from' hx) (by rw [hop]; exact h)
  | makeMap t r =>
    cases r with
    | some x => exact quiet (by rw [hop]; exact Iff.rfl)
    | none =>
      rw [hop] at h
      simp only [evOp] at h
      cases hd : (T t).desc <;> simp only [hd] at h
      rename_i kt et
      cases hkd : (T kt).desc <;> simp only [hkd] at h
      · exact e_makeMap hs.rel hs.env t hop hn (some _) h
      · exact e_makeMap hs.rel hs.env t hop hn none h
  | _ => exact quiet (by rw [hop]; exact Iff.rfl)
end
end Go.Proofs.Ytmmmaekaoanceaa
