/- A box that alone holds a map of texts, and a number: contracts at a box and its map, in the words of the box alone. -/
import Derived.Test.YtpnlhnhjedopgaaMapA
set_option maxRecDepth 100000
namespace Go.Proofs.Ytpnlhnhjedopgaa
open Go Go.RowKit Go.Proofs

theorem cells2 {T : TypeId → TR} {g : Gh} {w : World} {b : Nat} {mv : AV} {n : Int} (h : BoxAt T g w b (.cells [mv, .int .i64 n])) : ∃ t v, w.heap[g.beta b]? = some (.cells #[v, .int .i64 n] t (0, 0)) ∧ Dz T g w mv v := by
  obtain ⟨us, t, h1, h2, h3, h4⟩ := h
  obtain ⟨us⟩ := us
  match us, h2 with
  | [u0, u1], _ =>
    cases h4 1 _ u1 rfl rfl
    exact ⟨t, u0, h1, h4 0 _ u0 rfl rfl⟩
theorem cells2_of {T : TypeId → TR} {g : Gh} {w : World} {b : Nat} {mv : AV} {n : Int} {t : TypeId} {v : Value} (h : w.heap[g.beta b]? = some (.cells #[v, .int .i64 n] t (0, 0))) (h1 : v.oneCell' = true) (h2 : Dz T g w mv v) : BoxAt T g w b (.cells [mv, .int .i64 n]) := by
  refine ⟨_, t, h, rfl, fun u hu => ?_, fun j c u hc hu => ?_⟩
  · simp at hu; rcases hu with rfl | rfl
    · exact h1
    · rfl
  · match j with
    | 0 => simp at hc hu; subst hc hu; exact h2
    | 1 => simp at hc hu; subst hc hu; exact .int _ _
    | j + 2 => simp at hc
/-- the map's block gets a name, or goes back to its box -/
def Gh.named (g : Gh) (k : Nat) : Gh := { g with own := fun i => if i = k then .gbox g.nb else g.own i, beta := fun i => if i = g.nb then k else g.beta i, nb := g.nb + 1 }
def Gh.unnamed (g : Gh) (k b : Nat) : Gh := { g with own := fun i => if i = k then .gtok b 0 0 else g.own i }
theorem Ext.cxn {g g' : Gh} {w w' : World} (h : Ext g w g' w') : Dx g w g' w' := h.dx
section
variable {P : Program} {T : TypeId → TR}
/-- closing: the box holds its map alone again -/
theorem cmap_close {g g2 : Gh} {w w2 : World} {G G2 : Glob} {b : Nat} {mv : AV} {n : Int} {m : List (AV × AV)} (hG2 : GRel T g2 G2 w2) (hs : StG G2 b mv n m) (hb : b < g.nb) (hx : Ext g w g2 w2)
    (hk : ∀ i x, i ≠ b → G i = some x → G2 i = some x ∧ ∀ mb, mv = .mp mb → i ≠ mb) (hbG : ∀ x, G b = some x → True) :
    ∃ g3, GRel T g3 (setG G b (.cmap n m)) w2 ∧ Ext g w g3 w2 ∧ Dx g2 w2 g3 w2 := by
  obtain ⟨h1, h2⟩ := hs
  obtain ⟨b1, b2, b3⟩ := hG2 b _ h1
  obtain ⟨t, v, c1, c2⟩ := cells2 b3
  rcases h2 with ⟨rfl, rfl⟩ | ⟨mb, rfl, h2⟩
  · cases c2
    refine ⟨g2, fun i x hi => ?_, hx, Dx.refl _ _⟩
    by_cases hib : i = b
    · subst hib
      rw [setG_same, Option.some.injEq] at hi
      subst hi
      exact ⟨b1, b2, t, _, c1, .inl ⟨rfl, rfl⟩⟩
    · rw [setG_ne _ _ hib] at hi
      exact hG2 i x (hk i x hib hi).1
  · obtain ⟨m1, m2, es, clock, m3, m4, m5, m6⟩ := hG2 mb _ h2
    cases c2
    have own3 : ∀ k, k ≠ g2.beta mb → (g2.unnamed (g2.beta mb) b).own k = g2.own k := fun k hk => if_neg hk
    have dx : Dx g2 w2 (g2.unnamed (g2.beta mb) b) w2 := ⟨fun k i u f1 f2 => by
      refine ⟨?_, f2⟩
      have hkm : k ≠ g2.beta mb := fun e => by unfold Gh.frz at f1; rw [e, m2] at f1; exact f1
      unfold Gh.frz at *; rw [own3 k hkm]; exact f1, Nat.le_refl _, fun _ _ => rfl⟩
    have hbm : g2.beta b ≠ g2.beta mb := fun e => by rw [e, m2] at b2; cases b2; rw [h1] at h2; cases h2
    refine ⟨g2.unnamed (g2.beta mb) b, fun i x hi => ?_, ?_, dx⟩
    · by_cases hib : i = b
      · subst hib
        rw [setG_same, Option.some.injEq] at hi
        subst hi
        refine ⟨b1, by rw [show (g2.unnamed (g2.beta mb) i).beta i = g2.beta i from rfl, own3 _ hbm]; exact b2, t, _, c1, .inr ⟨g2.beta mb, es, clock, rfl, if_pos rfl, m3, m4, m5, fun j x y hx hy => ⟨(m6 j x y hx hy).1, (m6 j x y hx hy).2.mono dx⟩⟩⟩
      · rw [setG_ne _ _ hib] at hi
        obtain ⟨k1, k2⟩ := hk i x hib hi
        have hne := k2 mb rfl
        obtain ⟨i1, i2, i3⟩ := hG2 i x k1
        have hkn : ∀ k, (g2.own k).ofBox i → k ≠ g2.beta mb := fun k hk e => by rw [e, m2] at hk; exact hne hk.symm
        exact ⟨i1, by rw [show (g2.unnamed (g2.beta mb) b).beta i = g2.beta i from rfl, own3 _ (hkn _ (by rw [i2]; exact rfl))]; exact i2, i3.keep i1 i2 dx fun k hk _ => ⟨own3 k (hkn k hk), rfl⟩⟩
    · refine ⟨fun k i u f1 f2 => ?_, hx.nb, fun i hi => hx.beta i hi, fun k hk hkept => ?_, hx.size, hx.os, hx.tape, hx.output⟩
      · obtain ⟨q1, q2⟩ := hx.cell k i u f1 f2
        exact dx.cell k i u q1 q2
      · obtain ⟨q1, q2⟩ := hx.kept k hk hkept
        have : k ≠ g2.beta mb := fun e => by rw [← q1, e, m2] at hkept; exact hkept
        exact ⟨by rw [own3 k this]; exact q1, q2⟩
theorem CallOk.cmap {f : FuncId} {args : List AV} {G : Glob} {b : Nat} {n n' : Int} {m m' : List (AV × AV)} {V : AV} (hG : G b = some (.cmap n m))
    (h : ∀ (G1 : Glob) (mv : AV), StG G1 b mv n m → CallOk P T f args G1 (fun v G2 => v = V ∧ ∃ mv', StG G2 b mv' n' m' ∧ Kept G1 G2 b mv mv')) :
    CallOk P T f args G (fun v G' => v = V ∧ G' = setG G b (.cmap n' m')) := by
  have nb1 : b ≠ b + 1 := by omega
  refine ⟨(h (setG (setG (fun _ => none) b (.cells [.mp (b + 1), .int .i64 n])) (b + 1) (.map none m)) (.mp (b + 1)) ⟨(setG_ne _ _ nb1).trans (setG_same _ _ _), .inr ⟨b + 1, rfl, setG_same _ _ _⟩⟩).enters, fun g us w hr hl hd => ?_⟩
  obtain ⟨b1, b2, t, v, c1, hv⟩ := hr b _ hG
  rcases hv with ⟨rfl, rfl⟩ | ⟨k, es, clock, rfl, hk, m3, m4, m5, m6⟩
  · have hr1 : GRel T g (setG G b (.cells [.nilm, .int .i64 n])) w := fun i x hi => by
      by_cases hib : i = b
      · subst hib
        rw [setG_same, Option.some.injEq] at hi
        subst hi
        exact ⟨b1, b2, cells2_of c1 rfl .nilm⟩
      · rw [setG_ne _ _ hib] at hi
        exact hr i x hi
    refine ((h _ .nilm ⟨setG_same _ _ _, .inl ⟨rfl, rfl⟩⟩).calls g us w hr1 hl hd).mono fun e w2 hh => ?_
    obtain ⟨u, g2, G2, v2, rfl, ⟨rfl, mv', hs, hkp⟩, hG2, hx, hz⟩ := hh
    obtain ⟨g3, q1, q2, q3⟩ := cmap_close (G := G) hG2 hs b1 hx (fun i x hib hi => by
      have hi1 : setG G b (.cells [.nilm, .int .i64 n]) i = some x := by rw [setG_ne _ _ hib]; exact hi
      refine ⟨hkp.2 i x hi1 hib (fun e => by cases e), fun mb hmb hne => ?_⟩
      rcases hkp.1 with h1 | ⟨_, mb', h1, h2⟩
      · rw [h1] at hmb; cases hmb
      · rw [h2] at hmb; cases hmb; subst hne; rw [hi1] at h1; cases h1) (fun _ _ => trivial)
    exact ⟨u, g3, _, v2, rfl, ⟨rfl, rfl⟩, q1, q2, hz.mono q3⟩
  · have hn : G g.nb = none := by
      cases hg : G g.nb with
      | none => rfl
      | some x => exact absurd (hr _ _ hg).1 (Nat.lt_irrefl _)
    have hbn : b ≠ g.nb := fun e => by omega
    have hbk : (g.named k).beta g.nb = k := if_pos rfl
    have beta1 : ∀ i, i ≠ g.nb → (g.named k).beta i = g.beta i := fun i hi => if_neg hi
    have own1 : ∀ i, i ≠ k → (g.named k).own i = g.own i := fun i hi => if_neg hi
    have hkb : g.beta b ≠ k := fun e => by rw [e, hk] at b2; cases b2
    have dx1 : Dx g w (g.named k) w := by
      refine ⟨fun k' i u f1 f2 => ?_, Nat.le_succ _, fun i hi => beta1 i (by omega)⟩
      have hne : k' ≠ k := fun e => by unfold Gh.frz at f1; rw [e, hk] at f1; exact Nat.not_lt_zero _ f1
      exact ⟨by unfold Gh.frz at *; rw [own1 k' hne]; exact f1, f2⟩
    have ext1 : Ext g w (g.named k) w := by
      refine ⟨dx1.cell, Nat.le_succ _, dx1.beta, fun k' hk' hkept => ⟨own1 k' (fun e => by rw [e, hk] at hkept; exact hkept), rfl⟩, Nat.le_refl _, rfl, rfl, rfl⟩
    have hr1 : GRel T (g.named k) (setG (setG G b (.cells [.mp g.nb, .int .i64 n])) g.nb (.map none m)) w := fun i x hi => by
      by_cases hin : i = g.nb
      · subst hin
        rw [setG_same, Option.some.injEq] at hi
        subst hi
        refine ⟨Nat.lt_succ_self _, by rw [hbk]; exact if_pos rfl, es, clock, by rw [hbk]; exact m3, m4, m5, fun j x y hx hy => ⟨(m6 j x y hx hy).1, (m6 j x y hx hy).2.mono dx1⟩⟩
      · rw [setG_ne _ _ hin] at hi
        by_cases hib : i = b
        · subst hib
          rw [setG_same, Option.some.injEq] at hi
          subst hi
          refine ⟨Nat.lt_succ_of_lt b1, by rw [beta1 i hin, own1 _ hkb]; exact b2, cells2_of (by rw [beta1 i hin]; exact c1) rfl ?_⟩
          have := Dz.mp (T := T) (g := g.named k) (w := w) g.nb (Nat.lt_succ_self _)
          rwa [hbk] at this
        · rw [setG_ne _ _ hib] at hi
          obtain ⟨i1, i2, i3⟩ := hr i x hi
          have hkn : ∀ k', (g.own k').ofBox i → k' ≠ k := fun k' hk' e => by rw [e, hk] at hk'; exact hib hk'.symm
          exact ⟨Nat.lt_succ_of_lt i1, by rw [beta1 i hin, own1 _ (hkn _ (by rw [i2]; exact rfl))]; exact i2, i3.keep i1 i2 dx1 fun k' hk' _ => ⟨own1 k' (hkn k' hk'), rfl⟩⟩
    refine ((h _ (.mp g.nb) ⟨(setG_ne _ _ hbn).trans (setG_same _ _ _), .inr ⟨g.nb, rfl, setG_same _ _ _⟩⟩).calls (g.named k) us w hr1 hl (fun i a u ha hu => (hd i a u ha hu).mono dx1)).mono fun e w2 hh => ?_
    obtain ⟨u, g2, G2, v2, rfl, ⟨rfl, mv', hs, hkp⟩, hG2, hx, hz⟩ := hh
    obtain ⟨g3, q1, q2, q3⟩ := cmap_close (G := G) hG2 hs b1 (ext1.trans hx) (fun i x hib hi => by
      have hin : i ≠ g.nb := fun e => by rw [e, hn] at hi; cases hi
      have hi1 : setG (setG G b (.cells [.mp g.nb, .int .i64 n])) g.nb (.map none m) i = some x := by rw [setG_ne _ _ hin, setG_ne _ _ hib]; exact hi
      refine ⟨hkp.2 i x hi1 hib (fun e => by cases e; exact hin rfl), fun mb hmb hne => ?_⟩
      rcases hkp.1 with h1 | ⟨h1, _⟩
      · rw [h1] at hmb; cases hmb; exact hin hne
      · cases h1) (fun _ _ => trivial)
    exact ⟨u, g3, _, v2, rfl, ⟨rfl, rfl⟩, q1, q2, hz.mono q3⟩
theorem CallOk.cmapR {f : FuncId} {args : List AV} {G : Glob} {b : Nat} {n : Int} {m : List (AV × AV)} {V : AV} (hG : G b = some (.cmap n m))
    (h : ∀ (G1 : Glob) (mv : AV), StG G1 b mv n m → CallOk P T f args G1 (fun v G2 => v = V ∧ G2 = G1)) :
    CallOk P T f args G (fun v G' => v = V ∧ G' = G) := by
  have := CallOk.cmap (n' := n) (m' := m) hG fun G1 mv hs => (h G1 mv hs).on (Q := fun v G2 => v = V ∧ ∃ mv', StG G2 b mv' n m ∧ Kept G1 G2 b mv mv') ⟨rfl, mv, hs, .inl rfl, fun _ _ h _ _ => h⟩
  rwa [setG_back hG] at this
/-- a new box of that kind -/
theorem Sem.cmapbox {code : Code} {env : List AV} {L : List LB} {nl nt : Nat} {G : Glob} {Q : Ex → Cf → Prop} (b : Nat) {n : Int} (hG : G b = some (.cells [.nilm, .int .i64 n])) (h : Sem P T code ⟨env, L, nl, nt, setG G b (.cmap n [])⟩ Q) : Sem P T code ⟨env, L, nl, nt, G⟩ Q :=
  Sem.weak (c' := ⟨env, L, nl, nt, setG G b (.cmap n [])⟩) ⟨fun g a' w hs => ⟨g, ⟨⟨fun i bx hi => by
    have hi : setG G b (.cmap n []) i = some bx := hi
    by_cases hib : i = b
    · subst hib
      rw [setG_same, Option.some.injEq] at hi
      subst hi
      obtain ⟨b1, b2, b3⟩ := hs.rel.glob i _ hG
      obtain ⟨t, v, c1, c2⟩ := cells2 b3
      cases c2
      exact ⟨b1, b2, t, _, c1, .inl ⟨rfl, rfl⟩⟩
    · rw [setG_ne _ _ hib] at hi
      exact hs.rel.glob i bx hi, hs.rel.loc, hs.rel.hL, hs.rel.hl, hs.rel.ht⟩, hs.size, hs.vals, hs.defers⟩, ⟨fun _ _ _ h1 h2 => ⟨h1, h2⟩, Nat.le_refl _, fun _ _ => rfl, fun _ _ _ => ⟨rfl, rfl⟩, Nat.le_refl _, rfl, rfl, rfl⟩⟩⟩ h
end
end Go.Proofs.Ytpnlhnhjedopgaa
