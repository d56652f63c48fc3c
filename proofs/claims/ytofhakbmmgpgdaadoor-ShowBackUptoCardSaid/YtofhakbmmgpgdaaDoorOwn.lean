/- A shared box with a row of its own, taken into a call as a box of the call's own, and put back. -/
import Derived.Test.YtofhakbmmgpgdaaDoorDfs
set_option maxRecDepth 100000
namespace Go.Proofs.YtofhakbmmgpgdaaDoor
open Go Go.RowKit Go.Proofs

section
variable {P : Program} {T : TypeId → TR}
/-- a shared box whose row is not there yet -/
theorem box_row1 {g : Gh} {w : World} {b i : Nat} {e : TypeId} {cs : List AV} (h : BoxAt T g w b (.cells cs)) (hi : cs[i]? = some .nils) : BoxAt T g w b (.box (cs.set i (.slc e [])) [(i, e, [])]) := by
  obtain ⟨us, ty, h1, h2, h3, h4⟩ := h
  have hil : i < cs.length := (List.getElem?_eq_some_iff.1 hi).1
  have hiu : i < us.size := by omega
  have hu : us[i]? = some us[i] := Array.getElem?_eq_getElem hiu
  have hz := h4 i _ us[i] hi hu
  generalize us[i] = u at hu hz
  cases hz
  have hown : OwnAt T g w (.gtok b i) none e [] (.slice none 0 0) := by
    refine ⟨[], ⟨by simp, .inl ⟨rfl, rfl⟩⟩, rfl, fun k hk => (by cases hk), fun c hc => (by cases hc), fun i c hc => (by simp at hc)⟩
  refine ⟨us, ty, h1, by simpa using h2, h3, fun j c u hc hu' => ?_, fun x hx => ?_⟩
  · by_cases hji : i = j
    · subst hji
      rw [List.getElem?_set_self hil, Option.some.injEq] at hc
      subst hc
      rw [hu] at hu'; cases hu'
      exact hown.slc (fun n i h => h)
    · rw [List.getElem?_set_ne hji] at hc
      exact h4 j c u hc hu'
  · rw [List.mem_singleton.1 hx]
    exact ⟨_, hu, hown⟩
theorem weak_row1 {env : List AV} {L : List LB} {nl nt : Nat} {G : Glob} (b i : Nat) (e : TypeId) {cs : List AV} (hG : G b = some (.cells cs)) (hi : cs[i]? = some .nils) : Weak T ⟨env, L, nl, nt, setG G b (.box (cs.set i (.slc e [])) [(i, e, [])])⟩ ⟨env, L, nl, nt, G⟩ :=
  ⟨fun g a' w hs => ⟨g, ⟨⟨fun k bx hk => by
    have hk : setG G b (.box (cs.set i (.slc e [])) [(i, e, [])]) k = some bx := hk
    by_cases hib : k = b
    · subst hib
      rw [setG_same, Option.some.injEq] at hk
      subst hk
      obtain ⟨b1, b2, b3⟩ := hs.rel.glob k _ hG
      exact ⟨b1, b2, box_row1 b3 hi⟩
    · rw [setG_ne _ _ hib] at hk
      exact hs.rel.glob k bx hk, hs.rel.loc, hs.rel.hL, hs.rel.hl, hs.rel.ht⟩, hs.size, hs.vals, hs.defers⟩, ⟨fun _ _ _ h1 h2 => ⟨h1, h2⟩, Nat.le_refl _, fun _ _ => rfl, fun _ _ _ => ⟨rfl, rfl⟩, Nat.le_refl _, rfl, rfl, rfl⟩⟩⟩
/-- without a box -/
def rmG (G : Glob) (b : Nat) : Glob := fun i => if i = b then none else G i
theorem rmG_same (G : Glob) (b : Nat) : rmG G b b = none := by simp [rmG]
theorem rmG_ne (G : Glob) {b i : Nat} (h : i ≠ b) : rmG G b i = G i := by simp [rmG, h]
/-- an argument that names the box names the call's own now -/
def asOwn (b : Nat) : AV → AV
  | .gptr c o => match decide (c = b) with | true => .lptr 0 o | false => .gptr c o
  | v => v
def Gh.adopt (g : Gh) (b : Nat) (kopt : Option Nat) (n : Nat) : Gh := { g with own := fun k => if k = g.beta b then .lbox 0 else if some k = kopt then .tok 0 n else g.own k, lam := fun _ => g.beta b, nl := 1, tau := fun _ => kopt, nt := 1 }
theorem weak_adopt {env : List AV} {G : Glob} (b i : Nat) (e : TypeId) {cs : List AV} {els : List (List AV)} (hG : G b = some (.box cs [(i, e, els)])) :
    Weak T ⟨env.map (asOwn b), [.live (some b) (cs.set i (.own 0 e els))], 1, 1, rmG G b⟩ ⟨env, [], 0, 0, G⟩ := by
  refine ⟨fun g a w hs => ?_⟩
  obtain ⟨b1, b2, us, ty, h1, h2, h3, h4, h5⟩ := hs.rel.glob b _ hG
  obtain ⟨u, hu, hown⟩ := h5 _ (List.mem_singleton.2 rfl)
  have hu : us[i]? = some u := hu
  have hown : OwnAt T g w (.gtok b i) u.ownBlock e els u := hown
  have hl0 : g.nl = 0 := hs.rel.hl
  have ht0 : g.nt = 0 := hs.rel.ht
  obtain ⟨xs, x1, x2, x3, x4, x5⟩ := hown
  have hne : ∀ k, u.ownBlock = some k → k ≠ g.beta b := fun k hk e => by have := x3 k hk; rw [e, b2] at this; cases this
  have hfrz : ∀ k j, g.frz k j → (g.adopt b u.ownBlock (els.length * (T e).cells)).frz k j := fun k j hf => by
    unfold Gh.frz at *
    have hkb : k ≠ g.beta b := by rintro rfl; rw [b2] at hf; exact hf
    unfold Gh.adopt
    simp only [if_neg hkb]
    by_cases hk : some k = u.ownBlock
    · simp only [if_pos hk]
      have := x3 k hk.symm
      rw [this] at hf; exact hf
    · simp only [if_neg hk]; exact hf
  have dx : Dx g w (g.adopt b u.ownBlock (els.length * (T e).cells)) w := ⟨fun k j v f1 f2 => ⟨hfrz k j f1, f2⟩, Nat.le_refl _, fun _ _ => rfl⟩
  have hkeep : ∀ k, k ≠ g.beta b → some k ≠ u.ownBlock → (g.adopt b u.ownBlock (els.length * (T e).cells)).own k = g.own k := fun k q1 q2 => by
    unfold Gh.adopt; simp only [if_neg q1, if_neg q2]
  have cx : Cx (fun _ => False) g w (g.adopt b u.ownBlock (els.length * (T e).cells)) w := ⟨dx, by rw [hl0]; exact Nat.zero_le _, fun j hj => by omega, by rw [ht0]; exact Nat.zero_le _, fun j hj => by omega⟩
  refine ⟨g.adopt b u.ownBlock (els.length * (T e).cells), ⟨⟨fun k bx hk => ?_, fun j bx hj => ?_, rfl, rfl, rfl⟩, ?_, fun j v hv => ?_, hs.defers⟩, ⟨dx.cell, Nat.le_refl _, fun _ _ => rfl, fun k hk hkept => ⟨?_, rfl⟩, Nat.le_refl _, rfl, rfl, rfl⟩⟩
  · have hk : rmG G b k = some bx := hk
    have hkb : k ≠ b := by rintro rfl; rw [rmG_same] at hk; cases hk
    rw [rmG_ne _ hkb] at hk
    obtain ⟨i1, i2, i3⟩ := hs.rel.glob k bx hk
    have q : ∀ q, (g.own q).ofBox k → q ≠ g.beta b ∧ some q ≠ u.ownBlock := fun q hq => ⟨by rintro rfl; rw [b2] at hq; exact hkb hq.symm, fun e => by rw [x3 q e.symm] at hq; exact hkb hq.symm⟩
    refine ⟨i1, ?_, i3.keep i1 i2 dx fun q' hq' _ => ⟨hkeep q' (q q' hq').1 (q q' hq').2, rfl⟩⟩
    have hq := q (g.beta k) (by rw [i2]; exact rfl)
    show (g.adopt b u.ownBlock (els.length * (T e).cells)).own (g.beta k) = _
    rw [hkeep _ hq.1 hq.2]; exact i2
  · have hj : ([LB.live (some b) (cs.set i (.own 0 e els))] : List LB)[j]? = some bx := hj
    match j with
    | 0 =>
      simp only [List.getElem?_cons_zero, Option.some.injEq] at hj
      subst hj
      refine ⟨?_, ⟨us, ty, h1, by simpa using h2, h3, fun q c v hc hv => ?_⟩, fun b' hb' => ?_⟩
      · show (if g.beta b = g.beta b then Own.lbox 0 else _) = _
        simp
      · by_cases hqi : i = q
        · subst hqi
          rw [List.getElem?_set_self (by have := (Array.getElem?_eq_some_iff.1 hv).1; omega), Option.some.injEq] at hc
          subst hc
          rw [hu] at hv; cases hv
          refine .own 0 e els _ Nat.zero_lt_one ⟨xs, x1, rfl, fun k hk => ?_, x4, fun i' cells hi j' x hx => ?_⟩
          · have hk' : u.ownBlock = some k := hk
            show (if k = g.beta b then Own.lbox 0 else if some k = u.ownBlock then Own.tok 0 _ else _) = _
            rw [if_neg (hne k hk'), if_pos hk'.symm]
          · obtain ⟨y, y1, y2, y3⟩ := x5 i' cells hi j' x hx
            exact ⟨y, y1, y2, y3.mono dx⟩
        · rw [List.getElem?_set_ne hqi] at hc
          exact .dz _ _ ((h4 q c v hc hv).mono dx)
      · cases hb'
        exact ⟨b1, rfl⟩
    | j + 1 => simp at hj
  · show a.tmps.size = (env.map (asOwn b)).length
    rw [List.length_map]; exact hs.size
  · have hv : (env.map (asOwn b))[j]? = some v := hv
    rw [List.getElem?_map] at hv
    obtain ⟨v', hv', rfl⟩ := Option.map_eq_some_iff.1 hv
    have hz := hs.vals j v' hv'
    have plain : asOwn b v' = v' → Cz T (g.adopt b u.ownBlock (els.length * (T e).cells)) w (asOwn b v') (a.tmps.getD j undef) := fun e => by rw [e]; exact hz.mono cx
    cases v' with
    | gptr c o =>
      by_cases hcb : c = b
      · subst hcb
        have : asOwn c (.gptr c o) = .lptr 0 o := by simp [asOwn]
        rw [this]
        obtain ⟨_, e1⟩ := cz_gptr hz
        rw [e1]
        exact .lptr 0 o Nat.zero_lt_one
      · exact plain (by simp [asOwn, hcb])
    | _ => exact plain rfl
  · rw [hkeep k (by rintro rfl; rw [b2] at hkept; exact hkept) (fun e => by rw [x3 k e.symm] at hkept; exact hkept)]
def Gh.yield (g : Gh) (b i : Nat) (kopt : Option Nat) (n : Nat) : Gh := { g with own := fun k => if k = g.lam 0 then .gbox b else if some k = kopt then .gtok b i n else g.own k }
/-- what the call's own box was is the shared one again, with its row -/
theorem weak_yield {env : List AV} {L : List LB} {nl nt : Nat} {G : Glob} {b : Nat} (i : Nat) {t : Nat} {e : TypeId} {cells : List AV} {els : List (List AV)} (hL : L[0]? = some (.live (some b) cells)) (hi : cells[i]? = some (.own t e els)) :
    Weak T ⟨env.map fun _ => .top, L.map fun _ => .dead, nl, nt, setG G b (.box (cells.map dat0) [(i, e, els)])⟩ ⟨env, L, nl, nt, G⟩ := by
  refine ⟨fun g a w hs => ?_⟩
  obtain ⟨l1, ⟨us, ty, h1, h2, h3, h4⟩, l3⟩ := hs.rel.loc 0 _ hL
  obtain ⟨hbn, hbl⟩ := l3 b rfl
  have hil : i < cells.length := (List.getElem?_eq_some_iff.1 hi).1
  have hu : us[i]? = some us[i] := Array.getElem?_eq_getElem (by omega)
  generalize us[i] = u at hu
  obtain ⟨htn, hown⟩ := cz_own (h4 i _ u hi hu)
  obtain ⟨xs, x1, x2, x3, x4, x5⟩ := hown
  have hne : ∀ k, g.tau t = some k → k ≠ g.lam 0 := fun k hk e => by have := x3 k hk; rw [e, l1] at this; cases this
  have hfrz : ∀ k j, g.frz k j → (g.yield b i (g.tau t) (els.length * (T e).cells)).frz k j := fun k j hf => by
    unfold Gh.frz at *
    have hkb : k ≠ g.lam 0 := by rintro rfl; rw [l1] at hf; exact hf
    unfold Gh.yield
    simp only [if_neg hkb]
    by_cases hk : some k = g.tau t
    · simp only [if_pos hk]
      have := x3 k hk.symm
      rw [this] at hf; exact hf
    · simp only [if_neg hk]; exact hf
  have dx : Dx g w (g.yield b i (g.tau t) (els.length * (T e).cells)) w := ⟨fun k j v f1 f2 => ⟨hfrz k j f1, f2⟩, Nat.le_refl _, fun _ _ => rfl⟩
  have hkeep : ∀ k, k ≠ g.lam 0 → some k ≠ g.tau t → (g.yield b i (g.tau t) (els.length * (T e).cells)).own k = g.own k := fun k q1 q2 => by
    unfold Gh.yield; simp only [if_neg q1, if_neg q2]
  refine ⟨g.yield b i (g.tau t) (els.length * (T e).cells), ⟨⟨fun k bx hk => ?_, fun j bx hj => ?_, by have := hs.rel.hL; simpa using this, hs.rel.hl, hs.rel.ht⟩, ?_, fun j v hv => ?_, hs.defers⟩, ⟨dx.cell, Nat.le_refl _, fun _ _ => rfl, fun k hk hkept => ⟨?_, rfl⟩, Nat.le_refl _, rfl, rfl, rfl⟩⟩
  · have hk : setG G b (.box (cells.map dat0) [(i, e, els)]) k = some bx := hk
    by_cases hkb : k = b
    · subst hkb
      rw [setG_same, Option.some.injEq] at hk
      subst hk
      refine ⟨hbn, ?_, us, ty, ?_, by simpa using h2, h3, fun q c v hc hv => ?_, fun x hx => ?_⟩
      · show (if g.beta k = g.lam 0 then Own.gbox k else _) = _
        rw [if_pos hbl]
      · show w.heap[g.beta k]? = _
        rw [hbl]; exact h1
      · rw [List.getElem?_map] at hc
        obtain ⟨c', hc', rfl⟩ := Option.map_eq_some_iff.1 hc
        exact (dat0_sound (h4 q c' v hc' hv) (h3 _ (Array.mem_of_getElem? hv))).mono dx
      · rw [List.mem_singleton.1 hx]
        refine ⟨u, hu, xs, x1, rfl, fun q hq => ?_, x4, fun i' cells hi j' x hx => ?_⟩
        · have hq' : g.tau t = some q := by rw [← x2]; exact hq
          show (if q = g.lam 0 then Own.gbox k else if some q = g.tau t then Own.gtok k i _ else _) = _
          rw [if_neg (hne q hq'), if_pos hq'.symm]
        · obtain ⟨y, y1, y2, y3⟩ := x5 i' cells hi j' x hx
          exact ⟨y, y1, y2, y3.mono dx⟩
    · rw [setG_ne _ _ hkb] at hk
      obtain ⟨i1, i2, i3⟩ := hs.rel.glob k bx hk
      have q : ∀ q, (g.own q).ofBox k → q ≠ g.lam 0 ∧ some q ≠ g.tau t := fun q hq => ⟨by rintro rfl; rw [l1] at hq; exact hq, fun e => by rw [x3 q e.symm] at hq; exact hq⟩
      refine ⟨i1, ?_, i3.keep i1 i2 dx fun q' hq' _ => ⟨hkeep q' (q q' hq').1 (q q' hq').2, rfl⟩⟩
      have hq := q (g.beta k) (by rw [i2]; exact rfl)
      show (g.yield b i (g.tau t) (els.length * (T e).cells)).own (g.beta k) = _
      rw [hkeep _ hq.1 hq.2]; exact i2
  · have hj : (L.map fun _ => LB.dead)[j]? = some bx := hj
    rw [List.getElem?_map] at hj
    obtain ⟨_, _, rfl⟩ := Option.map_eq_some_iff.1 hj
    exact trivial
  · show a.tmps.size = (env.map fun _ => AV.top).length
    rw [List.length_map]; exact hs.size
  · have hv : (env.map fun _ => AV.top)[j]? = some v := hv
    rw [List.getElem?_map] at hv
    obtain ⟨_, _, rfl⟩ := Option.map_eq_some_iff.1 hv
    exact .any _
  · rw [hkeep k (by rintro rfl; rw [l1] at hkept; exact hkept) (fun e => by rw [x3 k e.symm] at hkept; exact hkept)]
/-- a function, whose end may be told in another way -/
def semW (P : Program) (T : TypeId → TR) (ntmps : Nat) (rs : List ResultVar) (body : Code) (args : List AV) (G : Glob) (Q : AV → Glob → Prop) : Prop :=
  topsK (ntmps - args.length) fun tops => catK args tops fun env => Sem P T body ⟨env, [], 0, 0, G⟩ fun e c => match e with
    | .exit _ => False
    | _ => ∃ c', Weak T c' c ∧ finK T rs Q c'
theorem call_semW (TO : TOk P T) {f : FuncId} {fn : Func} {code : Code} {args : List AV} {G : Glob} {Q : AV → Glob → Prop} (hf : P.funcs[f]? = some fn) (hb : fn.body = some code) (hname : (fn.name == "runtime.NumGoroutine") = false) {n : Nat} (hnt : fn.ntmps = n) {rs : Array ResultVar} (hrs : fn.results = rs)
    (h : semW P T n rs.toList code args G Q) : CallOk P T f args G Q := by
  subst hnt
  subst hrs
  refine ⟨⟨fn, hf, hname, by rw [hb]; rfl⟩, fun g us w hg hl hp => ?_⟩
  unfold semW at h
  rw [topsK_iff, catK_iff] at h
  refine calls_of_wp hf hb ?_
  have hs : St T { g with nl := 0, nt := 0 } w { tmps := us ++ Array.replicate (fn.ntmps - us.size) undef, defers := [] } ⟨args ++ List.replicate (fn.ntmps - args.length) .top, [], 0, 0, G⟩ := by
    have dx : Dx g w { g with nl := 0, nt := 0 } w := ⟨fun _ _ _ h1 h2 => ⟨h1, h2⟩, Nat.le_refl _, fun _ _ => rfl⟩
    refine ⟨⟨fun b bx hb => ?_, fun j bx hj => by simp at hj, rfl, rfl, rfl⟩, by simp [hl], fun i v hv => ?_, rfl⟩
    · obtain ⟨h1, h2, h3⟩ := hg b bx hb
      exact ⟨h1, h2, h3.keep h1 h2 dx fun _ _ _ => ⟨rfl, rfl⟩⟩
    · rcases Nat.lt_or_ge i args.length with hi | hi
      · rw [List.getElem?_append_left hi] at hv
        have hu : us[i]? = some us[i] := Array.getElem?_eq_getElem (by omega)
        have e : (us ++ Array.replicate (fn.ntmps - us.size) undef).getD i undef = us[i] := by
          simp only [Array.getD, Array.size_append]
          rw [dif_pos (by omega), Array.getInternal_eq_getElem, Array.getElem_append_left]
        show Cz T _ w v ((us ++ Array.replicate (fn.ntmps - us.size) undef).getD i undef)
        rw [e]
        exact .dz _ _ ((hp i v _ hv hu).mono dx)
      · rw [List.getElem?_append_right hi] at hv
        have := List.mem_of_getElem? hv
        rw [List.mem_replicate] at this
        rw [this.2]
        exact .any _
  have hx : Ext g w { g with nl := 0, nt := 0 } w := ⟨fun _ _ _ h1 h2 => ⟨h1, h2⟩, Nat.le_refl _, fun _ _ => rfl, fun _ _ _ => ⟨rfl, rfl⟩, Nat.le_refl _, rfl, rfl, rfl⟩
  refine wp_mono (h.holds _ w _ hs) ?_
  rintro e a' w' ⟨ex, c', g', rfl, h1, h2, h3⟩
  have fin : (∃ c'', Weak T c'' c' ∧ finK T fn.results.toList Q c'') → a'.defers = [] ∧ ∃ v, (results fn a'.tmps).run P w' = .ok v w' ∧ ∃ u g'' G' v', Ending.returned v = .returned u ∧ Q v' G' ∧ GRel T g'' G' w' ∧ Ext g w g'' w' ∧ Dz T g'' w' v' u := fun ⟨c'', hw, h⟩ => by
    obtain ⟨g1, h2', h3'⟩ := hw.weak g' a' w' h2
    obtain ⟨u, g2, G', v, q1, q2, q3, q4, q5⟩ := fin_sound TO h2' fn Q h
    exact ⟨h2.defers, u, q1, u, g2, G', v, rfl, q2, q3, ((hx.trans h3).trans h3').trans q4, q5⟩
  cases ex with
  | normal => exact fin h1
  | exit id => exact h1.elim
  | ret => exact fin h1
end
theorem setG_rm {G : Glob} {p b : Nat} (hp : p ≠ b) {x y : GB} : ∀ k z, setG (setG G p x) b y k = some z → setG (setG (rmG G b) p x) b y k = some z := fun k z h => by
  by_cases hk : k = b
  · subst hk; rw [setG_same] at *; exact h
  · rw [setG_ne _ _ hk] at *
    by_cases hp' : k = p
    · subst hp'; rw [setG_same] at *; exact h
    · rw [setG_ne _ _ hp'] at *; rw [rmG_ne _ hk]; exact h
end Go.Proofs.YtofhakbmmgpgdaaDoor
