/- What is known at a loop's head: less than what is known ahead of it; rows of the call's own under new numbers. -/
import Derived.Test.YtmmmaekaoanceaaAh
namespace Go.Proofs.Ytmmmaekaoanceaa
open Go Go.RowKit

/-- v' says at most what v says; rs: under which number each row was kept -/
def le0 (rs : List (Option Nat)) (nl : Nat) : AV → AV → Prop
  | _, .top => True
  | .own j e els, .own i e' els' => rs[i]? = some (some j) ∧ e = e' ∧ els = els'
  | .nils, .own i _ els' => rs[i]? = some none ∧ els' = []
  | .own _ e els, .slc e' els' => e = e' ∧ els = els'
  | .slc e els, .slc e' els' => e = e' ∧ els = els'
  | .nils, .slc _ els' => els' = []
  | .nils, .nils => True
  | .int k n, .int k' n' => k = k' ∧ n = n'
  | .bool b, .bool b' => b = b'
  | .str s, .str s' => s = s'
  | .lptr j o, .lptr j' o' => (j = j' ∧ j < nl) ∧ o = o'
  | .gptr b o, .gptr b' o' => b = b' ∧ o = o'
  | .nilp, .nilp => True
  | .nilf, .nilf => True
  | .nili, .nili => True
  | .nilm, .nilm => True
  | .mp b, .mp b' => b = b'
  | .eref c o, .eref c' o' => c = c' ∧ o = o'
  | _, _ => False
def le0s (rs : List (Option Nat)) (nl : Nat) : List AV → List AV → Prop
  | [], [] => True
  | v :: r, v' :: r' => le0 rs nl v v' ∧ le0s rs nl r r'
  | _, _ => False
def le1 (rs : List (Option Nat)) (nl : Nat) : AV → AV → Prop
  | .agg cs, .agg ds => le0s rs nl cs ds
  | .fn f a b, .fn f' a' b' => f = f' ∧ le0s rs nl a a' ∧ le0s rs nl b b'
  | v, v' => le0 rs nl v v'
def le1s (rs : List (Option Nat)) (nl : Nat) : List AV → List AV → Prop
  | [], [] => True
  | v :: r, v' :: r' => le1 rs nl v v' ∧ le1s rs nl r r'
  | _, _ => False
def leL (rs : List (Option Nat)) (nl : Nat) : List LB → List LB → Prop
  | _, [] => True
  | .live org cells :: r, .live org' cells' :: r' => (org = org' ∧ le1s rs nl cells cells') ∧ leL rs nl r r'
  | .away b :: r, .away b' :: r' => b = b' ∧ leL rs nl r r'
  | _ :: r, .dead :: r' => leL rs nl r r'
  | _, _ => False
def nodupB (nt : Nat) : List (Option Nat) → Bool
  | [] => true
  | none :: r => nodupB nt r
  | some j :: r => decide (j < nt) && !(r.contains (some j)) && nodupB nt r
def RsOk (rs : List (Option Nat)) : Prop := ∀ (i j : Nat), rs[i]? = some (some j) → ∀ i' : Nat, rs[i']? = some (some j) → i' = i
theorem rsOk_of {nt : Nat} : ∀ {rs : List (Option Nat)}, nodupB nt rs = true → RsOk rs
  | [], _ => fun i j h => by simp at h
  | none :: r, h => by
    have ih := rsOk_of (rs := r) h
    intro i j hi i' hi'
    cases i <;> cases i' <;> simp at hi hi'
    rw [ih _ _ hi _ hi']
  | some q :: r, h => by
    simp only [nodupB, Bool.and_eq_true, Bool.not_eq_true', decide_eq_true_eq] at h
    have ih := rsOk_of (rs := r) h.2
    have hn : some q ∉ r := by have := h.1.2; simpa using this
    intro i j hi i' hi'
    cases i with
    | zero =>
      simp at hi
      subst hi
      cases i' with
      | zero => rfl
      | succ i' => simp at hi'; exact absurd (List.mem_of_getElem? hi') hn
    | succ i =>
      simp at hi
      cases i' with
      | zero => simp at hi'; subst hi'; exact absurd (List.mem_of_getElem? hi) hn
      | succ i' => simp at hi'; rw [ih _ _ hi _ hi']
def weakP (rs : List (Option Nat)) (c' c : Cf) : Prop :=
  le1s rs c'.nl c.env c'.env ∧ leL rs c'.nl c.L c'.L ∧ (∀ b x, c'.G b = some x → c.G b = some x) ∧ c'.L.length = c'.nl ∧ c'.nl ≤ c.nl ∧ c'.nt = rs.length ∧ nodupB c.nt rs = true

section
variable {T : TypeId → TR} {g : Gh} {w : World} {a : Act}
/-- the ghost under new numbers -/
def Gh.renum (g : Gh) (rs : List (Option Nat)) (nl : Nat) : Gh :=
  { g with own := fun k => match g.own k with | .tok j n => (match rs.idxOf? (some j) with | some i => .tok i n | none => .frz) | o => o, nl := nl, tau := fun i => match rs[i]? with | some (some j) => g.tau j | _ => none, nt := rs.length }
theorem idx_of {rs : List (Option Nat)} {i j : Nat} (hu : ∀ i', rs[i']? = some (some j) → i' = i) (h : rs[i]? = some (some j)) : rs.idxOf? (some j) = some i := by
  obtain ⟨hlt, hx⟩ := List.getElem?_eq_some_iff.1 h
  have hm : some j ∈ rs := List.mem_of_getElem? h
  cases hc : rs.idxOf? (some j) with
  | none => rw [List.idxOf?_eq_none_iff] at hc; exact absurd hm hc
  | some q =>
    congr 1
    refine hu q ?_
    unfold List.idxOf? at hc
    obtain ⟨hq, h1, _⟩ := List.findIdx?_eq_some_iff_getElem.1 hc
    rw [List.getElem?_eq_getElem hq]
    simpa using h1
theorem renum_dx (g : Gh) (rs : List (Option Nat)) (nl : Nat) (w : World) : Dx g w (g.renum rs nl) w := by
  refine ⟨fun k i u h1 h2 => ⟨?_, h2⟩, Nat.le_refl _, fun _ _ => rfl⟩
  unfold Gh.frz Gh.renum at *
  revert h1
  simp only
  cases g.own k <;> intro h1 <;> first | exact h1 | skip
  rename_i j n
  simp only
  cases rs.idxOf? (some j) <;> first | trivial | exact h1
theorem renum_ext (g : Gh) (rs : List (Option Nat)) (nl : Nat) (w : World) : Ext g w (g.renum rs nl) w := by
  have := renum_dx g rs nl w
  refine ⟨this.cell, this.nb, this.beta, fun k _ h => ⟨?_, rfl⟩, Nat.le_refl _, rfl, rfl, rfl⟩
  unfold Gh.renum
  revert h
  simp only
  cases g.own k <;> intro h <;> first | rfl | exact h.elim
theorem le0_sound {rs : List (Option Nat)} {nl : Nat} (hrs : RsOk rs) {v v' : AV} (hle : le0 rs nl v v') {u : Value} (h : Cz T g w v u) : Cz T (g.renum rs nl) w v' u := by
  have dx := renum_dx g rs nl w
  have dz : Dz T g w v' u → Cz T (g.renum rs nl) w v' u := fun h => .dz _ _ (h.mono dx)
  cases v' with
  | top => exact .any u
  | int k n => cases v <;> first | exact hle.elim | (obtain ⟨rfl, rfl⟩ := hle; rw [cz_int h]; exact .dz _ _ (.int _ _))
  | bool b => cases v <;> first | exact hle.elim | (cases hle; rw [cz_bool h]; exact .dz _ _ (.bool _))
  | str s => cases v <;> first | exact hle.elim | (cases hle; rw [cz_str h]; exact .dz _ _ (.str _))
  | nils => cases v <;> first | exact hle.elim | (rw [cz_nils h]; exact .dz _ _ .nils)
  | slc e els =>
    cases v <;> first | exact hle.elim | skip
    · cases hle
      rw [cz_nils h]
      exact .dz _ _ (.slc e [] none 0 (fun _ _ => undef) (Nat.le_refl _) (by decide) (fun _ h => by cases h) (fun h => by simp at h) (fun i cells h => by simp at h))
    · obtain ⟨rfl, rfl⟩ := hle; exact dz (cz_slc h)
    · obtain ⟨rfl, rfl⟩ := hle; exact dz ((cz_own h).2.slc (fun n i hi => hi))
  | own i e els =>
    cases v <;> first | exact hle.elim | skip
    · obtain ⟨h1, rfl⟩ := hle
      rw [cz_nils h]
      have hi := (List.getElem?_eq_some_iff.1 h1).1
      have ht : (g.renum rs nl).tau i = none := by simp only [Gh.renum, h1]
      exact .own i e [] _ hi ⟨[], World.ownsRow_nil _ _ _ _, by rw [ht]; rfl, fun k hk => (by rw [ht] at hk; cases hk), fun _ h => (by cases h), fun i cells h => (by simp at h)⟩
    · rename_i j e2 els2
      obtain ⟨h1, rfl, rfl⟩ := hle
      have hi := (List.getElem?_eq_some_iff.1 h1).1
      obtain ⟨hj, hown⟩ := cz_own h
      have hidx := idx_of (hrs i j h1) h1
      have ht : (g.renum rs nl).tau i = g.tau j := by simp only [Gh.renum, h1]
      refine .own i _ _ u hi ?_
      rw [ht]
      obtain ⟨xs, o1, o2, o3, o4, o5⟩ := hown
      refine ⟨xs, o1, o2, fun k hk => ?_, o4, fun i cells hi j x hj => ?_⟩
      · simp only [Gh.renum, o3 k hk, hidx]
      · obtain ⟨y, q1, q2, q3⟩ := o5 i cells hi j x hj
        exact ⟨y, q1, q2, q3.mono dx⟩
  | eref c o => cases v <;> first | exact hle.elim | (obtain ⟨rfl, rfl⟩ := hle; cases h with | dz _ _ h => exact dz h)
  | lptr j o =>
    cases v <;> first | exact hle.elim | skip
    obtain ⟨⟨rfl, h1⟩, rfl⟩ := hle
    rw [(cz_lptr h).2]
    exact .lptr (g := g.renum rs nl) _ _ h1
  | gptr b o =>
    cases v <;> first | exact hle.elim | skip
    obtain ⟨rfl, rfl⟩ := hle
    cases h with | dz _ _ h => exact dz h
  | nilp => cases v <;> first | exact hle.elim | (rw [cz_nilp h]; exact .dz _ _ .nilp)
  | nilf => cases v <;> first | exact hle.elim | (rw [cz_nilf h]; exact .dz _ _ .nilf)
  | nili => cases v <;> first | exact hle.elim | (rw [cz_nili h]; exact .dz _ _ .nili)
  | nilm => cases v <;> first | exact hle.elim | (rw [cz_nilm h]; exact .dz _ _ .nilm)
  | mp b => cases v <;> first | exact hle.elim | (cases hle; cases h with | dz _ _ h => exact dz h)
  | agg cs => cases v <;> exact hle.elim
  | tup cs => cases v <;> exact hle.elim
  | fn f p q => cases v <;> exact hle.elim
  | ifc t x => cases v <;> exact hle.elim
theorem le0s_sound {rs : List (Option Nat)} {nl : Nat} (hrs : RsOk rs) : ∀ {cs ds : List AV}, le0s rs nl cs ds → ds.length = cs.length ∧ ∀ {us : Array Value} {n : Nat}, (∀ (i : Nat) (c : AV) (u : Value), cs[i]? = some c → us[n + i]? = some u → Cz T g w c u) →
    ∀ (i : Nat) (c : AV) (u : Value), ds[i]? = some c → us[n + i]? = some u → Cz T (g.renum rs nl) w c u
  | [], [], _ => ⟨rfl, fun _ i c u h => by simp at h⟩
  | [], _ :: _, h => h.elim
  | _ :: _, [], h => h.elim
  | v :: r, v' :: r', ⟨h1, h2⟩ => by
    obtain ⟨h3, h4⟩ := le0s_sound hrs h2
    refine ⟨by simp [h3], fun {us n} hp i c u hc hu => ?_⟩
    cases i with
    | zero => simp at hc; subst hc; exact le0_sound hrs h1 (hp 0 v u rfl hu)
    | succ i => exact h4 (us := us) (n := n + 1) (fun i c u hc hu => hp (i + 1) c u (by simpa using hc) (by rw [show n + (i + 1) = n + 1 + i by omega]; exact hu)) i c u (by simpa using hc) (by rw [show n + 1 + i = n + (i + 1) by omega]; exact hu)
theorem le1_sound {rs : List (Option Nat)} {nl : Nat} (hrs : RsOk rs) {v v' : AV} (hle : le1 rs nl v v') {u : Value} (h : Cz T g w v u) : Cz T (g.renum rs nl) w v' u := by
  have plain : (le1 rs nl v v' = le0 rs nl v v') → Cz T (g.renum rs nl) w v' u := fun he => le0_sound hrs (by rw [← he]; exact hle) h
  cases v with
  | agg cs => cases v' with
    | agg ds =>
      obtain ⟨us, rfl, hl, h1, h2⟩ := cz_agg h
      obtain ⟨h3, h4⟩ := le0s_sound (T := T) (g := g) (w := w) hrs hle
      exact .agg _ _ (h3.trans hl) h1 (fun i c u hc hu => h4 (n := 0) (us := us) (fun i c u hc hu => h2 i c u hc (by simpa using hu)) i c u hc (by simpa using hu))
    | _ => exact plain rfl
  | fn f p q => cases v' with
    | fn f' p' q' =>
      obtain ⟨rfl, l1, l2⟩ := hle
      obtain ⟨us, vs, rfl, ha, hb, h1, h2⟩ := cz_fn h
      obtain ⟨h3, h4⟩ := le0s_sound (T := T) (g := g) (w := w) hrs l1
      obtain ⟨h5, h6⟩ := le0s_sound (T := T) (g := g) (w := w) hrs l2
      exact .fn _ _ _ _ _ (h3.trans ha) (h5.trans hb) (fun i c u hc hu => h4 (n := 0) (us := us) (fun i c u hc hu => h1 i c u hc (by simpa using hu)) i c u hc (by simpa using hu))
        (fun i c u hc hu => h6 (n := 0) (us := vs) (fun i c u hc hu => h2 i c u hc (by simpa using hu)) i c u hc (by simpa using hu))
    | _ => exact plain rfl
  | _ => exact plain (by cases v' <;> rfl)
theorem le1s_len {rs : List (Option Nat)} {nl : Nat} : ∀ {cs ds : List AV}, le1s rs nl cs ds → ds.length = cs.length
  | [], [], _ => rfl
  | [], _ :: _, h => h.elim
  | _ :: _, [], h => h.elim
  | _ :: _, _ :: _, h => by simp [le1s_len h.2]
theorem le1s_at {rs : List (Option Nat)} {nl : Nat} : ∀ {cs ds : List AV}, le1s rs nl cs ds → ∀ (i : Nat) (v' : AV), ds[i]? = some v' → ∃ v, cs[i]? = some v ∧ le1 rs nl v v'
  | [], [], _, i, v', h => by simp at h
  | [], _ :: _, h, _, _, _ => h.elim
  | _ :: _, [], h, _, _, _ => h.elim
  | v :: r, x :: r', h, 0, v', hv => by simp at hv; subst hv; exact ⟨v, rfl, h.1⟩
  | v :: r, x :: r', h, i + 1, v', hv => by simpa using le1s_at h.2 i v' (by simpa using hv)
theorem leL_at {rs : List (Option Nat)} {nl : Nat} : ∀ {L L' : List LB}, leL rs nl L L' → ∀ (j : Nat) (b' : LB), L'[j]? = some b' → b' = .dead ∨ ∃ b, L[j]? = some b ∧ ((∃ org cells cells', b = .live org cells ∧ b' = .live org cells' ∧ le1s rs nl cells cells') ∨ ∃ x, b = .away x ∧ b' = .away x)
  | [], [], _, j, b', h => by simp at h
  | _ :: _, [], _, j, b', h => by simp at h
  | [], b :: r, h, _, _, _ => by cases b <;> exact h.elim
  | b :: r, b1 :: r', h, j, b', hj => by
    have tail : leL rs nl r r' := by cases b <;> cases b1 <;> first | exact h.2 | exact h | exact h.elim
    cases j with
    | succ j => simpa using leL_at tail j b' (by simpa using hj)
    | zero =>
      simp at hj
      subst hj
      cases b <;> cases b1 <;> first | exact .inl rfl | exact h.elim | skip
      · obtain ⟨⟨rfl, h2⟩, _⟩ := h; exact .inr ⟨_, rfl, .inl ⟨_, _, _, rfl, rfl, h2⟩⟩
      · obtain ⟨rfl, _⟩ := h; exact .inr ⟨_, rfl, .inr ⟨_, rfl, rfl⟩⟩
theorem weak_of (rs : List (Option Nat)) {c' c : Cf} (h : weakP rs c' c) : Weak T c' c := by
  obtain ⟨h1, h2, h3, h4, h5, h6, h7⟩ := h
  refine ⟨fun g a w hs => ⟨g.renum rs c'.nl, ?_, renum_ext _ _ _ _⟩⟩
  have dx := renum_dx g rs c'.nl w
  have hrs : RsOk rs := rsOk_of h7
  refine ⟨⟨fun b bx hb => ?_, fun j bx hj => ?_, h4, rfl, h6.symm⟩, by rw [hs.size, le1s_len h1], fun i v' hv => ?_, hs.defers⟩
  · obtain ⟨q1, q2, q3⟩ := hs.rel.glob b bx (h3 b bx hb)
    refine ⟨q1, by simp only [Gh.renum, q2], q3.keep q1 q2 dx fun k hk _ => ⟨?_, rfl⟩⟩
    simp only [Gh.renum]
    revert hk
    cases g.own k <;> intro hk <;> first | rfl | exact hk.elim
  · rcases leL_at h2 j bx hj with rfl | ⟨b, hb, ⟨org, cells, cells', rfl, rfl, hle⟩ | ⟨x, rfl, rfl⟩⟩
    · trivial
    · obtain ⟨q1, ⟨us, e, c1, c2, c3, c4⟩, q3⟩ := hs.rel.loc j _ hb
      refine ⟨by simp only [Gh.renum, q1], ⟨us, e, c1, by rw [le1s_len hle]; exact c2, c3, fun i v' u hv hu => ?_⟩, q3⟩
      obtain ⟨v, hv2, hle2⟩ := le1s_at hle i v' hv
      exact le1_sound hrs hle2 (c4 i v u hv2 hu)
    · exact hs.rel.loc j _ hb
  · obtain ⟨v, hv2, hle2⟩ := le1s_at h1 i v' hv
    exact le1_sound hrs hle2 (hs.vals i v hv2)
end
end Go.Proofs.Ytmmmaekaoanceaa
