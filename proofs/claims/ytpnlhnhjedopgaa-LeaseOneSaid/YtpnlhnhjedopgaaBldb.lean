/- strings.Builder in the abstract run: a shared box that holds a text. -/
import Derived.Test.YtpnlhnhjedopgaaBlda
import Derived.Test.YtpnlhnhjedopgaaLaw
set_option maxRecDepth 100000
namespace Go.Proofs.Ytpnlhnhjedopgaa
open Go Go.RowKit Go.Proofs

def delG (G : Glob) (b : Nat) : Glob := fun i => if i = b then none else G i
theorem delG_ne (G : Glob) {b i : Nat} (h : i ≠ b) : delG G b i = G i := by simp [delG, h]
theorem del_new {G : Glob} {b : Nat} {x : GB} (h : G b = none) (i : Nat) (y : GB) (hi : G i = some y) : delG (setG G b x) b i = some y := by
  have : i ≠ b := fun e => by rw [e, h] at hi; cases hi
  rw [delG_ne _ this, setG_ne _ _ this]; exact hi
theorem new_sub {G : Glob} {b : Nat} {x : GB} (h : G b = none) (i : Nat) (y : GB) (hi : G i = some y) : setG G b x i = some y := by
  rw [setG_ne _ _ (fun e => by rw [e, h] at hi; cases hi)]; exact hi
def bldB : List (TypeId × TR) → Bool
  | [] => true
  | (t, r) :: l => (match r.bld with | none => true | some e => t == 198 && e == 5) && bldB l
theorem bld_look : ∀ (l : List (TypeId × TR)), bldB l = true → ∀ (t e : TypeId), (lookT l t).bld = some e → t = 198 ∧ e = 5
  | [], _, t, e, h => by cases h
  | (k, r) :: l, hb, t, e, h => by
    simp only [bldB, Bool.and_eq_true] at hb
    unfold lookT at h
    cases hk : Nat.beq k t with
    | true =>
      rw [hk] at h
      simp only at h
      rw [h] at hb
      have := hb.1
      simp only [Bool.and_eq_true, beq_iff_eq] at this
      rw [← Nat.eq_of_beq_eq_true hk]; exact this
    | false =>
      rw [hk] at h
      exact bld_look l hb.2 t e h
theorem bld_ty (t e : TypeId) (h : (TT t).bld = some e) : t = 198 ∧ e = 5 := bld_look tyTab (by kernel_rfl) t e h
theorem strCells_app (s t : ByteArray) : Lib.strCells (s ++ t) = Lib.strCells s ++ Lib.strCells t := by simp [Lib.strCells, ByteArray.data_append]
theorem box_bld {g : Gh} {w : World} {b : Nat} {s : ByteArray} (h : BoxAt TT g w b (.bld s)) : ∃ p v, Bld w (g.beta b) p v (Lib.strCells s) ∧ ∀ k, v.ownBlock = some k → g.own k = .gtok b 1 0 := by
  obtain ⟨t, e, p, v, h0, h1, h2, h3, h4, h5, h6⟩ := h
  obtain ⟨rfl, rfl⟩ := bld_ty t e h0
  refine ⟨p, v, ⟨h1, h2, by rw [Lib.strCells_length]; exact h3, h4, fun hn => h6 ?_⟩, h5⟩
  rw [← Lib.strCells_length s, hn]; rfl
theorem bld_box {g : Gh} {w : World} {b : Nat} {s : ByteArray} {p v : Value} (h : Bld w (g.beta b) p v (Lib.strCells s)) (ho : ∀ k, v.ownBlock = some k → g.own k = .gtok b 1 0) : BoxAt TT g w b (.bld s) :=
  ⟨198, 5, p, v, rfl, h.blk, h.adr, by have := h.own; rw [Lib.strCells_length] at this; exact this, h.ne, ho, fun hs => h.nil (List.eq_nil_of_length_eq_zero (by rw [Lib.strCells_length]; exact hs))⟩
/-- all blocks but the box's own two are as they were -/
theorem two_rest {g g' : Gh} {w w' : World} {b : Nat} {v : Value} {G : Glob} (hG : GRel TT g G w) (hb : g.own (g.beta b) = .gbox b) (ho : ∀ k, v.ownBlock = some k → g.own k = .gtok b 1 0) (h : Two w w' (g.beta b) v) (hg : ∀ k, k < w.heap.size → g'.own k = g.own k) (hbeta : g'.beta = g.beta) (hnb : g'.nb = g.nb) :
    Ext g w g' w' ∧ ∀ i bx, i ≠ b → G i = some bx → i < g'.nb ∧ g'.own (g'.beta i) = .gbox i ∧ BoxAt TT g' w' i bx := by
  have ext : Ext g w g' w' := by
    refine ⟨fun k i u h1 h2 => ?_, Nat.le_of_eq hnb.symm, fun _ _ => by rw [hbeta], fun k hk hkept => ⟨hg k hk, h.block k hk (fun e => ?_) (fun e => ?_)⟩, h.size, h.os, h.tape, h.output⟩
    · have hlt := cell_lt h2
      refine ⟨by unfold Gh.frz at *; rw [hg k hlt]; exact h1, ?_⟩
      rw [cell_same (h.block k hlt (fun e => ?_) (fun e => ?_))]
      · exact h2
      · unfold Gh.frz at h1; rw [e, hb] at h1; exact h1
      · unfold Gh.frz at h1; rw [ho k e.symm] at h1; exact Nat.not_lt_zero _ h1
    · rw [e, hb] at hkept; exact hkept
    · rw [ho k e.symm] at hkept; exact hkept
  refine ⟨ext, fun i bx hi hbx => ?_⟩
  obtain ⟨i1, i2, i3⟩ := hG i bx hbx
  refine ⟨by rw [hnb]; exact i1, by rw [hbeta, hg _ i3.lt]; exact i2, i3.keep i1 i2 ext.dx fun k hk hlt => ⟨hg k hlt, h.block k hlt (fun e => ?_) (fun e => ?_)⟩⟩
  · rw [e, hb] at hk; exact hi hk.symm
  · rw [ho k e.symm] at hk; exact hi hk.symm
theorem bld_step {f : FuncId} {rest : List AV} {rv : AV} {G : Glob} {b : Nat} {s : ByteArray} (s' : ByteArray) (he : ∃ fn, (Try.prog).funcs[f]? = some fn ∧ (fn.name == "runtime.NumGoroutine") = false ∧ fn.body.isNone = false) (hG : G b = some (.bld s))
    (h : ∀ (g : Gh) (k : Nat) (us : List Value) (p v : Value) (w : World), us.length = rest.length → (∀ (i : Nat) (a : AV) (u : Value), rest[i]? = some a → us[i]? = some u → Dz TT g w a u) → Bld w k p v (Lib.strCells s) →
      ∃ u, (∀ g' w', Dz TT g' w' rv u) ∧ Calls Try.prog f (.pointer (some ⟨k, 0, none⟩) :: us).toArray w (fun e w' => e = .returned u ∧ ∃ v', Wrote w w' k v v' (Lib.strCells s'))) :
    CallOk Try.prog TT f (.gptr b 0 :: rest) G (fun v G' => v = rv ∧ G' = setG G b (.bld s')) := by
  refine ⟨he, fun g us w hr hl hd => ?_⟩
  obtain ⟨us⟩ := us
  match us, hl with
  | u0 :: us, hl =>
    obtain ⟨b1, b2, b3⟩ := hr b _ hG
    have e0 := hd 0 _ u0 rfl rfl
    cases e0 with
    | gptr _ _ hb =>
      obtain ⟨p, v, hB, ho⟩ := box_bld b3
      obtain ⟨u, hz, hc⟩ := h g (g.beta b) us p v w (by simpa using hl) (fun i a u ha hu => hd (i + 1) a u (by simpa using ha) (by simpa using hu)) hB
      refine hc.mono ?_
      rintro e w' ⟨rfl, v', hB', ht, hat⟩
      refine ⟨u, { g with own := fun i => if v'.ownBlock = some i then .gtok b 1 0 else g.own i }, setG G b (.bld s'), rv, rfl, ⟨rfl, rfl⟩, ?_, ?_, hz _ _⟩
      all_goals (
        have hg : ∀ k, k < w.heap.size → (if v'.ownBlock = some k then Own.gtok b 1 0 else g.own k) = g.own k := fun k hk => by
          split
          · rename_i hv
            rcases hat with hat | ⟨j, hj, hjl⟩
            · exact (ho k (by rw [← hat]; exact hv)).symm
            · rw [hj] at hv; simp only [Option.some.injEq] at hv; omega
          · rfl
        obtain ⟨r1, r2⟩ := two_rest (g' := { g with own := fun i => if v'.ownBlock = some i then .gtok b 1 0 else g.own i }) hr b2 ho ht hg rfl rfl)
      · intro i bx hi
        by_cases hib : i = b
        · subst hib
          rw [setG_same, Option.some.injEq] at hi
          subst hi
          exact ⟨b1, by rw [← b2]; exact hg _ b3.lt, bld_box hB' fun k hk => if_pos hk⟩
        · rw [setG_ne _ _ hib] at hi
          exact r2 i bx hib hi
      · exact r1
theorem write_ok (s t : ByteArray) (b : Nat) (G : Glob) (hG : G b = some (.bld s)) (hl : s.size + t.size ≤ 140737488355328) :
    CallOk Try.prog TT 122 [.gptr b 0, .str t] G (fun v G' => v = .tup [.int .i64 t.size, .nili] ∧ G' = setG G b (.bld (s ++ t))) := by
  refine bld_step (s ++ t) ⟨_, Try.func122, by decide, rfl⟩ hG fun g k us p v w hlen hd hB => ?_
  match us, hlen with
  | [u], _ =>
    cases hd 0 _ u rfl rfl
    refine ⟨.tuple #[.int .i64 t.size, .nilIface], fun g' w' => .tup _ _ rfl fun i c u hc hu => ?_, ?_⟩
    · match i with
      | 0 => simp at hc hu; subst hc hu; exact .int _ _
      | 1 => simp at hc hu; subst hc hu; exact .nili
      | i + 2 => simp at hc
    · rw [strCells_app]
      exact write_any k p v (Lib.strCells s) t w hB (by rw [Lib.strCells_length]; exact hl)
theorem bstring_ok (s : ByteArray) (b : Nat) (G : Glob) (hG : G b = some (.bld s)) : CallOk Try.prog TT 123 [.gptr b 0] G (fun v G' => v = .str s ∧ G' = delG G b) := by
  refine ⟨⟨_, Try.func123, by decide, rfl⟩, fun g us w hr hl hd => ?_⟩
  obtain ⟨us⟩ := us
  match us, hl with
  | [u0], _ =>
    obtain ⟨b1, b2, b3⟩ := hr b _ hG
    have e0 := hd 0 _ u0 rfl rfl
    cases e0 with
    | gptr _ _ hb =>
      obtain ⟨p, v, hB, ho⟩ := box_bld b3
      refine (string_any (g.beta b) p v s w hB).mono ?_
      rintro e w' ⟨rfl, ht⟩
      obtain ⟨r1, r2⟩ := two_rest (g' := g) hr b2 ho ht (fun _ _ => rfl) rfl rfl
      refine ⟨_, g, delG G b, .str s, rfl, ⟨rfl, rfl⟩, fun i bx hi => ?_, r1, .str s⟩
      have hib : i ≠ b := fun e => by subst e; simp [delG] at hi
      rw [delG_ne _ hib] at hi
      exact r2 i bx hib hi
end Go.Proofs.Ytpnlhnhjedopgaa
