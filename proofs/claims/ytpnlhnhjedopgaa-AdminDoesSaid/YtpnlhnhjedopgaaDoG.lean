/- The two books, side by side: plain words; same. -/
import Derived.Test.YtpnlhnhjedopgaaDoF
import Derived.Test.YtpnlhnhjedopgaaAdmL
import Derived.Test.YtpnlhnhjedopgaaAllB
import Derived.Test.YtpnlhnhjedopgaaSame
set_option maxRecDepth 100000
set_option linter.unusedSimpArgs false
namespace Go.Proofs.Ytpnlhnhjedopgaa
open Go Go.RowKit Go.Proofs Go.Maps Go.Sort

def rowN (l : TenL) (i : Int) : RTen := ⟨livB l i, (tenOf l i).r, (tenOf l i).c⟩
def rowT (l : TenL) : List RTen := (List.range 9).map fun (i : Nat) => rowN l (i : Int)
theorem rowT_len (l : TenL) : (rowT l).length = 9 := by simp [rowT]
theorem row_out {l : TenL} {k : Nat} (h : TIn l k) {i : Int} (hi : i < 1 ∨ 8 < i) : rowN l i = zeroR := by
  have hn : zget l i = none := zget_not_mem fun hm => by
    obtain ⟨e, he, rfl⟩ := List.mem_map.1 hm
    have := h.ky e he
    omega
  unfold rowN livB tenOf
  rw [hn]; rfl
theorem ofR_row {l : TenL} {k : Nat} (h : TIn l k) (i : Int) : ofR (rowT l) i = rowN l i := by
  unfold ofR
  by_cases h0 : i < 0
  · rw [if_pos h0, row_out h (.inl (by omega))]
  · rw [if_neg h0]
    by_cases h8 : i < 9
    · unfold rowT
      rw [List.getElem?_map, List.getElem?_range (by omega)]
      simp only [Option.map_some, Option.getD_some]
      rw [show ((i.toNat : Nat) : Int) = i by omega]
    · rw [List.getElem?_eq_none (by rw [rowT_len]; omega), row_out h (.inr (by omega))]; rfl
theorem chkR_row {l : TenL} {k : Nat} (h : TIn l k) (o : Ord) : chkR (rowT l) o = chkB l o := by
  unfold chkR chkB
  rw [ofR_row h]
  rfl
theorem doR_row {l : TenL} {k : Nat} (h : TIn l k) (o : Ord) : doR (rowT l) o = rowT (doB l o) := by
  unfold doR
  rw [chkR_row h, ofR_row h]
  by_cases hz : chkB l o = 0
  · rw [if_pos hz]
    have hin := formB_in (chk_zero hz).1
    unfold inB at hin
    have hnew : newT (rowN l o.owner) o = rowN (doB l o) o.owner := by
      cases doW h hz with
      | c hop z1 z2 z3 => unfold newT rowN livB tenOf; rw [if_pos hop, z2]; rfl
      | s t hop z1 z2 z3 => unfold newT rowN livB tenOf; rw [if_neg (by omega), if_pos hop, z1, z2]; rfl
      | r t hop z1 z2 z3 => unfold newT rowN livB tenOf; rw [if_neg (by omega), if_neg (by omega), if_pos hop, z1, z2]; rfl
      | d t hop z1 z2 => unfold newT rowN livB tenOf; rw [if_neg (by omega), if_neg (by omega), if_neg (by omega), if_pos hop, z2]; rfl
      | k t hop z1 z2 => unfold newT rowN livB tenOf; rw [if_neg (by omega), if_neg (by omega), if_neg (by omega), if_neg (by omega), if_neg (by omega), z1, z2]
      | q t hop z1 z2 => unfold newT rowN livB tenOf; rw [if_neg (by omega), if_neg (by omega), if_neg (by omega), if_neg (by omega), if_pos hop, z1, z2]; rfl
    rw [hnew]
    refine List.ext_getElem? fun j => ?_
    by_cases hj : j = o.owner.toNat
    · subst hj
      rw [List.getElem?_set_self (by rw [rowT_len]; omega)]
      unfold rowT
      rw [List.getElem?_map, List.getElem?_range (by omega)]
      simp only [Option.map_some]
      rw [show ((o.owner.toNat : Nat) : Int) = o.owner by omega]
    · rw [List.getElem?_set_ne (Ne.symm hj)]
      unfold rowT
      rw [List.getElem?_map, List.getElem?_map]
      cases hr : (List.range 9)[j]? with
      | none => rfl
      | some q =>
        have hq : q = j := by
          obtain ⟨q1, q2⟩ := List.getElem?_eq_some_iff.1 hr
          rw [List.getElem_range] at q2; exact q2.symm
        subst hq
        simp only [Option.map_some, Option.some.injEq]
        unfold rowN livB tenOf
        rw [do_other (o := o) (l := l) (z := (q : Int)) (by omega)]
  · rw [if_neg hz, do_no hz]
theorem allR_mem {l : TenL} {k : Nat} (h : TIn l k) : ∀ n, (∀ x, x ∈ allR (rowT l) n ↔ (0 ≤ x ∧ x < (n : Int)) ∧ livB l x = true) ∧ (allR (rowT l) n).Pairwise (· < ·)
  | 0 => ⟨fun x => by unfold allR; simp; omega, by unfold allR; exact .nil⟩
  | n + 1 => by
    obtain ⟨h1, h2⟩ := allR_mem h n
    unfold allR
    rw [ofR_row h]
    show (∀ x, x ∈ allR (rowT l) n ++ (if livB l (n : Int) then [(n : Int)] else []) ↔ _) ∧ (allR (rowT l) n ++ (if livB l (n : Int) then [(n : Int)] else [])).Pairwise _
    refine ⟨fun x => ?_, ?_⟩
    · rw [List.mem_append, h1]
      by_cases hx : x = (n : Int)
      · subst hx
        cases hl : livB l (n : Int) <;> simp
        omega
      · have : ¬ x ∈ (if livB l (n : Int) then [(n : Int)] else []) := by split <;> simp [hx]
        constructor
        · rintro (⟨h3, h4⟩ | h3)
          · exact ⟨by omega, h4⟩
          · exact absurd h3 this
        · rintro ⟨h3, h4⟩
          exact .inl ⟨by omega, h4⟩
    · rw [List.pairwise_append]
      refine ⟨h2, by split <;> simp, fun x hx y hy => ?_⟩
      have h3 := ((h1 x).1 hx).1
      split at hy
      · rw [List.mem_singleton.1 hy]; omega
      · simp at hy
theorem keyZ_all {l : TenL} {k : Nat} (h : TIn l k) : keyZ l = allR (rowT l) 9 := by
  obtain ⟨h1, h2⟩ := allR_mem h 9
  have hp : (keyZ l).Perm (l.map (·.1)) := List.mergeSort_perm _ _
  refine List.Perm.eq_of_pairwise (le := (· ≤ ·)) (fun a b _ _ h3 h4 => Int.le_antisymm h3 h4) ?_ (h2.imp fun h => Int.le_of_lt h) ?_
  · have := List.pairwise_mergeSort (le := leI) (fun a b c h3 h4 => by simp only [leI, decide_eq_true_eq] at *; omega) (fun a b => by simp only [leI, Bool.or_eq_true, decide_eq_true_eq]; omega) (l.map fun x => x.1)
    exact this.imp fun h => by simpa [leI] using h
  · refine hp.trans ((List.perm_ext_iff_of_nodup h.nd (h2.imp fun h => by omega)).2 fun x => ?_)
    rw [h1]
    constructor
    · intro hx
      obtain ⟨e, he, rfl⟩ := List.mem_map.1 hx
      have hk := h.ky e he
      refine ⟨by omega, ?_⟩
      unfold livB
      cases hg : zget l e.1 with
      | some _ => rfl
      | none => exact absurd rfl (zget_none hg e he)
    · rintro ⟨_, hx⟩
      unfold livB at hx
      obtain ⟨t, ht⟩ := Option.isSome_iff_exists.mp hx
      exact List.mem_map.2 ⟨_, zget_mem ht, rfl⟩
theorem ints_ok (a b : List Int) (G : Glob) : CallOk Try.prog TT 116 [.slc 3 (a.map fun x => [.int .i64 x]), .slc 3 (b.map fun x => [.int .i64 x])] G (fun v G' => v = .bool (decide (a = b)) ∧ G' = G) := by
  refine .of_gives ⟨_, Try.func116, by decide, rfl⟩ fun g us w hl hd => ?_
  obtain ⟨us⟩ := us
  match us, hl with
  | [u0, u1], _ =>
    have hr : ∀ (l : List Int) (u : Value), Dz TT g w (.slc 3 (l.map fun x => [.int .i64 x])) u → Row w u l 1 (fun x => [.int .i64 x]) := fun l u h => dz_row (g := g) (acells := fun x => [AV.int .i64 x]) h rfl (by decide) fun x _ => ⟨rfl, fun j c y z hc hy hzz => by
      match j with
      | 0 => simp at hc hy; subst hc hy; cases hzz; rfl
      | j + 1 => simp at hc⟩
    exact ⟨_, .bool _, ints_any u0 u1 a b w (hr a u0 (hd 0 _ u0 rfl rfl)) (hr b u1 (hd 1 _ u1 rfl rfl))⟩
structure SI where
  k : Nat
  hk : k ≤ 11
theorem same41_ok (G : Glob) (b : Nat) (mv : AV) (l : TenL) {i : Nat} (h : BkG G b mv l) (I : TIn l i) (hi : i ≤ 1000) : CallOk Try.prog TT 83 [.gptr b 0, bookV (rowT l)] G (fun v G' => v = .bool true ∧ G' = G) := by
  have hof := fun z => refof41_ok (rowT l) (rowT_len l) z G
  have hall := refall41_ok (rowT l) (rowT_len l) G
  have ca := aall_ok G b mv l h (by have := I.ln; omega) I.wf
  have cl := fun z => alives_ok G b mv l z h
  have cr := fun z => arests_ok G b mv l z h
  have cc := fun z => aconf_ok G b mv l z h
  have hint := ints_ok (keyZ l) (allR (rowT l) 9) G
  rw [keyZ_all I, decide_eq_true rfl] at hint
  have hkz : keysZ l = (allR (rowT l) 9).map fun x => [AV.int .i64 x] := by unfold keysZ; rw [keyZ_all I]
  rw [hkz] at ca
  have hrow : ∀ z, ofR (rowT l) z = rowN l z := ofR_row I
  unfold bookV at *
  generalize (rowT l).map RTen.av = Rl at *
  generalize allR (rowT l) 9 = al at *
  refine call_sem tt_ok Try.func83 rfl (by kernel_rfl) Try.ntmps83 Try.results83 ?_; conv => whnf
  repeat' (first | ((first | refine Sem.reg tt_ok ?_ | refine Sem.condS ?_ | refine Sem.regL tt_ok ?_ | refine Sem.skip tt_ok ?_ | refine Sem.exit tt_ok ?_ | refine Sem.ret tt_ok ?_ | refine BS_t (by assumption) ?_ | refine BS_f (by assumption) ?_ | refine atG (by repeat (first | assumption | exact setG_same _ _ _ | refine Eq.trans (setG_ne _ _ (by first | assumption | exact Ne.symm (by assumption))) ?_)) ?_ | refine (nthK_iff _ _).2 ⟨_, (by assumption), ?_⟩ | refine ⟨_, ⟨(by omega), (by assumption)⟩, ?_⟩ | refine And.intro (by first | decide | omega) ?_ | fail); conv => whnf) | refine Sem.seqS ?_ | refine Sem.block ?_ | fail)
  refine Sem.loop (ι := SI) (fun x => ⟨(.gptr b 0 :: .top :: .top :: .lptr 0 0 :: .bool false :: .int .i64 ((x.k : Int) - 1) :: .top :: .top :: .top :: .top :: .top :: .top :: .top :: .top :: .top :: .top :: .top :: .top :: .top :: .top :: .top :: .top :: .top :: .top :: .top :: .top :: .top :: .top :: .top :: .top :: .top :: .top :: .top :: .top :: .top :: .top :: .top :: .top :: .top :: .top :: .top :: []), [.live none [.slc 181 Rl]], 1, 0, G⟩) (fun x => 11 - x.k) ⟨0, by omega⟩ ?_ (fun x => ?_)
  · refine weak_by [] ?_; (conv => whnf); repeat (first | (refine And.intro rfl ?_; conv => whnf) | fail)
    exact ⟨fun i y hy => hy, rfl, Nat.le_refl _, rfl, rfl⟩
  have hk := x.hk
  generalize x.k = k at hk ⊢
  repeat' (first | ((first | refine Sem.reg tt_ok ?_ | refine Sem.condS ?_ | refine Sem.regL tt_ok ?_ | refine Sem.skip tt_ok ?_ | refine Sem.exit tt_ok ?_ | refine Sem.ret tt_ok ?_ | refine BS_t (by assumption) ?_ | refine BS_f (by assumption) ?_ | refine atG (by repeat (first | assumption | exact setG_same _ _ _ | refine Eq.trans (setG_ne _ _ (by first | assumption | exact Ne.symm (by assumption))) ?_)) ?_ | refine (nthK_iff _ _).2 ⟨_, (by assumption), ?_⟩ | refine ⟨_, ⟨(by omega), (by assumption)⟩, ?_⟩ | refine And.intro (by first | decide | omega) ?_ | fail); conv => whnf) | refine Sem.seqS ?_ | refine Sem.block ?_ | fail)
  by_cases hlt : k < 11
  · have c0 : decide (((k : Int) - 1) < 10) = true := decide_eq_true (by omega)
    have hz := hof ((k : Int) - 1)
    rw [hrow] at hz
    have c1 := cl ((k : Int) - 1)
    have c2 := cr ((k : Int) - 1)
    have c3 := cc ((k : Int) - 1)
    unfold rowN RTen.av at hz
    unfold Cnf.av at c3
    generalize livB l ((k : Int) - 1) = lv at *
    generalize tenOf l ((k : Int) - 1) = t at *
    obtain ⟨⟨m0, m1, m2, m3, m4, m5, m6, m7, m8⟩, r⟩ := t
    simp only at hz c2 c3
    have e1 : (lv != lv) = false := by simp
    have e2 : (r != r) = false := by simp
    have e3 : (!((m0 == m0) && ((m1 == m1) && ((m2 == m2) && ((m3 == m3) && ((m4 == m4) && ((m5 == m5) && ((m6 == m6) && ((m7 == m7) && ((m8 == m8) && true)))))))))) = false := by simp
    repeat' (first | ((first | refine Sem.reg tt_ok ?_ | refine Sem.condS ?_ | refine Sem.regL tt_ok ?_ | refine Sem.skip tt_ok ?_ | refine Sem.exit tt_ok ?_ | refine Sem.ret tt_ok ?_ | refine BS_t (by assumption) ?_ | refine BS_f (by assumption) ?_ | refine atG (by repeat (first | assumption | exact setG_same _ _ _ | refine Eq.trans (setG_ne _ _ (by first | assumption | exact Ne.symm (by assumption))) ?_)) ?_ | refine (nthK_iff _ _).2 ⟨_, (by assumption), ?_⟩ | refine ⟨_, ⟨(by omega), (by assumption)⟩, ?_⟩ | refine And.intro (by first | decide | omega) ?_ | fail); conv => whnf) | refine Sem.seqS ?_ | refine Sem.block ?_ | fail)
    refine hz.on ?_; conv => whnf
    repeat' (first | ((first | refine Sem.reg tt_ok ?_ | refine Sem.condS ?_ | refine Sem.regL tt_ok ?_ | refine Sem.skip tt_ok ?_ | refine Sem.exit tt_ok ?_ | refine Sem.ret tt_ok ?_ | refine BS_t (by assumption) ?_ | refine BS_f (by assumption) ?_ | refine atG (by repeat (first | assumption | exact setG_same _ _ _ | refine Eq.trans (setG_ne _ _ (by first | assumption | exact Ne.symm (by assumption))) ?_)) ?_ | refine (nthK_iff _ _).2 ⟨_, (by assumption), ?_⟩ | refine ⟨_, ⟨(by omega), (by assumption)⟩, ?_⟩ | refine And.intro (by first | decide | omega) ?_ | fail); conv => whnf) | refine Sem.seqS ?_ | refine Sem.block ?_ | fail)
    refine draw_sound (eff := []) tt_ok (by kernel_rfl) (by kernel_rfl) ?_; conv => whnf
    repeat' (first | ((first | refine BS_t (by assumption) ?_ | refine BS_f (by assumption) ?_ | refine atG (by repeat (first | assumption | exact setG_same _ _ _ | refine Eq.trans (setG_ne _ _ (by first | assumption | exact Ne.symm (by assumption))) ?_)) ?_ | refine (nthK_iff _ _).2 ⟨_, (by assumption), ?_⟩ | refine ⟨_, ⟨(by omega), (by assumption)⟩, ?_⟩ | refine And.intro (by first | decide | omega) ?_ | fail); conv => whnf) | fail)
    refine ⟨_, _, c1, ?_⟩; (conv => whnf); refine And.intro rfl ?_; conv => whnf
    repeat' (first | ((first | refine BS_t (by assumption) ?_ | refine BS_f (by assumption) ?_ | refine atG (by repeat (first | assumption | exact setG_same _ _ _ | refine Eq.trans (setG_ne _ _ (by first | assumption | exact Ne.symm (by assumption))) ?_)) ?_ | refine (nthK_iff _ _).2 ⟨_, (by assumption), ?_⟩ | refine ⟨_, ⟨(by omega), (by assumption)⟩, ?_⟩ | refine And.intro (by first | decide | omega) ?_ | fail); conv => whnf) | fail)
    refine ⟨_, _, c2, ?_⟩; (conv => whnf); refine And.intro rfl ?_; conv => whnf
    repeat' (first | ((first | refine BS_t (by assumption) ?_ | refine BS_f (by assumption) ?_ | refine atG (by repeat (first | assumption | exact setG_same _ _ _ | refine Eq.trans (setG_ne _ _ (by first | assumption | exact Ne.symm (by assumption))) ?_)) ?_ | refine (nthK_iff _ _).2 ⟨_, (by assumption), ?_⟩ | refine ⟨_, ⟨(by omega), (by assumption)⟩, ?_⟩ | refine And.intro (by first | decide | omega) ?_ | fail); conv => whnf) | fail)
    refine ⟨_, _, c3, ?_⟩; (conv => whnf); refine And.intro rfl ?_; conv => whnf
    repeat' (first | ((first | refine BS_t (by assumption) ?_ | refine BS_f (by assumption) ?_ | refine atG (by repeat (first | assumption | exact setG_same _ _ _ | refine Eq.trans (setG_ne _ _ (by first | assumption | exact Ne.symm (by assumption))) ?_)) ?_ | refine (nthK_iff _ _).2 ⟨_, (by assumption), ?_⟩ | refine ⟨_, ⟨(by omega), (by assumption)⟩, ?_⟩ | refine And.intro (by first | decide | omega) ?_ | fail); conv => whnf) | fail)
    repeat' (first | ((first | refine Sem.reg tt_ok ?_ | refine Sem.condS ?_ | refine Sem.regL tt_ok ?_ | refine Sem.skip tt_ok ?_ | refine Sem.exit tt_ok ?_ | refine Sem.ret tt_ok ?_ | refine BS_t (by assumption) ?_ | refine BS_f (by assumption) ?_ | refine atG (by repeat (first | assumption | exact setG_same _ _ _ | refine Eq.trans (setG_ne _ _ (by first | assumption | exact Ne.symm (by assumption))) ?_)) ?_ | refine (nthK_iff _ _).2 ⟨_, (by assumption), ?_⟩ | refine ⟨_, ⟨(by omega), (by assumption)⟩, ?_⟩ | refine And.intro (by first | decide | omega) ?_ | fail); conv => whnf) | refine Sem.seqS ?_ | refine Sem.block ?_ | fail)
    refine ⟨⟨k + 1, hlt⟩, by show 11 - (k + 1) < 11 - k; omega, ?_⟩
    refine weak_by [] ?_; (conv => whnf); repeat (first | (refine And.intro rfl ?_; conv => whnf) | fail)
    refine And.intro (show _ = (((k + 1 : Nat)) : Int) - 1 from by rw [IntWalk.i64_in _ (by omega)]; omega) ?_
    (conv => whnf); repeat (first | (refine And.intro rfl ?_; conv => whnf) | fail)
    exact ⟨fun i y hy => hy, rfl, by omega, rfl, rfl⟩
  · have c0 : decide (((k : Int) - 1) < 10) = false := decide_eq_false (by omega)
    repeat' (first | ((first | refine Sem.reg tt_ok ?_ | refine Sem.condS ?_ | refine Sem.regL tt_ok ?_ | refine Sem.skip tt_ok ?_ | refine Sem.exit tt_ok ?_ | refine Sem.ret tt_ok ?_ | refine BS_t (by assumption) ?_ | refine BS_f (by assumption) ?_ | refine atG (by repeat (first | assumption | exact setG_same _ _ _ | refine Eq.trans (setG_ne _ _ (by first | assumption | exact Ne.symm (by assumption))) ?_)) ?_ | refine (nthK_iff _ _).2 ⟨_, (by assumption), ?_⟩ | refine ⟨_, ⟨(by omega), (by assumption)⟩, ?_⟩ | refine And.intro (by first | decide | omega) ?_ | fail); conv => whnf) | refine Sem.seqS ?_ | refine Sem.block ?_ | fail)
    refine draw_sound (eff := []) tt_ok (by kernel_rfl) (by kernel_rfl) ?_; conv => whnf
    repeat' (first | ((first | refine BS_t (by assumption) ?_ | refine BS_f (by assumption) ?_ | refine atG (by repeat (first | assumption | exact setG_same _ _ _ | refine Eq.trans (setG_ne _ _ (by first | assumption | exact Ne.symm (by assumption))) ?_)) ?_ | refine (nthK_iff _ _).2 ⟨_, (by assumption), ?_⟩ | refine ⟨_, ⟨(by omega), (by assumption)⟩, ?_⟩ | refine And.intro (by first | decide | omega) ?_ | fail); conv => whnf) | fail)
    refine ⟨_, _, ca, ?_⟩; (conv => whnf); refine And.intro rfl ?_; conv => whnf
    repeat' (first | ((first | refine BS_t (by assumption) ?_ | refine BS_f (by assumption) ?_ | refine atG (by repeat (first | assumption | exact setG_same _ _ _ | refine Eq.trans (setG_ne _ _ (by first | assumption | exact Ne.symm (by assumption))) ?_)) ?_ | refine (nthK_iff _ _).2 ⟨_, (by assumption), ?_⟩ | refine ⟨_, ⟨(by omega), (by assumption)⟩, ?_⟩ | refine And.intro (by first | decide | omega) ?_ | fail); conv => whnf) | fail)
    refine ⟨_, _, hall, ?_⟩; (conv => whnf); refine And.intro rfl ?_; conv => whnf
    repeat' (first | ((first | refine BS_t (by assumption) ?_ | refine BS_f (by assumption) ?_ | refine atG (by repeat (first | assumption | exact setG_same _ _ _ | refine Eq.trans (setG_ne _ _ (by first | assumption | exact Ne.symm (by assumption))) ?_)) ?_ | refine (nthK_iff _ _).2 ⟨_, (by assumption), ?_⟩ | refine ⟨_, ⟨(by omega), (by assumption)⟩, ?_⟩ | refine And.intro (by first | decide | omega) ?_ | fail); conv => whnf) | fail)
    refine ⟨_, _, hint, ?_⟩; (conv => whnf); refine And.intro rfl ?_; conv => whnf
    repeat' (first | ((first | refine BS_t (by assumption) ?_ | refine BS_f (by assumption) ?_ | refine atG (by repeat (first | assumption | exact setG_same _ _ _ | refine Eq.trans (setG_ne _ _ (by first | assumption | exact Ne.symm (by assumption))) ?_)) ?_ | refine (nthK_iff _ _).2 ⟨_, (by assumption), ?_⟩ | refine ⟨_, ⟨(by omega), (by assumption)⟩, ?_⟩ | refine And.intro (by first | decide | omega) ?_ | fail); conv => whnf) | fail)
    repeat' (first | ((first | refine Sem.reg tt_ok ?_ | refine Sem.condS ?_ | refine Sem.regL tt_ok ?_ | refine Sem.skip tt_ok ?_ | refine Sem.exit tt_ok ?_ | refine Sem.ret tt_ok ?_ | refine BS_t (by assumption) ?_ | refine BS_f (by assumption) ?_ | refine atG (by repeat (first | assumption | exact setG_same _ _ _ | refine Eq.trans (setG_ne _ _ (by first | assumption | exact Ne.symm (by assumption))) ?_)) ?_ | refine (nthK_iff _ _).2 ⟨_, (by assumption), ?_⟩ | refine ⟨_, ⟨(by omega), (by assumption)⟩, ?_⟩ | refine And.intro (by first | decide | omega) ?_ | fail); conv => whnf) | refine Sem.seqS ?_ | refine Sem.block ?_ | fail)
    exact ⟨_, fun _ _ h => h, rfl, rfl⟩
end Go.Proofs.Ytpnlhnhjedopgaa
