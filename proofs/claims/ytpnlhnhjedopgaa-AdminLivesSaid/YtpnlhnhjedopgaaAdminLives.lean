/- AdminLives: one lives just if it was created, and not deleted since, and so on: the law hands back true. Conditions: none. -/
import Derived.Test.YtpnlhnhjedopgaaFrame
import Derived.Test.YtpnlhnhjedopgaaAdmL
set_option maxRecDepth 100000
set_option linter.unusedSimpArgs false
namespace Go.Proofs.Ytpnlhnhjedopgaa
open Go Go.RowKit Go.ChangeShapes Go.WideShapes Go.ChangeAt Go.Proofs

structure AL (ol : List Ord) (h : Nat) where
  k : Nat
  hk : k ≤ ol.length
  G : Glob
  mv : AV
  l : TenL
  B : BkG G h mv l
  I : TIn l k
set_option maxHeartbeats 8000000 in
theorem adminLives_ok (ol : List Ord) (hn : ol.length ≤ maxLen) : CallOk Try.prog TT 17 [.slc 26 (ol.map Ord.av)] (fun _ => none) (fun v _ => v = .bool true) := by
  by_cases hlen : 200 < ol.length
  · have c1 : decide ((((ol.map Ord.av).length : Nat) : Int) > 200) = true := by simp; omega
    refine call_sem tt_ok Try.func17 rfl (by kernel_rfl) Try.ntmps17 Try.results17 ?_; conv => whnf
    repeat' (first | ((first | refine Sem.reg tt_ok ?_ | refine Sem.condS ?_ | refine Sem.regL tt_ok ?_ | refine Sem.skip tt_ok ?_ | refine Sem.exit tt_ok ?_ | refine Sem.ret tt_ok ?_ | refine BS_t (by assumption) ?_ | refine BS_f (by assumption) ?_ | refine atG (by repeat (first | assumption | exact setG_same _ _ _ | refine Eq.trans (setG_ne _ _ (by first | assumption | exact Ne.symm (by assumption))) ?_)) ?_ | refine (nthK_iff _ _).2 ⟨_, (by assumption), ?_⟩ | refine ⟨_, ⟨(by omega), (by assumption)⟩, ?_⟩ | refine And.intro (by first | decide | omega) ?_ | fail); conv => whnf) | refine Sem.seqS ?_ | refine Sem.block ?_ | fail)
    refine (aawake_ok _).on ?_; conv => whnf
    repeat' (first | ((first | refine Sem.reg tt_ok ?_ | refine Sem.condS ?_ | refine Sem.regL tt_ok ?_ | refine Sem.skip tt_ok ?_ | refine Sem.exit tt_ok ?_ | refine Sem.ret tt_ok ?_ | refine BS_t (by assumption) ?_ | refine BS_f (by assumption) ?_ | refine atG (by repeat (first | assumption | exact setG_same _ _ _ | refine Eq.trans (setG_ne _ _ (by first | assumption | exact Ne.symm (by assumption))) ?_)) ?_ | refine (nthK_iff _ _).2 ⟨_, (by assumption), ?_⟩ | refine ⟨_, ⟨(by omega), (by assumption)⟩, ?_⟩ | refine And.intro (by first | decide | omega) ?_ | fail); conv => whnf) | refine Sem.seqS ?_ | refine Sem.block ?_ | fail)
    exact ⟨_, fun _ _ h => h, rfl⟩
  · have c1 : decide ((((ol.map Ord.av).length : Nat) : Int) > 200) = false := by simp; omega
    refine call_sem tt_ok Try.func17 rfl (by kernel_rfl) Try.ntmps17 Try.results17 ?_; conv => whnf
    repeat' (first | ((first | refine Sem.reg tt_ok ?_ | refine Sem.condS ?_ | refine Sem.regL tt_ok ?_ | refine Sem.skip tt_ok ?_ | refine Sem.exit tt_ok ?_ | refine Sem.ret tt_ok ?_ | refine BS_t (by assumption) ?_ | refine BS_f (by assumption) ?_ | refine atG (by repeat (first | assumption | exact setG_same _ _ _ | refine Eq.trans (setG_ne _ _ (by first | assumption | exact Ne.symm (by assumption))) ?_)) ?_ | refine (nthK_iff _ _).2 ⟨_, (by assumption), ?_⟩ | refine ⟨_, ⟨(by omega), (by assumption)⟩, ?_⟩ | refine And.intro (by first | decide | omega) ?_ | fail); conv => whnf) | refine Sem.seqS ?_ | refine Sem.block ?_ | fail)
    refine Sem.lend 0 ?_
    conv => whnf
    intro h hh
    conv => whnf
    refine Sem.loop (ι := AL ol h) (fun x => ⟨(.slc 26 (ol.map Ord.av) :: .top :: .bool false :: .lptr 0 0 :: .int .i64 (x.k : Nat) :: .top :: .top :: .top :: .top :: .top :: .top :: .top :: .top :: .top :: .top :: .top :: .top :: .top :: .top :: .top :: .top :: .top :: .top :: .top :: .top :: .top :: .top :: .top :: .top :: .top :: .top :: .top :: .top :: .top :: .top :: .top :: .top :: .top :: .top :: .top :: .top :: .top :: .top :: .top :: .top :: .top :: .top :: .top :: .top :: .top :: .top :: .top :: .top :: .top :: .top :: .top :: .top :: .top :: .top :: .top :: .top :: .top :: .top :: .top :: .top :: .top :: .top :: .top :: .top :: .top :: .top :: .top :: .top :: .top :: .top :: .top :: .top :: .top :: .top :: .top :: .top :: .top :: .top :: .top :: .top :: .top :: .top :: .top :: .top :: .top :: .top :: .top :: .top :: .top :: .top :: .top :: .top :: .top :: .top :: .top :: .top :: .top :: .top :: .top :: .top :: .top :: .top :: .top :: .top :: .top :: .top :: .top :: .top :: .top :: .top :: .top :: .top :: .top :: .top :: .top :: .top :: .top :: .top :: .top :: .top :: .top :: .top :: .top :: .top :: .top :: .top :: .top :: .top :: .top :: .top :: .top :: .top :: .top :: .top :: .top :: .top :: .top :: .top :: .top :: .top :: .top :: .top :: .top :: .top :: .top :: .top :: .top :: .top :: .top :: .top :: .top :: .top :: .top :: .top :: .top :: .top :: .top :: .top :: .top :: .top :: .top :: .top :: .top :: .top :: .top :: .top :: .top :: .top :: .top :: .top :: .top :: .top :: .top :: .top :: .top :: .top :: .top :: .top :: .top :: .top :: .top :: .top :: .top :: .top :: .top :: .top :: .top :: .top :: .top :: .top :: .top :: .top :: .top :: []), [.away h], 1, 0, x.G⟩) (fun x => ol.length - x.k)
      ⟨0, Nat.zero_le _, setG (fun _ => none) h (.cells [.nilm]), .nilm, [], ⟨setG_same _ _ _, .inl ⟨rfl, rfl⟩⟩, ⟨.nil, (fun e he => by cases he), Nat.zero_le _⟩⟩ ?_ (fun x => ?_)
    · refine weak_by [] ?_; (conv => whnf); repeat (first | (refine And.intro rfl ?_; conv => whnf) | fail)
      exact ⟨fun i x hx => hx, rfl, Nat.le_refl _, rfl, rfl⟩
    obtain ⟨k, hk0, G, mv, l, B, I⟩ := x
    repeat' (first | ((first | refine Sem.reg tt_ok ?_ | refine Sem.condS ?_ | refine Sem.regL tt_ok ?_ | refine Sem.skip tt_ok ?_ | refine Sem.exit tt_ok ?_ | refine Sem.ret tt_ok ?_ | refine BS_t (by assumption) ?_ | refine BS_f (by assumption) ?_ | refine atG (by repeat (first | assumption | exact setG_same _ _ _ | refine Eq.trans (setG_ne _ _ (by first | assumption | exact Ne.symm (by assumption))) ?_)) ?_ | refine (nthK_iff _ _).2 ⟨_, (by assumption), ?_⟩ | refine ⟨_, ⟨(by omega), (by assumption)⟩, ?_⟩ | refine And.intro (by first | decide | omega) ?_ | fail); conv => whnf) | refine Sem.seqS ?_ | refine Sem.block ?_ | fail)
    refine BS_intro (fun hk => ?_) (fun hk => ?_) <;> conv => whnf
    · have hks : k < ol.length := by simp at hk; omega
      clear hk
      obtain ⟨o, ho⟩ : ∃ o, ol[k]? = some o := ⟨_, List.getElem?_eq_getElem hks⟩
      have hsm : (ol.map Ord.av)[((k : Nat) : Int).toNat]? = some o.av := by rw [Int.toNat_natCast, List.getElem?_map, ho]; rfl
      have hw : IntKind.i64.wrap ((k : Int) + 1) = ((k + 1 : Nat) : Int) := by unfold maxLen at hn; rw [IntWalk.i64_in _ (by omega)]; omega
      have c200 : ol.length ≤ 200 := by omega
      have hou := fun G => ours_ok o G
      have hdo := ado_ok G h mv l o B
      have cl := fun z => alives_ok G h mv l z B
      have cr := fun z => arests_ok G h mv l z B
      have cc := fun z => aconf_ok G h mv l z B
      have ca := aall_ok G h mv l B (by have := I.ln; omega) I.wf
      unfold Ord.av at hsm hou hdo
      repeat' (first | ((first | refine Sem.reg tt_ok ?_ | refine Sem.condS ?_ | refine Sem.regL tt_ok ?_ | refine Sem.skip tt_ok ?_ | refine Sem.exit tt_ok ?_ | refine Sem.ret tt_ok ?_ | refine BS_t (by assumption) ?_ | refine BS_f (by assumption) ?_ | refine atG (by repeat (first | assumption | exact setG_same _ _ _ | refine Eq.trans (setG_ne _ _ (by first | assumption | exact Ne.symm (by assumption))) ?_)) ?_ | refine (nthK_iff _ _).2 ⟨_, (by assumption), ?_⟩ | refine ⟨_, ⟨(by omega), (by assumption)⟩, ?_⟩ | refine And.intro (by first | decide | omega) ?_ | fail); conv => whnf) | refine Sem.seqS ?_ | refine Sem.block ?_ | fail)
      refine (hou _).on ?_; conv => whnf
      repeat' (first | ((first | refine Sem.reg tt_ok ?_ | refine Sem.condS ?_ | refine Sem.regL tt_ok ?_ | refine Sem.skip tt_ok ?_ | refine Sem.exit tt_ok ?_ | refine Sem.ret tt_ok ?_ | refine BS_t (by assumption) ?_ | refine BS_f (by assumption) ?_ | refine atG (by repeat (first | assumption | exact setG_same _ _ _ | refine Eq.trans (setG_ne _ _ (by first | assumption | exact Ne.symm (by assumption))) ?_)) ?_ | refine (nthK_iff _ _).2 ⟨_, (by assumption), ?_⟩ | refine ⟨_, ⟨(by omega), (by assumption)⟩, ?_⟩ | refine And.intro (by first | decide | omega) ?_ | fail); conv => whnf) | refine Sem.seqS ?_ | refine Sem.block ?_ | fail)
      refine draw_sound (eff := []) tt_ok (by kernel_rfl) (by kernel_rfl) ?_; conv => whnf
      repeat' (first | ((first | refine BS_t (by assumption) ?_ | refine BS_f (by assumption) ?_ | refine atG (by repeat (first | assumption | exact setG_same _ _ _ | refine Eq.trans (setG_ne _ _ (by first | assumption | exact Ne.symm (by assumption))) ?_)) ?_ | refine (nthK_iff _ _).2 ⟨_, (by assumption), ?_⟩ | refine ⟨_, ⟨(by omega), (by assumption)⟩, ?_⟩ | refine And.intro (by first | decide | omega) ?_ | fail); conv => whnf) | fail)
      refine ⟨_, _, (cl _), ?_⟩; (conv => whnf); refine And.intro rfl ?_; conv => whnf
      repeat' (first | ((first | refine BS_t (by assumption) ?_ | refine BS_f (by assumption) ?_ | refine atG (by repeat (first | assumption | exact setG_same _ _ _ | refine Eq.trans (setG_ne _ _ (by first | assumption | exact Ne.symm (by assumption))) ?_)) ?_ | refine (nthK_iff _ _).2 ⟨_, (by assumption), ?_⟩ | refine ⟨_, ⟨(by omega), (by assumption)⟩, ?_⟩ | refine And.intro (by first | decide | omega) ?_ | fail); conv => whnf) | fail)
      refine ⟨_, _, (cr _), ?_⟩; (conv => whnf); refine And.intro rfl ?_; conv => whnf
      repeat' (first | ((first | refine BS_t (by assumption) ?_ | refine BS_f (by assumption) ?_ | refine atG (by repeat (first | assumption | exact setG_same _ _ _ | refine Eq.trans (setG_ne _ _ (by first | assumption | exact Ne.symm (by assumption))) ?_)) ?_ | refine (nthK_iff _ _).2 ⟨_, (by assumption), ?_⟩ | refine ⟨_, ⟨(by omega), (by assumption)⟩, ?_⟩ | refine And.intro (by first | decide | omega) ?_ | fail); conv => whnf) | fail)
      refine ⟨_, _, (cc _), ?_⟩; (conv => whnf); refine And.intro rfl ?_; conv => whnf
      repeat' (first | ((first | refine BS_t (by assumption) ?_ | refine BS_f (by assumption) ?_ | refine atG (by repeat (first | assumption | exact setG_same _ _ _ | refine Eq.trans (setG_ne _ _ (by first | assumption | exact Ne.symm (by assumption))) ?_)) ?_ | refine (nthK_iff _ _).2 ⟨_, (by assumption), ?_⟩ | refine ⟨_, ⟨(by omega), (by assumption)⟩, ?_⟩ | refine And.intro (by first | decide | omega) ?_ | fail); conv => whnf) | fail)
      repeat (refine And.intro (by conv => whnf) ?_; conv => whnf)
      repeat' (first | ((first | refine Sem.reg tt_ok ?_ | refine Sem.condS ?_ | refine Sem.regL tt_ok ?_ | refine Sem.skip tt_ok ?_ | refine Sem.exit tt_ok ?_ | refine Sem.ret tt_ok ?_ | refine BS_t (by assumption) ?_ | refine BS_f (by assumption) ?_ | refine atG (by repeat (first | assumption | exact setG_same _ _ _ | refine Eq.trans (setG_ne _ _ (by first | assumption | exact Ne.symm (by assumption))) ?_)) ?_ | refine (nthK_iff _ _).2 ⟨_, (by assumption), ?_⟩ | refine ⟨_, ⟨(by omega), (by assumption)⟩, ?_⟩ | refine And.intro (by first | decide | omega) ?_ | fail); conv => whnf) | refine Sem.seqS ?_ | refine Sem.block ?_ | fail)
      refine ca.on ?_; conv => whnf
      repeat' (first | ((first | refine Sem.reg tt_ok ?_ | refine Sem.condS ?_ | refine Sem.regL tt_ok ?_ | refine Sem.skip tt_ok ?_ | refine Sem.exit tt_ok ?_ | refine Sem.ret tt_ok ?_ | refine BS_t (by assumption) ?_ | refine BS_f (by assumption) ?_ | refine atG (by repeat (first | assumption | exact setG_same _ _ _ | refine Eq.trans (setG_ne _ _ (by first | assumption | exact Ne.symm (by assumption))) ?_)) ?_ | refine (nthK_iff _ _).2 ⟨_, (by assumption), ?_⟩ | refine ⟨_, ⟨(by omega), (by assumption)⟩, ?_⟩ | refine And.intro (by first | decide | omega) ?_ | fail); conv => whnf) | refine Sem.seqS ?_ | refine Sem.block ?_ | fail)
      refine (cl _).on ?_; conv => whnf
      repeat' (first | ((first | refine Sem.reg tt_ok ?_ | refine Sem.condS ?_ | refine Sem.regL tt_ok ?_ | refine Sem.skip tt_ok ?_ | refine Sem.exit tt_ok ?_ | refine Sem.ret tt_ok ?_ | refine BS_t (by assumption) ?_ | refine BS_f (by assumption) ?_ | refine atG (by repeat (first | assumption | exact setG_same _ _ _ | refine Eq.trans (setG_ne _ _ (by first | assumption | exact Ne.symm (by assumption))) ?_)) ?_ | refine (nthK_iff _ _).2 ⟨_, (by assumption), ?_⟩ | refine ⟨_, ⟨(by omega), (by assumption)⟩, ?_⟩ | refine And.intro (by first | decide | omega) ?_ | fail); conv => whnf) | refine Sem.seqS ?_ | refine Sem.block ?_ | fail)
      refine (cc _).on ?_; conv => whnf
      repeat' (first | ((first | refine Sem.reg tt_ok ?_ | refine Sem.condS ?_ | refine Sem.regL tt_ok ?_ | refine Sem.skip tt_ok ?_ | refine Sem.exit tt_ok ?_ | refine Sem.ret tt_ok ?_ | refine BS_t (by assumption) ?_ | refine BS_f (by assumption) ?_ | refine atG (by repeat (first | assumption | exact setG_same _ _ _ | refine Eq.trans (setG_ne _ _ (by first | assumption | exact Ne.symm (by assumption))) ?_)) ?_ | refine (nthK_iff _ _).2 ⟨_, (by assumption), ?_⟩ | refine ⟨_, ⟨(by omega), (by assumption)⟩, ?_⟩ | refine And.intro (by first | decide | omega) ?_ | fail); conv => whnf) | refine Sem.seqS ?_ | refine Sem.block ?_ | fail)
      refine (hdo).mono fun v G1 hv => ?_; obtain ⟨rfl, mv1, B1, K1⟩ := hv; conv => whnf
      have cl1 := fun z => alives_ok _ h mv1 _ z B1
      have cr1 := fun z => arests_ok _ h mv1 _ z B1
      have cc1 := fun z => aconf_ok _ h mv1 _ z B1
      repeat' (first | ((first | refine Sem.reg tt_ok ?_ | refine Sem.condS ?_ | refine Sem.regL tt_ok ?_ | refine Sem.skip tt_ok ?_ | refine Sem.exit tt_ok ?_ | refine Sem.ret tt_ok ?_ | refine BS_t (by assumption) ?_ | refine BS_f (by assumption) ?_ | refine atG (by repeat (first | assumption | exact setG_same _ _ _ | refine Eq.trans (setG_ne _ _ (by first | assumption | exact Ne.symm (by assumption))) ?_)) ?_ | refine (nthK_iff _ _).2 ⟨_, (by assumption), ?_⟩ | refine ⟨_, ⟨(by omega), (by assumption)⟩, ?_⟩ | refine And.intro (by first | decide | omega) ?_ | fail); conv => whnf) | refine Sem.seqS ?_ | refine Sem.block ?_ | fail)
      refine draw_sound (eff := []) tt_ok (by kernel_rfl) (by kernel_rfl) ?_; conv => whnf
      repeat' (first | ((first | refine BS_t (by assumption) ?_ | refine BS_f (by assumption) ?_ | refine atG (by repeat (first | assumption | exact setG_same _ _ _ | refine Eq.trans (setG_ne _ _ (by first | assumption | exact Ne.symm (by assumption))) ?_)) ?_ | refine (nthK_iff _ _).2 ⟨_, (by assumption), ?_⟩ | refine ⟨_, ⟨(by omega), (by assumption)⟩, ?_⟩ | refine And.intro (by first | decide | omega) ?_ | fail); conv => whnf) | fail)
      refine ⟨_, _, (cl1 _), ?_⟩; (conv => whnf); refine And.intro rfl ?_; conv => whnf
      repeat' (first | ((first | refine BS_t (by assumption) ?_ | refine BS_f (by assumption) ?_ | refine atG (by repeat (first | assumption | exact setG_same _ _ _ | refine Eq.trans (setG_ne _ _ (by first | assumption | exact Ne.symm (by assumption))) ?_)) ?_ | refine (nthK_iff _ _).2 ⟨_, (by assumption), ?_⟩ | refine ⟨_, ⟨(by omega), (by assumption)⟩, ?_⟩ | refine And.intro (by first | decide | omega) ?_ | fail); conv => whnf) | fail)
      refine ⟨_, _, (cr1 _), ?_⟩; (conv => whnf); refine And.intro rfl ?_; conv => whnf
      repeat' (first | ((first | refine BS_t (by assumption) ?_ | refine BS_f (by assumption) ?_ | refine atG (by repeat (first | assumption | exact setG_same _ _ _ | refine Eq.trans (setG_ne _ _ (by first | assumption | exact Ne.symm (by assumption))) ?_)) ?_ | refine (nthK_iff _ _).2 ⟨_, (by assumption), ?_⟩ | refine ⟨_, ⟨(by omega), (by assumption)⟩, ?_⟩ | refine And.intro (by first | decide | omega) ?_ | fail); conv => whnf) | fail)
      refine ⟨_, _, (cc1 _), ?_⟩; (conv => whnf); refine And.intro rfl ?_; conv => whnf
      repeat' (first | ((first | refine BS_t (by assumption) ?_ | refine BS_f (by assumption) ?_ | refine atG (by repeat (first | assumption | exact setG_same _ _ _ | refine Eq.trans (setG_ne _ _ (by first | assumption | exact Ne.symm (by assumption))) ?_)) ?_ | refine (nthK_iff _ _).2 ⟨_, (by assumption), ?_⟩ | refine ⟨_, ⟨(by omega), (by assumption)⟩, ?_⟩ | refine And.intro (by first | decide | omega) ?_ | fail); conv => whnf) | fail)
      repeat (refine And.intro (by conv => whnf) ?_; conv => whnf)
      repeat' (first | ((first | refine Sem.reg tt_ok ?_ | refine Sem.condS ?_ | refine Sem.regL tt_ok ?_ | refine Sem.skip tt_ok ?_ | refine Sem.exit tt_ok ?_ | refine Sem.ret tt_ok ?_ | refine BS_t (by assumption) ?_ | refine BS_f (by assumption) ?_ | refine atG (by repeat (first | assumption | exact setG_same _ _ _ | refine Eq.trans (setG_ne _ _ (by first | assumption | exact Ne.symm (by assumption))) ?_)) ?_ | refine (nthK_iff _ _).2 ⟨_, (by assumption), ?_⟩ | refine ⟨_, ⟨(by omega), (by assumption)⟩, ?_⟩ | refine And.intro (by first | decide | omega) ?_ | fail); conv => whnf) | refine Sem.seqS ?_ | refine Sem.block ?_ | fail)
      refine draw_sound (eff := []) tt_ok (by kernel_rfl) (by kernel_rfl) ?_; conv => whnf
      repeat' (first | ((first | refine BS_t (by assumption) ?_ | refine BS_f (by assumption) ?_ | refine atG (by repeat (first | assumption | exact setG_same _ _ _ | refine Eq.trans (setG_ne _ _ (by first | assumption | exact Ne.symm (by assumption))) ?_)) ?_ | refine (nthK_iff _ _).2 ⟨_, (by assumption), ?_⟩ | refine ⟨_, ⟨(by omega), (by assumption)⟩, ?_⟩ | refine And.intro (by first | decide | omega) ?_ | fail); conv => whnf) | fail)
      have hA : ((IntKind.i64.wrap (Int.tmod o.owner 8 + 1) != o.owner) = false) ∨ ((IntKind.i64.wrap (Int.tmod o.owner 8 + 1) != o.owner) = true ∧ (livB (doB l o) (IntKind.i64.wrap (Int.tmod o.owner 8 + 1)) != livB l (IntKind.i64.wrap (Int.tmod o.owner 8 + 1))) = false ∧ (!(((tenOf (doB l o) (IntKind.i64.wrap (Int.tmod o.owner 8 + 1))).c.n0 == (tenOf l (IntKind.i64.wrap (Int.tmod o.owner 8 + 1))).c.n0) && (((tenOf (doB l o) (IntKind.i64.wrap (Int.tmod o.owner 8 + 1))).c.n1 == (tenOf l (IntKind.i64.wrap (Int.tmod o.owner 8 + 1))).c.n1) && (((tenOf (doB l o) (IntKind.i64.wrap (Int.tmod o.owner 8 + 1))).c.n2 == (tenOf l (IntKind.i64.wrap (Int.tmod o.owner 8 + 1))).c.n2) && (((tenOf (doB l o) (IntKind.i64.wrap (Int.tmod o.owner 8 + 1))).c.n3 == (tenOf l (IntKind.i64.wrap (Int.tmod o.owner 8 + 1))).c.n3) && (((tenOf (doB l o) (IntKind.i64.wrap (Int.tmod o.owner 8 + 1))).c.n4 == (tenOf l (IntKind.i64.wrap (Int.tmod o.owner 8 + 1))).c.n4) && (((tenOf (doB l o) (IntKind.i64.wrap (Int.tmod o.owner 8 + 1))).c.n5 == (tenOf l (IntKind.i64.wrap (Int.tmod o.owner 8 + 1))).c.n5) && (((tenOf (doB l o) (IntKind.i64.wrap (Int.tmod o.owner 8 + 1))).c.n6 == (tenOf l (IntKind.i64.wrap (Int.tmod o.owner 8 + 1))).c.n6) && (((tenOf (doB l o) (IntKind.i64.wrap (Int.tmod o.owner 8 + 1))).c.n7 == (tenOf l (IntKind.i64.wrap (Int.tmod o.owner 8 + 1))).c.n7) && (((tenOf (doB l o) (IntKind.i64.wrap (Int.tmod o.owner 8 + 1))).c.n8 == (tenOf l (IntKind.i64.wrap (Int.tmod o.owner 8 + 1))).c.n8) && true)))))))))) = false) := by
        by_cases hoo : IntKind.i64.wrap (Int.tmod o.owner 8 + 1) = o.owner
        · left; simp [hoo]
        · right
          refine ⟨by simp [hoo], ?_, ?_⟩
          · unfold livB; rw [do_other hoo]; simp
          · unfold tenOf; rw [do_other hoo]; simp
      have hC : ((!(livB (doB l o) o.owner)) = false) ∨ ((!(livB (doB l o) o.owner)) = true ∧ (tenOf (doB l o) o.owner).r = false ∧ (!(((tenOf (doB l o) o.owner).c.n0 == (0 : Int)) && (((tenOf (doB l o) o.owner).c.n1 == (0 : Int)) && (((tenOf (doB l o) o.owner).c.n2 == (0 : Int)) && (((tenOf (doB l o) o.owner).c.n3 == (0 : Int)) && (((tenOf (doB l o) o.owner).c.n4 == (0 : Int)) && (((tenOf (doB l o) o.owner).c.n5 == (0 : Int)) && (((tenOf (doB l o) o.owner).c.n6 == (0 : Int)) && (((tenOf (doB l o) o.owner).c.n7 == (0 : Int)) && (((tenOf (doB l o) o.owner).c.n8 == (0 : Int)) && true)))))))))) = false) := by
        cases hl : livB (doB l o) o.owner with
        | true => left; rfl
        | false =>
          right
          have hn : zget (doB l o) o.owner = none := by simpa [livB] using hl
          refine ⟨rfl, ?_, ?_⟩
          · unfold tenOf; rw [hn]; rfl
          · unfold tenOf; rw [hn]; rfl
      rcases hA with a1 | ⟨a1, a2, a3⟩ <;> rcases hC with b1 | ⟨b1, b2, b3⟩
      all_goals
        repeat' (first | ((first | refine BS_t (by assumption) ?_ | refine BS_f (by assumption) ?_ | refine atG (by repeat (first | assumption | exact setG_same _ _ _ | refine Eq.trans (setG_ne _ _ (by first | assumption | exact Ne.symm (by assumption))) ?_)) ?_ | refine (nthK_iff _ _).2 ⟨_, (by assumption), ?_⟩ | refine ⟨_, ⟨(by omega), (by assumption)⟩, ?_⟩ | refine And.intro (by first | decide | omega) ?_ | fail); conv => whnf) | fail)
        try (refine ⟨_, _, (cl1 _), ?_⟩; (conv => whnf); refine And.intro rfl ?_; conv => whnf)
        repeat' (first | ((first | refine BS_t (by assumption) ?_ | refine BS_f (by assumption) ?_ | refine atG (by repeat (first | assumption | exact setG_same _ _ _ | refine Eq.trans (setG_ne _ _ (by first | assumption | exact Ne.symm (by assumption))) ?_)) ?_ | refine (nthK_iff _ _).2 ⟨_, (by assumption), ?_⟩ | refine ⟨_, ⟨(by omega), (by assumption)⟩, ?_⟩ | refine And.intro (by first | decide | omega) ?_ | fail); conv => whnf) | fail)
        try (refine ⟨_, _, (cc1 _), ?_⟩; (conv => whnf); refine And.intro rfl ?_; conv => whnf)
        repeat' (first | ((first | refine BS_t (by assumption) ?_ | refine BS_f (by assumption) ?_ | refine atG (by repeat (first | assumption | exact setG_same _ _ _ | refine Eq.trans (setG_ne _ _ (by first | assumption | exact Ne.symm (by assumption))) ?_)) ?_ | refine (nthK_iff _ _).2 ⟨_, (by assumption), ?_⟩ | refine ⟨_, ⟨(by omega), (by assumption)⟩, ?_⟩ | refine And.intro (by first | decide | omega) ?_ | fail); conv => whnf) | fail)
        repeat' (first | ((first | refine Sem.reg tt_ok ?_ | refine Sem.condS ?_ | refine Sem.regL tt_ok ?_ | refine Sem.skip tt_ok ?_ | refine Sem.exit tt_ok ?_ | refine Sem.ret tt_ok ?_ | refine BS_t (by assumption) ?_ | refine BS_f (by assumption) ?_ | refine atG (by repeat (first | assumption | exact setG_same _ _ _ | refine Eq.trans (setG_ne _ _ (by first | assumption | exact Ne.symm (by assumption))) ?_)) ?_ | refine (nthK_iff _ _).2 ⟨_, (by assumption), ?_⟩ | refine ⟨_, ⟨(by omega), (by assumption)⟩, ?_⟩ | refine And.intro (by first | decide | omega) ?_ | fail); conv => whnf) | refine Sem.seqS ?_ | refine Sem.block ?_ | fail)
        by_cases hz : chkB l o = 0
        · have g1 : (chkB l o != 0) = false := by simp [hz]
          cases doW I hz with
          | c hop z1 z2 z3 =>
            have v0 : livB l o.owner = false := by unfold livB; rw [z1]; rfl
            have v1 : livB (doB l o) o.owner = true := by unfold livB; rw [z2]; rfl
            have w0 : (!(livB l o.owner)) = true := by rw [v0]; rfl
            have w1 : (!(livB (doB l o) o.owner)) = false := by rw [v1]; rfl
            first
              | exact absurd b1 (by rw [w1]; decide)
              | skip
            all_goals
              have p1 : (o.op == 1) = true := by simp [hop]
              have p2 : (o.op == 2) = false := by simp [hop]
              have p3 : (o.op == 3) = false := by simp [hop]
              have p4 : (o.op == 4) = false := by simp [hop]
              have p6 : (o.op == 6) = false := by simp [hop]
              have q6 : (o.op != 6) = true := by simp [hop]
              have u1 : tenOf (doB l o) o.owner = ⟨o.c, false⟩ := by unfold tenOf; rw [z2]; rfl
              have x1 : (tenOf (doB l o) o.owner).r = false := by rw [u1]
              have x2 : (!(((tenOf (doB l o) o.owner).c.n0 == o.c.n0) && (((tenOf (doB l o) o.owner).c.n1 == o.c.n1) && (((tenOf (doB l o) o.owner).c.n2 == o.c.n2) && (((tenOf (doB l o) o.owner).c.n3 == o.c.n3) && (((tenOf (doB l o) o.owner).c.n4 == o.c.n4) && (((tenOf (doB l o) o.owner).c.n5 == o.c.n5) && (((tenOf (doB l o) o.owner).c.n6 == o.c.n6) && (((tenOf (doB l o) o.owner).c.n7 == o.c.n7) && (((tenOf (doB l o) o.owner).c.n8 == o.c.n8) && true)))))))))) = false := by rw [u1]; simp
              have x3 : decide ((tenOf (doB l o) o.owner).c.n0 < 1040) = false := by rw [u1]; simp; omega
              repeat' (first | ((first | refine Sem.reg tt_ok ?_ | refine Sem.condS ?_ | refine Sem.regL tt_ok ?_ | refine Sem.skip tt_ok ?_ | refine Sem.exit tt_ok ?_ | refine Sem.ret tt_ok ?_ | refine BS_t (by assumption) ?_ | refine BS_f (by assumption) ?_ | refine atG (by repeat (first | assumption | exact setG_same _ _ _ | refine Eq.trans (setG_ne _ _ (by first | assumption | exact Ne.symm (by assumption))) ?_)) ?_ | refine (nthK_iff _ _).2 ⟨_, (by assumption), ?_⟩ | refine ⟨_, ⟨(by omega), (by assumption)⟩, ?_⟩ | refine And.intro (by first | decide | omega) ?_ | fail); conv => whnf) | refine Sem.seqS ?_ | refine Sem.block ?_ | fail)
              refine ⟨⟨k + 1, by omega, _, mv1, _, B1, I.step o⟩, by show ol.length - (k + 1) < ol.length - k; omega, ?_⟩
              refine weak_by [] ?_; (conv => whnf); repeat (first | (refine And.intro rfl ?_; conv => whnf) | fail)
              refine And.intro hw ?_
              (conv => whnf); repeat (first | (refine And.intro rfl ?_; conv => whnf) | fail)
              exact ⟨fun i y hy => hy, rfl, (by first | exact Nat.le_refl _ | decide | omega), rfl, rfl⟩
          | d t hop z1 z2 =>
            have v0 : livB l o.owner = true := by unfold livB; rw [z1]; rfl
            have v1 : livB (doB l o) o.owner = false := by unfold livB; rw [z2]; rfl
            have w0 : (!(livB l o.owner)) = false := by rw [v0]; rfl
            have w1 : (!(livB (doB l o) o.owner)) = true := by rw [v1]; rfl
            first
              | exact absurd b1 (by rw [w1]; decide)
              | skip
            all_goals
              have p1 : (o.op == 1) = false := by simp [hop]
              have p2 : (o.op == 2) = false := by simp [hop]
              have p3 : (o.op == 3) = false := by simp [hop]
              have p4 : (o.op == 4) = true := by simp [hop]
              have p6 : (o.op == 6) = false := by simp [hop]
              have q6 : (o.op != 6) = true := by simp [hop]
              repeat' (first | ((first | refine Sem.reg tt_ok ?_ | refine Sem.condS ?_ | refine Sem.regL tt_ok ?_ | refine Sem.skip tt_ok ?_ | refine Sem.exit tt_ok ?_ | refine Sem.ret tt_ok ?_ | refine BS_t (by assumption) ?_ | refine BS_f (by assumption) ?_ | refine atG (by repeat (first | assumption | exact setG_same _ _ _ | refine Eq.trans (setG_ne _ _ (by first | assumption | exact Ne.symm (by assumption))) ?_)) ?_ | refine (nthK_iff _ _).2 ⟨_, (by assumption), ?_⟩ | refine ⟨_, ⟨(by omega), (by assumption)⟩, ?_⟩ | refine And.intro (by first | decide | omega) ?_ | fail); conv => whnf) | refine Sem.seqS ?_ | refine Sem.block ?_ | fail)
              refine ⟨⟨k + 1, by omega, _, mv1, _, B1, I.step o⟩, by show ol.length - (k + 1) < ol.length - k; omega, ?_⟩
              refine weak_by [] ?_; (conv => whnf); repeat (first | (refine And.intro rfl ?_; conv => whnf) | fail)
              refine And.intro hw ?_
              (conv => whnf); repeat (first | (refine And.intro rfl ?_; conv => whnf) | fail)
              exact ⟨fun i y hy => hy, rfl, (by first | exact Nat.le_refl _ | decide | omega), rfl, rfl⟩
          | s t hop z1 z2 z3 =>
            have v0 : livB l o.owner = true := by unfold livB; rw [z1]; rfl
            have v1 : livB (doB l o) o.owner = true := by unfold livB; rw [z2]; rfl
            have w0 : (!(livB l o.owner)) = false := by rw [v0]; rfl
            have w1 : (!(livB (doB l o) o.owner)) = false := by rw [v1]; rfl
            first
              | exact absurd b1 (by rw [w1]; decide)
              | skip
            all_goals
              have p1 : (o.op == 1) = false := by simp [hop]
              have p2 : (o.op == 2) = true := by simp [hop]
              have p3 : (o.op == 3) = false := by simp [hop]
              have p4 : (o.op == 4) = false := by simp [hop]
              have p6 : (o.op == 6) = false := by simp [hop]
              have q6 : (o.op != 6) = true := by simp [hop]
              have u0 : tenOf l o.owner = t := by unfold tenOf; rw [z1]; rfl
              have u1 : tenOf (doB l o) o.owner = ⟨t.c, true⟩ := by unfold tenOf; rw [z2]; rfl
              have x1 : (!((!((tenOf (doB l o) o.owner).r == (tenOf l o.owner).r)) == true)) = false := by rw [u0, u1]; simp [z3]
              have x2 : (!(((tenOf (doB l o) o.owner).c.n0 == (tenOf l o.owner).c.n0) && (((tenOf (doB l o) o.owner).c.n1 == (tenOf l o.owner).c.n1) && (((tenOf (doB l o) o.owner).c.n2 == (tenOf l o.owner).c.n2) && (((tenOf (doB l o) o.owner).c.n3 == (tenOf l o.owner).c.n3) && (((tenOf (doB l o) o.owner).c.n4 == (tenOf l o.owner).c.n4) && (((tenOf (doB l o) o.owner).c.n5 == (tenOf l o.owner).c.n5) && (((tenOf (doB l o) o.owner).c.n6 == (tenOf l o.owner).c.n6) && (((tenOf (doB l o) o.owner).c.n7 == (tenOf l o.owner).c.n7) && (((tenOf (doB l o) o.owner).c.n8 == (tenOf l o.owner).c.n8) && true)))))))))) = false := by rw [u0, u1]; simp
              repeat' (first | ((first | refine Sem.reg tt_ok ?_ | refine Sem.condS ?_ | refine Sem.regL tt_ok ?_ | refine Sem.skip tt_ok ?_ | refine Sem.exit tt_ok ?_ | refine Sem.ret tt_ok ?_ | refine BS_t (by assumption) ?_ | refine BS_f (by assumption) ?_ | refine atG (by repeat (first | assumption | exact setG_same _ _ _ | refine Eq.trans (setG_ne _ _ (by first | assumption | exact Ne.symm (by assumption))) ?_)) ?_ | refine (nthK_iff _ _).2 ⟨_, (by assumption), ?_⟩ | refine ⟨_, ⟨(by omega), (by assumption)⟩, ?_⟩ | refine And.intro (by first | decide | omega) ?_ | fail); conv => whnf) | refine Sem.seqS ?_ | refine Sem.block ?_ | fail)
              refine ⟨⟨k + 1, by omega, _, mv1, _, B1, I.step o⟩, by show ol.length - (k + 1) < ol.length - k; omega, ?_⟩
              refine weak_by [] ?_; (conv => whnf); repeat (first | (refine And.intro rfl ?_; conv => whnf) | fail)
              refine And.intro hw ?_
              (conv => whnf); repeat (first | (refine And.intro rfl ?_; conv => whnf) | fail)
              exact ⟨fun i y hy => hy, rfl, (by first | exact Nat.le_refl _ | decide | omega), rfl, rfl⟩
          | r t hop z1 z2 z3 =>
            have v0 : livB l o.owner = true := by unfold livB; rw [z1]; rfl
            have v1 : livB (doB l o) o.owner = true := by unfold livB; rw [z2]; rfl
            have w0 : (!(livB l o.owner)) = false := by rw [v0]; rfl
            have w1 : (!(livB (doB l o) o.owner)) = false := by rw [v1]; rfl
            first
              | exact absurd b1 (by rw [w1]; decide)
              | skip
            all_goals
              have p1 : (o.op == 1) = false := by simp [hop]
              have p2 : (o.op == 2) = false := by simp [hop]
              have p3 : (o.op == 3) = true := by simp [hop]
              have p4 : (o.op == 4) = false := by simp [hop]
              have p6 : (o.op == 6) = false := by simp [hop]
              have q6 : (o.op != 6) = true := by simp [hop]
              have u0 : tenOf l o.owner = t := by unfold tenOf; rw [z1]; rfl
              have u1 : tenOf (doB l o) o.owner = ⟨t.c, false⟩ := by unfold tenOf; rw [z2]; rfl
              have x1 : (((tenOf (doB l o) o.owner).r != (tenOf l o.owner).r) != (o.op == 3)) = false := by rw [u0, u1]; simp [hop, z3]
              have x2 : (!(((tenOf (doB l o) o.owner).c.n0 == (tenOf l o.owner).c.n0) && (((tenOf (doB l o) o.owner).c.n1 == (tenOf l o.owner).c.n1) && (((tenOf (doB l o) o.owner).c.n2 == (tenOf l o.owner).c.n2) && (((tenOf (doB l o) o.owner).c.n3 == (tenOf l o.owner).c.n3) && (((tenOf (doB l o) o.owner).c.n4 == (tenOf l o.owner).c.n4) && (((tenOf (doB l o) o.owner).c.n5 == (tenOf l o.owner).c.n5) && (((tenOf (doB l o) o.owner).c.n6 == (tenOf l o.owner).c.n6) && (((tenOf (doB l o) o.owner).c.n7 == (tenOf l o.owner).c.n7) && (((tenOf (doB l o) o.owner).c.n8 == (tenOf l o.owner).c.n8) && true)))))))))) = false := by rw [u0, u1]; simp
              repeat' (first | ((first | refine Sem.reg tt_ok ?_ | refine Sem.condS ?_ | refine Sem.regL tt_ok ?_ | refine Sem.skip tt_ok ?_ | refine Sem.exit tt_ok ?_ | refine Sem.ret tt_ok ?_ | refine BS_t (by assumption) ?_ | refine BS_f (by assumption) ?_ | refine atG (by repeat (first | assumption | exact setG_same _ _ _ | refine Eq.trans (setG_ne _ _ (by first | assumption | exact Ne.symm (by assumption))) ?_)) ?_ | refine (nthK_iff _ _).2 ⟨_, (by assumption), ?_⟩ | refine ⟨_, ⟨(by omega), (by assumption)⟩, ?_⟩ | refine And.intro (by first | decide | omega) ?_ | fail); conv => whnf) | refine Sem.seqS ?_ | refine Sem.block ?_ | fail)
              refine ⟨⟨k + 1, by omega, _, mv1, _, B1, I.step o⟩, by show ol.length - (k + 1) < ol.length - k; omega, ?_⟩
              refine weak_by [] ?_; (conv => whnf); repeat (first | (refine And.intro rfl ?_; conv => whnf) | fail)
              refine And.intro hw ?_
              (conv => whnf); repeat (first | (refine And.intro rfl ?_; conv => whnf) | fail)
              exact ⟨fun i y hy => hy, rfl, (by first | exact Nat.le_refl _ | decide | omega), rfl, rfl⟩
          | k t hop z1 z2 =>
            have v0 : livB l o.owner = true := by unfold livB; rw [z1]; rfl
            have v1 : livB (doB l o) o.owner = true := by unfold livB; rw [z2]; rfl
            have w0 : (!(livB l o.owner)) = false := by rw [v0]; rfl
            have w1 : (!(livB (doB l o) o.owner)) = false := by rw [v1]; rfl
            first
              | exact absurd b1 (by rw [w1]; decide)
              | skip
            all_goals
              have p1 : (o.op == 1) = false := by simp [hop]
              have p2 : (o.op == 2) = false := by simp [hop]
              have p3 : (o.op == 3) = false := by simp [hop]
              have p4 : (o.op == 4) = false := by simp [hop]
              have p6 : (o.op == 6) = false := by simp [hop]
              have q6 : (o.op != 6) = true := by simp [hop]
              have u0 : tenOf l o.owner = t := by unfold tenOf; rw [z1]; rfl
              have u1 : tenOf (doB l o) o.owner = t := by unfold tenOf; rw [z2]; rfl
              have x1 : (((tenOf (doB l o) o.owner).r != (tenOf l o.owner).r) != (o.op == 3)) = false := by rw [u0, u1]; simp [hop]
              have x2 : (!(((tenOf (doB l o) o.owner).c.n0 == (tenOf l o.owner).c.n0) && (((tenOf (doB l o) o.owner).c.n1 == (tenOf l o.owner).c.n1) && (((tenOf (doB l o) o.owner).c.n2 == (tenOf l o.owner).c.n2) && (((tenOf (doB l o) o.owner).c.n3 == (tenOf l o.owner).c.n3) && (((tenOf (doB l o) o.owner).c.n4 == (tenOf l o.owner).c.n4) && (((tenOf (doB l o) o.owner).c.n5 == (tenOf l o.owner).c.n5) && (((tenOf (doB l o) o.owner).c.n6 == (tenOf l o.owner).c.n6) && (((tenOf (doB l o) o.owner).c.n7 == (tenOf l o.owner).c.n7) && (((tenOf (doB l o) o.owner).c.n8 == (tenOf l o.owner).c.n8) && true)))))))))) = false := by rw [u0, u1]; simp
              repeat' (first | ((first | refine Sem.reg tt_ok ?_ | refine Sem.condS ?_ | refine Sem.regL tt_ok ?_ | refine Sem.skip tt_ok ?_ | refine Sem.exit tt_ok ?_ | refine Sem.ret tt_ok ?_ | refine BS_t (by assumption) ?_ | refine BS_f (by assumption) ?_ | refine atG (by repeat (first | assumption | exact setG_same _ _ _ | refine Eq.trans (setG_ne _ _ (by first | assumption | exact Ne.symm (by assumption))) ?_)) ?_ | refine (nthK_iff _ _).2 ⟨_, (by assumption), ?_⟩ | refine ⟨_, ⟨(by omega), (by assumption)⟩, ?_⟩ | refine And.intro (by first | decide | omega) ?_ | fail); conv => whnf) | refine Sem.seqS ?_ | refine Sem.block ?_ | fail)
              refine ⟨⟨k + 1, by omega, _, mv1, _, B1, I.step o⟩, by show ol.length - (k + 1) < ol.length - k; omega, ?_⟩
              refine weak_by [] ?_; (conv => whnf); repeat (first | (refine And.intro rfl ?_; conv => whnf) | fail)
              refine And.intro hw ?_
              (conv => whnf); repeat (first | (refine And.intro rfl ?_; conv => whnf) | fail)
              exact ⟨fun i y hy => hy, rfl, (by first | exact Nat.le_refl _ | decide | omega), rfl, rfl⟩
          | q t hop z1 z2 =>
            have v0 : livB l o.owner = true := by unfold livB; rw [z1]; rfl
            have v1 : livB (doB l o) o.owner = true := by unfold livB; rw [z2]; rfl
            have w0 : (!(livB l o.owner)) = false := by rw [v0]; rfl
            have w1 : (!(livB (doB l o) o.owner)) = false := by rw [v1]; rfl
            first
              | exact absurd b1 (by rw [w1]; decide)
              | skip
            all_goals
              have p1 : (o.op == 1) = false := by simp [hop]
              have p2 : (o.op == 2) = false := by simp [hop]
              have p3 : (o.op == 3) = false := by simp [hop]
              have p4 : (o.op == 4) = false := by simp [hop]
              have p6 : (o.op == 6) = true := by simp [hop]
              have q6 : (o.op != 6) = false := by simp [hop]
              have u0 : tenOf l o.owner = t := by unfold tenOf; rw [z1]; rfl
              have u1 : tenOf (doB l o) o.owner = ⟨o.c, t.r⟩ := by unfold tenOf; rw [z2]; rfl
              have x1 : (((tenOf (doB l o) o.owner).r != (tenOf l o.owner).r) != (o.op == 3)) = false := by rw [u0, u1]; simp [hop]
              have x2 : (!(((tenOf (doB l o) o.owner).c.n0 == o.c.n0) && (((tenOf (doB l o) o.owner).c.n1 == o.c.n1) && (((tenOf (doB l o) o.owner).c.n2 == o.c.n2) && (((tenOf (doB l o) o.owner).c.n3 == o.c.n3) && (((tenOf (doB l o) o.owner).c.n4 == o.c.n4) && (((tenOf (doB l o) o.owner).c.n5 == o.c.n5) && (((tenOf (doB l o) o.owner).c.n6 == o.c.n6) && (((tenOf (doB l o) o.owner).c.n7 == o.c.n7) && (((tenOf (doB l o) o.owner).c.n8 == o.c.n8) && true)))))))))) = false := by rw [u1]; simp
              repeat' (first | ((first | refine Sem.reg tt_ok ?_ | refine Sem.condS ?_ | refine Sem.regL tt_ok ?_ | refine Sem.skip tt_ok ?_ | refine Sem.exit tt_ok ?_ | refine Sem.ret tt_ok ?_ | refine BS_t (by assumption) ?_ | refine BS_f (by assumption) ?_ | refine atG (by repeat (first | assumption | exact setG_same _ _ _ | refine Eq.trans (setG_ne _ _ (by first | assumption | exact Ne.symm (by assumption))) ?_)) ?_ | refine (nthK_iff _ _).2 ⟨_, (by assumption), ?_⟩ | refine ⟨_, ⟨(by omega), (by assumption)⟩, ?_⟩ | refine And.intro (by first | decide | omega) ?_ | fail); conv => whnf) | refine Sem.seqS ?_ | refine Sem.block ?_ | fail)
              refine ⟨⟨k + 1, by omega, _, mv1, _, B1, I.step o⟩, by show ol.length - (k + 1) < ol.length - k; omega, ?_⟩
              refine weak_by [] ?_; (conv => whnf); repeat (first | (refine And.intro rfl ?_; conv => whnf) | fail)
              refine And.intro hw ?_
              (conv => whnf); repeat (first | (refine And.intro rfl ?_; conv => whnf) | fail)
              exact ⟨fun i y hy => hy, rfl, (by first | exact Nat.le_refl _ | decide | omega), rfl, rfl⟩
        · have g1 : (chkB l o != 0) = true := by simpa using hz
          have g2 : (livB (doB l o) o.owner != livB l o.owner) = false := by rw [do_no hz]; simp
          have g3 : ((tenOf (doB l o) o.owner).r != (tenOf l o.owner).r) = false := by rw [do_no hz]; simp
          have g4 : (!(((tenOf (doB l o) o.owner).c.n0 == (tenOf l o.owner).c.n0) && (((tenOf (doB l o) o.owner).c.n1 == (tenOf l o.owner).c.n1) && (((tenOf (doB l o) o.owner).c.n2 == (tenOf l o.owner).c.n2) && (((tenOf (doB l o) o.owner).c.n3 == (tenOf l o.owner).c.n3) && (((tenOf (doB l o) o.owner).c.n4 == (tenOf l o.owner).c.n4) && (((tenOf (doB l o) o.owner).c.n5 == (tenOf l o.owner).c.n5) && (((tenOf (doB l o) o.owner).c.n6 == (tenOf l o.owner).c.n6) && (((tenOf (doB l o) o.owner).c.n7 == (tenOf l o.owner).c.n7) && (((tenOf (doB l o) o.owner).c.n8 == (tenOf l o.owner).c.n8) && true)))))))))) = false := by rw [do_no hz]; simp
          have g5 : (((((keysZ (doB l o)).length : Nat)) : Int) != (((keysZ l).length : Nat) : Int)) = false := by rw [do_no hz]; simp
          have ca1 := aall_ok _ h mv1 _ B1 (by have := (I.step o).ln; omega) (I.step o).wf
          repeat' (first | ((first | refine Sem.reg tt_ok ?_ | refine Sem.condS ?_ | refine Sem.regL tt_ok ?_ | refine Sem.skip tt_ok ?_ | refine Sem.exit tt_ok ?_ | refine Sem.ret tt_ok ?_ | refine BS_t (by assumption) ?_ | refine BS_f (by assumption) ?_ | refine atG (by repeat (first | assumption | exact setG_same _ _ _ | refine Eq.trans (setG_ne _ _ (by first | assumption | exact Ne.symm (by assumption))) ?_)) ?_ | refine (nthK_iff _ _).2 ⟨_, (by assumption), ?_⟩ | refine ⟨_, ⟨(by omega), (by assumption)⟩, ?_⟩ | refine And.intro (by first | decide | omega) ?_ | fail); conv => whnf) | refine Sem.seqS ?_ | refine Sem.block ?_ | fail)
          refine ca1.on ?_; conv => whnf
          repeat' (first | ((first | refine Sem.reg tt_ok ?_ | refine Sem.condS ?_ | refine Sem.regL tt_ok ?_ | refine Sem.skip tt_ok ?_ | refine Sem.exit tt_ok ?_ | refine Sem.ret tt_ok ?_ | refine BS_t (by assumption) ?_ | refine BS_f (by assumption) ?_ | refine atG (by repeat (first | assumption | exact setG_same _ _ _ | refine Eq.trans (setG_ne _ _ (by first | assumption | exact Ne.symm (by assumption))) ?_)) ?_ | refine (nthK_iff _ _).2 ⟨_, (by assumption), ?_⟩ | refine ⟨_, ⟨(by omega), (by assumption)⟩, ?_⟩ | refine And.intro (by first | decide | omega) ?_ | fail); conv => whnf) | refine Sem.seqS ?_ | refine Sem.block ?_ | fail)
          refine ⟨⟨k + 1, by omega, _, mv1, _, B1, I.step o⟩, by show ol.length - (k + 1) < ol.length - k; omega, ?_⟩
          refine weak_by [] ?_; (conv => whnf); repeat (first | (refine And.intro rfl ?_; conv => whnf) | fail)
          refine And.intro hw ?_
          (conv => whnf); repeat (first | (refine And.intro rfl ?_; conv => whnf) | fail)
          exact ⟨fun i y hy => hy, rfl, (by first | exact Nat.le_refl _ | decide | omega), rfl, rfl⟩
    · repeat' (first | ((first | refine Sem.reg tt_ok ?_ | refine Sem.condS ?_ | refine Sem.regL tt_ok ?_ | refine Sem.skip tt_ok ?_ | refine Sem.exit tt_ok ?_ | refine Sem.ret tt_ok ?_ | refine BS_t (by assumption) ?_ | refine BS_f (by assumption) ?_ | refine atG (by repeat (first | assumption | exact setG_same _ _ _ | refine Eq.trans (setG_ne _ _ (by first | assumption | exact Ne.symm (by assumption))) ?_)) ?_ | refine (nthK_iff _ _).2 ⟨_, (by assumption), ?_⟩ | refine ⟨_, ⟨(by omega), (by assumption)⟩, ?_⟩ | refine And.intro (by first | decide | omega) ?_ | fail); conv => whnf) | refine Sem.seqS ?_ | refine Sem.block ?_ | fail)
      refine (aawake_ok _).on ?_; conv => whnf
      repeat' (first | ((first | refine Sem.reg tt_ok ?_ | refine Sem.condS ?_ | refine Sem.regL tt_ok ?_ | refine Sem.skip tt_ok ?_ | refine Sem.exit tt_ok ?_ | refine Sem.ret tt_ok ?_ | refine BS_t (by assumption) ?_ | refine BS_f (by assumption) ?_ | refine atG (by repeat (first | assumption | exact setG_same _ _ _ | refine Eq.trans (setG_ne _ _ (by first | assumption | exact Ne.symm (by assumption))) ?_)) ?_ | refine (nthK_iff _ _).2 ⟨_, (by assumption), ?_⟩ | refine ⟨_, ⟨(by omega), (by assumption)⟩, ?_⟩ | refine And.intro (by first | decide | omega) ?_ | fail); conv => whnf) | refine Sem.seqS ?_ | refine Sem.block ?_ | fail)
      exact ⟨_, fun _ _ h => h, rfl⟩
theorem ords_arg {H : Type} {enc : TypeId × Value → H} {w : World} {base : Nat} {spare : Nat → Bool} {held : Bool} {r : Reach} {b0 : Nat} {v : Value} {d : DataW H} {p : List MemPlace} (hv : Value.okWide Try.prog w r b0 124 v) (h : DataW.Trod enc Try.prog w base spare held 124 v d p) :
    ∃ l : List Ord, Row w v l 12 Ord.vals ∧ ∀ x ∈ l, x.In := by
  obtain ⟨l, hr, hd⟩ := row_arg (size := 12) (cells := Ord.vals) (R := fun x _ => x.In) Try.underlying124 (by kernel_rfl) (by decide) (fun n cs y hl h => ord_cells h) hv h
  exact ⟨l, hr, row_all hd (fun x y h => h)⟩
theorem ords_dz {w : World} {v : Value} {l : List Ord} (hr : Row w v l 12 Ord.vals) : Dz TT gh0 w (.slc 26 (l.map Ord.av)) v := by
  refine row_dz hr Ord.av rfl fun x hx => ⟨rfl, rfl, fun j c u hc hu => ?_⟩
  match j with
  | 0 | 1 | 2 | 3 | 4 | 5 | 6 | 7 | 8 | 9 | 10 | 11 => simp [Ord.av, Ord.vals] at hc hu; subst hc hu; exact ⟨rfl, .int _ _⟩
  | j + 12 => simp [Ord.av] at hc
theorem adminLives_walk {H : Type} {enc : TypeId × Value → H} {w0 : World} {base : Nat} {spare : Nat → Bool} {held : Bool} {r : Reach} {b0 : Nat} {v : Value} {d : DataW H} {p : List MemPlace} (hv : Value.okWide Try.prog w0 r b0 124 v) (h : DataW.Trod enc Try.prog w0 base spare held 124 v d p) (w : World) (e : w0 = w := by rfl) :
    Calls Try.prog 17 #[v] w (Gives w (.bool true)) := by
  subst e
  obtain ⟨l, hr, -⟩ := ords_arg hv h
  refine law_of (adminLives_ok l ?_) (fun v G h => h) rfl fun i a u ha hu => ?_
  · obtain ⟨p, cap, _, h1, h2, _⟩ := hr
    omega
  match i with
  | 0 => simp at ha hu; subst ha hu; exact ords_dz hr
  | i + 1 => simp at ha

set_option linter.unusedVariables false in
set_option maxRecDepth 100000 in
theorem adminLives_contract (H : Type) (enc : TypeId × Value → H) (W : World) (base : Nat) (args : Array Value) (ds gs : List (DataW H)) (before : List MemPlace)
    (hval : ∀ (j : Nat) t v, Try.f17.params[j]? = some t → args[j]? = some v → Value.okWide Try.prog W .any base t v)
    (hW : DataW.Whole enc Try.prog Try.f17.params.toList Rows.adminLivesSpec.vars false W args.toList ds gs before)
    (hsz : (DataW.weightsEach Try.prog (Try.f17.params.toList ++ (Rows.adminLivesSpec).plain.varTypes Try.prog) (ds ++ gs)).all (· ≤ reachBytes) = true) :
    Calls Try.prog 17 args W fun e W' => ∃ v, e = .returned v ∧ Rows.adminLivesSpec.post enc Try.prog Try.f17 false true false false W args v W' := by
  have hW' := hW
  obtain ⟨p, q, hA0, hV, rfl, hfz, hnd⟩ := hW
  have hA : DataW.TrodAll enc Try.prog W 0 (fun _ => true) true Try.f17.params.toList args.toList ds p := hA0
  rw [Try.params17] at hA hval hsz
  obtain ⟨v0, vs0, d0, ds0, p0, q0, hargs, rfl, rfl, h0, r0⟩ := trodAll_cons hA
  obtain ⟨rfl, rfl, rfl⟩ := trodAll_nil r0
  obtain rfl : args = #[v0] := by cases args; simp_all
  obtain ⟨rfl, rfl⟩ := trodVars_none hV
  clear hA0
  have g0 := hval 0 124 v0 rfl rfl
  refine (adminLives_walk g0 h0 W).mono fun e W' ⟨he, hu⟩ => ?_
  subst he
  exact ⟨_, rfl, post_true laidOut (by kernel_rfl) Try.underlying4 rfl rfl hW' rfl hu⟩

theorem adminLives_closed : joinedFacts Try.prog 17 Try.f17 Rows.adminLivesSpec Rows.adminLivesRow = true := by
  unfold joinedFacts
  rw [fact_mayEnter, fact_lifted, fact_make]
  kernel_rfl

set_option maxRecDepth 100000 in
theorem adminLives_lifted (os : Os) (started : os.Started) (H : Type) (enc : TypeId × Value → H) :
    ReturnsInHanded {} Try.checked os 17 .any (Rows.adminLivesSpec.pre6 enc Try.prog Try.f17 Rows.adminLivesRow.domain false) (Rows.adminLivesSpec.post enc Try.prog Try.f17 false true false false) := by
  refine returnsInHanded_of_change_sized (C := Try.checked) own started (by kernel_rfl) Try.func17
    (ChangeSpec.witness6 (enc := enc) (C := Try.checked) false ⟨#[], #[.slice none 0 0], []⟩ 8 (by kernel_rfl) (by kernel_rfl) (by kernel_rfl) (by kernel_rfl)) ?_
  intro W base args ds gs before hval hW _ hsz _
  exact adminLives_contract H enc W base args ds gs before hval hW hsz

theorem adminLives_holds : Rows.AdminLivesSaid :=
  OpenClaim.holds_of_wide 17 Try.f17 rfl rfl rfl rfl rfl rfl rfl ⟨rfl, rfl, rfl, rfl, rfl⟩ rfl rfl rfl rfl rfl (by kernel_rfl) Try.func17 adminLives_closed
    (of_decide_eq_true (by kernel_rfl)) (by unfold Func.isWrapper; rw [if_neg (by decide +kernel)]; exact ⟨rfl, rfl⟩)
    (fun os started H enc _ => adminLives_lifted os started H enc)
end Go.Proofs.Ytpnlhnhjedopgaa
