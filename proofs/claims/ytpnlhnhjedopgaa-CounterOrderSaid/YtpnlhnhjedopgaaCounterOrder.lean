/- CounterOrder: what is added comes together in any order: the law hands back true. Conditions: none. -/
import Derived.Test.YtpnlhnhjedopgaaFrame
import Derived.Test.YtpnlhnhjedopgaaCntB
import Derived.Test.YtpnlhnhjedopgaaLst
set_option maxRecDepth 100000
set_option linter.unusedSimpArgs false
namespace Go.Proofs.Ytpnlhnhjedopgaa
open Go Go.RowKit Go.ChangeShapes Go.WideShapes Go.ChangeAt Go.Proofs
open Go.ChangeMaps (open_string shut_string)

structure OSt (l : List CRw) (ba bb : Nat) where
  k : Nat
  hk : k ≤ l.length
  G : Glob
  ma : AV
  mb : AV
  la : List (ByteArray × Int)
  lb : List (ByteArray × Int)
  ha : StG G ba ma (totC la) (bk cav la)
  hb : StG G bb mb (totC lb) (bk cav lb)
  ia : CInv la (l.take k)
  ib : CInv lb (l.reverse.take k)
  sep : ∀ m, ma = .mp m → mb ≠ .mp m
  ta : totC la ≤ k * 140737488351256
  tb : totC lb ≤ k * 140737488351256
  na : la.length ≤ k
  nb : lb.length ≤ k

theorem StG.keep {G G' : Glob} {ba bb : Nat} {ma ma' mb : AV} {n nb : Int} {m mm : List (AV × AV)} (ha : StG G ba ma n m) (hb : StG G bb mb nb mm) (hab : bb ≠ ba) (sep : ∀ m, ma = .mp m → mb ≠ .mp m) (k : Kept G G' ba ma ma') : StG G' bb mb nb mm := by
  obtain ⟨a1, a2⟩ := ha
  obtain ⟨b1, b2⟩ := hb
  refine ⟨k.2 bb _ b1 hab fun e => ?_, ?_⟩
  · rcases a2 with ⟨h, -⟩ | ⟨x, h, hx⟩
    · rw [h] at e; cases e
    · rw [h] at e; cases e; simp [b1] at hx
  · rcases b2 with h | ⟨x, h, hx⟩
    · exact .inl h
    · refine .inr ⟨x, h, k.2 x _ hx (fun e => by subst e; simp [a1] at hx) fun e => sep x e h⟩
theorem Kept.sep {G G' : Glob} {ba bb : Nat} {ma ma' mb : AV} {nb : Int} {mm : List (AV × AV)} (hb : StG G bb mb nb mm) (sep : ∀ m, ma = .mp m → mb ≠ .mp m) (k : Kept G G' ba ma ma') : ∀ m, ma' = .mp m → mb ≠ .mp m := by
  intro m hm hb'
  rcases k.1 with rfl | ⟨-, x, hx, rfl⟩
  · exact sep m hm hb'
  · cases hm
    rcases hb.2 with ⟨h, -⟩ | ⟨y, h, hy⟩
    · rw [h] at hb'; cases hb'
    · rw [h] at hb'; cases hb'; simp [hx] at hy
set_option maxHeartbeats 2000000 in
theorem counterOrder_ok (l : List CRw) (name : ByteArray) (hl : l.length ≤ 9223372036854775807) (hs : ∀ x ∈ l, x.name.size ≤ 140737488351232) : CallOk Try.prog TT 6 [.slc 44 (l.map CRw.av), .str name] (fun _ => none) (fun v _ => v = .bool true) := by
  have hm := much27_ok l (fun _ => none) hl hs
  cases hmu : (decide ((l.length : Int) > 80) || decide (muchN l 0 > 10000)) with
  | true =>
    rw [hmu] at hm
    refine call_sem tt_ok Try.func6 rfl (by kernel_rfl) Try.ntmps6 Try.results6 ?_; conv => whnf
    repeat' (first | (refine Sem.reg tt_ok ?_; conv => whnf) | refine Sem.seqS ?_ | (refine Sem.condS ?_; conv => whnf) | refine Sem.block ?_ | (refine Sem.regL tt_ok ?_; conv => whnf) | (refine Sem.skip tt_ok ?_; conv => whnf) | (refine Sem.exit tt_ok ?_; conv => whnf) | (refine Sem.ret tt_ok ?_; conv => whnf) | (refine BS_t (by assumption) ?_; conv => whnf) | (refine BS_f (by assumption) ?_; conv => whnf) | (refine atG (by first | assumption | exact setG_same _ _ _ | (refine Eq.trans (setG_ne _ _ (by first | assumption | exact Ne.symm (by assumption))) ?_; first | assumption | exact setG_same _ _ _ | (refine Eq.trans (setG_ne _ _ (by first | assumption | exact Ne.symm (by assumption))) ?_; first | assumption | exact setG_same _ _ _ | (refine Eq.trans (setG_ne _ _ (by first | assumption | exact Ne.symm (by assumption))) ?_; first | assumption | exact setG_same _ _ _)))) ?_; conv => whnf) | (refine (nthK_iff _ _).2 ⟨_, (by assumption), ?_⟩; conv => whnf) | (refine Exists.intro _ (And.intro (And.intro (by omega) (by assumption)) ?_); conv => whnf) | (refine And.intro (by first | decide | omega) ?_; conv => whnf) | fail)
    refine hm.on ?_; conv => whnf
    repeat' (first | (refine Sem.reg tt_ok ?_; conv => whnf) | refine Sem.seqS ?_ | (refine Sem.condS ?_; conv => whnf) | refine Sem.block ?_ | (refine Sem.regL tt_ok ?_; conv => whnf) | (refine Sem.skip tt_ok ?_; conv => whnf) | (refine Sem.exit tt_ok ?_; conv => whnf) | (refine Sem.ret tt_ok ?_; conv => whnf) | (refine BS_t (by assumption) ?_; conv => whnf) | (refine BS_f (by assumption) ?_; conv => whnf) | (refine atG (by first | assumption | exact setG_same _ _ _ | (refine Eq.trans (setG_ne _ _ (by first | assumption | exact Ne.symm (by assumption))) ?_; first | assumption | exact setG_same _ _ _ | (refine Eq.trans (setG_ne _ _ (by first | assumption | exact Ne.symm (by assumption))) ?_; first | assumption | exact setG_same _ _ _ | (refine Eq.trans (setG_ne _ _ (by first | assumption | exact Ne.symm (by assumption))) ?_; first | assumption | exact setG_same _ _ _)))) ?_; conv => whnf) | (refine (nthK_iff _ _).2 ⟨_, (by assumption), ?_⟩; conv => whnf) | (refine Exists.intro _ (And.intro (And.intro (by omega) (by assumption)) ?_); conv => whnf) | (refine And.intro (by first | decide | omega) ?_; conv => whnf) | fail)
    refine (cawake_ok _).mono fun v G1 hv => ?_; obtain rfl := hv; conv => whnf
    repeat' (first | (refine Sem.reg tt_ok ?_; conv => whnf) | refine Sem.seqS ?_ | (refine Sem.condS ?_; conv => whnf) | refine Sem.block ?_ | (refine Sem.regL tt_ok ?_; conv => whnf) | (refine Sem.skip tt_ok ?_; conv => whnf) | (refine Sem.exit tt_ok ?_; conv => whnf) | (refine Sem.ret tt_ok ?_; conv => whnf) | (refine BS_t (by assumption) ?_; conv => whnf) | (refine BS_f (by assumption) ?_; conv => whnf) | (refine atG (by first | assumption | exact setG_same _ _ _ | (refine Eq.trans (setG_ne _ _ (by first | assumption | exact Ne.symm (by assumption))) ?_; first | assumption | exact setG_same _ _ _ | (refine Eq.trans (setG_ne _ _ (by first | assumption | exact Ne.symm (by assumption))) ?_; first | assumption | exact setG_same _ _ _ | (refine Eq.trans (setG_ne _ _ (by first | assumption | exact Ne.symm (by assumption))) ?_; first | assumption | exact setG_same _ _ _)))) ?_; conv => whnf) | (refine (nthK_iff _ _).2 ⟨_, (by assumption), ?_⟩; conv => whnf) | (refine Exists.intro _ (And.intro (And.intro (by omega) (by assumption)) ?_); conv => whnf) | (refine And.intro (by first | decide | omega) ?_; conv => whnf) | fail)
    exact ⟨_, fun _ _ h => h, rfl⟩
  | false =>
    rw [hmu] at hm
    have h80 : l.length ≤ 80 := by simp at hmu; omega
    refine call_sem tt_ok Try.func6 rfl (by kernel_rfl) Try.ntmps6 Try.results6 ?_; conv => whnf
    repeat' (first | (refine Sem.reg tt_ok ?_; conv => whnf) | refine Sem.seqS ?_ | (refine Sem.condS ?_; conv => whnf) | refine Sem.block ?_ | (refine Sem.regL tt_ok ?_; conv => whnf) | (refine Sem.skip tt_ok ?_; conv => whnf) | (refine Sem.exit tt_ok ?_; conv => whnf) | (refine Sem.ret tt_ok ?_; conv => whnf) | (refine BS_t (by assumption) ?_; conv => whnf) | (refine BS_f (by assumption) ?_; conv => whnf) | (refine atG (by first | assumption | exact setG_same _ _ _ | (refine Eq.trans (setG_ne _ _ (by first | assumption | exact Ne.symm (by assumption))) ?_; first | assumption | exact setG_same _ _ _ | (refine Eq.trans (setG_ne _ _ (by first | assumption | exact Ne.symm (by assumption))) ?_; first | assumption | exact setG_same _ _ _ | (refine Eq.trans (setG_ne _ _ (by first | assumption | exact Ne.symm (by assumption))) ?_; first | assumption | exact setG_same _ _ _)))) ?_; conv => whnf) | (refine (nthK_iff _ _).2 ⟨_, (by assumption), ?_⟩; conv => whnf) | (refine Exists.intro _ (And.intro (And.intro (by omega) (by assumption)) ?_); conv => whnf) | (refine And.intro (by first | decide | omega) ?_; conv => whnf) | fail)
    refine hm.on ?_; conv => whnf
    repeat' (first | (refine Sem.reg tt_ok ?_; conv => whnf) | refine Sem.seqS ?_ | (refine Sem.condS ?_; conv => whnf) | refine Sem.block ?_ | (refine Sem.regL tt_ok ?_; conv => whnf) | (refine Sem.skip tt_ok ?_; conv => whnf) | (refine Sem.exit tt_ok ?_; conv => whnf) | (refine Sem.ret tt_ok ?_; conv => whnf) | (refine BS_t (by assumption) ?_; conv => whnf) | (refine BS_f (by assumption) ?_; conv => whnf) | (refine atG (by first | assumption | exact setG_same _ _ _ | (refine Eq.trans (setG_ne _ _ (by first | assumption | exact Ne.symm (by assumption))) ?_; first | assumption | exact setG_same _ _ _ | (refine Eq.trans (setG_ne _ _ (by first | assumption | exact Ne.symm (by assumption))) ?_; first | assumption | exact setG_same _ _ _ | (refine Eq.trans (setG_ne _ _ (by first | assumption | exact Ne.symm (by assumption))) ?_; first | assumption | exact setG_same _ _ _)))) ?_; conv => whnf) | (refine (nthK_iff _ _).2 ⟨_, (by assumption), ?_⟩; conv => whnf) | (refine Exists.intro _ (And.intro (And.intro (by omega) (by assumption)) ?_); conv => whnf) | (refine And.intro (by first | decide | omega) ?_; conv => whnf) | fail)
    refine (cnew_ok _).mono fun v G1 hv => ?_; obtain ⟨ba, hba, rfl, rfl⟩ := hv; conv => whnf
    repeat' (first | (refine Sem.reg tt_ok ?_; conv => whnf) | refine Sem.seqS ?_ | (refine Sem.condS ?_; conv => whnf) | refine Sem.block ?_ | (refine Sem.regL tt_ok ?_; conv => whnf) | (refine Sem.skip tt_ok ?_; conv => whnf) | (refine Sem.exit tt_ok ?_; conv => whnf) | (refine Sem.ret tt_ok ?_; conv => whnf) | (refine BS_t (by assumption) ?_; conv => whnf) | (refine BS_f (by assumption) ?_; conv => whnf) | (refine atG (by first | assumption | exact setG_same _ _ _ | (refine Eq.trans (setG_ne _ _ (by first | assumption | exact Ne.symm (by assumption))) ?_; first | assumption | exact setG_same _ _ _ | (refine Eq.trans (setG_ne _ _ (by first | assumption | exact Ne.symm (by assumption))) ?_; first | assumption | exact setG_same _ _ _ | (refine Eq.trans (setG_ne _ _ (by first | assumption | exact Ne.symm (by assumption))) ?_; first | assumption | exact setG_same _ _ _)))) ?_; conv => whnf) | (refine (nthK_iff _ _).2 ⟨_, (by assumption), ?_⟩; conv => whnf) | (refine Exists.intro _ (And.intro (And.intro (by omega) (by assumption)) ?_); conv => whnf) | (refine And.intro (by first | decide | omega) ?_; conv => whnf) | fail)
    refine Sem.lend 0 ?_
    conv => whnf
    intro bb hbb
    conv => whnf
    have hab : bb ≠ ba := by rintro rfl; simp [setG_same] at hbb
    have h0 : StG (setG (setG (fun _ => none) ba (.cells [.nilm, .int .i64 0])) bb (.cells [.nilm, .int .i64 0])) ba .nilm (totC []) (bk cav []) := ⟨(setG_ne _ _ hab.symm).trans (setG_same _ _ _), .inl ⟨rfl, rfl⟩⟩
    have h1 : StG (setG (setG (fun _ => none) ba (.cells [.nilm, .int .i64 0])) bb (.cells [.nilm, .int .i64 0])) bb .nilm (totC []) (bk cav []) := ⟨setG_same _ _ _, .inl ⟨rfl, rfl⟩⟩
    refine Sem.loop (ι := OSt l ba bb) (fun x => ⟨(.slc 44 (l.map CRw.av) :: .str name :: .top :: .top :: .bool false :: .gptr ba 0 :: .lptr 0 0 :: .int .i64 (x.k : Nat) :: .top :: .top :: .top :: .top :: .top :: .top :: .top :: .top :: .top :: .top :: .top :: .top :: .top :: .top :: .top :: .top :: .top :: .top :: .top :: .top :: .top :: .top :: .top :: .top :: .top :: .top :: .top :: .top :: .top :: .top :: .top :: .top :: .top :: .top :: .top :: .top :: .top :: .top :: .top :: .top :: .top :: .top :: .top :: .top :: .top :: .top :: .top :: .top :: .top :: .top :: .top :: .top :: .top :: .top :: .top :: .top :: .top :: .top :: .top :: .top :: .top :: .top :: .top :: .top :: .top :: .top :: .top :: .top :: []), [.away bb], 1, 0, x.G⟩) (fun x => l.length - x.k)
      ⟨0, Nat.zero_le _, _, .nilm, .nilm, [], [], h0, h1, .nil, .nil, (fun m h => by cases h), Nat.zero_le _, Nat.zero_le _, Nat.zero_le _, Nat.zero_le _⟩ ?_ (fun x => ?_)
    · refine weak_by [] ?_; (conv => whnf); repeat (first | (refine And.intro rfl ?_; conv => whnf) | fail)
      exact ⟨fun i x hx => hx, rfl, Nat.le_refl _, rfl, rfl⟩
    obtain ⟨k, hk0, G, ma, mb, la, lb, ha, hb, ia, ib, sep, ta, tb, na, nb⟩ := x
    repeat' (first | (refine Sem.reg tt_ok ?_; conv => whnf) | refine Sem.seqS ?_ | (refine Sem.condS ?_; conv => whnf) | refine Sem.block ?_ | (refine Sem.regL tt_ok ?_; conv => whnf) | (refine Sem.skip tt_ok ?_; conv => whnf) | (refine Sem.exit tt_ok ?_; conv => whnf) | (refine Sem.ret tt_ok ?_; conv => whnf) | (refine BS_t (by assumption) ?_; conv => whnf) | (refine BS_f (by assumption) ?_; conv => whnf) | (refine atG (by first | assumption | exact setG_same _ _ _ | (refine Eq.trans (setG_ne _ _ (by first | assumption | exact Ne.symm (by assumption))) ?_; first | assumption | exact setG_same _ _ _ | (refine Eq.trans (setG_ne _ _ (by first | assumption | exact Ne.symm (by assumption))) ?_; first | assumption | exact setG_same _ _ _ | (refine Eq.trans (setG_ne _ _ (by first | assumption | exact Ne.symm (by assumption))) ?_; first | assumption | exact setG_same _ _ _)))) ?_; conv => whnf) | (refine (nthK_iff _ _).2 ⟨_, (by assumption), ?_⟩; conv => whnf) | (refine Exists.intro _ (And.intro (And.intro (by omega) (by assumption)) ?_); conv => whnf) | (refine And.intro (by first | decide | omega) ?_; conv => whnf) | fail)
    refine BS_intro (fun hk => ?_) (fun hk => ?_) <;> conv => whnf
    · have hks : k < l.length := by simp at hk; omega
      clear hk
      obtain ⟨v, hv⟩ : ∃ v, l[k]? = some v := ⟨_, List.getElem?_eq_getElem hks⟩
      obtain ⟨u, hu⟩ : ∃ u, l[l.length - 1 - k]? = some u := ⟨_, List.getElem?_eq_getElem (by omega)⟩
      have hsm : (l.map CRw.av)[((k : Nat) : Int).toNat]? = some v.av := by rw [Int.toNat_natCast, List.getElem?_map, hv]; rfl
      have hzv := hs v (List.mem_of_getElem? hv)
      have hzu := hs u (List.mem_of_getElem? hu)
      have hw1 : IntKind.i64.wrap ((k : Int) + 1) = ((k + 1 : Nat) : Int) := by rw [IntWalk.i64_in _ (by omega)]; omega
      repeat' (first | (refine Sem.reg tt_ok ?_; conv => whnf) | refine Sem.seqS ?_ | (refine Sem.condS ?_; conv => whnf) | refine Sem.block ?_ | (refine Sem.regL tt_ok ?_; conv => whnf) | (refine Sem.skip tt_ok ?_; conv => whnf) | (refine Sem.exit tt_ok ?_; conv => whnf) | (refine Sem.ret tt_ok ?_; conv => whnf) | (refine BS_t (by assumption) ?_; conv => whnf) | (refine BS_f (by assumption) ?_; conv => whnf) | (refine atG (by first | assumption | exact setG_same _ _ _ | (refine Eq.trans (setG_ne _ _ (by first | assumption | exact Ne.symm (by assumption))) ?_; first | assumption | exact setG_same _ _ _ | (refine Eq.trans (setG_ne _ _ (by first | assumption | exact Ne.symm (by assumption))) ?_; first | assumption | exact setG_same _ _ _ | (refine Eq.trans (setG_ne _ _ (by first | assumption | exact Ne.symm (by assumption))) ?_; first | assumption | exact setG_same _ _ _)))) ?_; conv => whnf) | (refine (nthK_iff _ _).2 ⟨_, (by assumption), ?_⟩; conv => whnf) | (refine Exists.intro _ (And.intro (And.intro (by omega) (by assumption)) ?_); conv => whnf) | (refine And.intro (by first | decide | omega) ?_; conv => whnf) | fail)
      refine draw_last (eff := []) tt_ok (by kernel_rfl) (by kernel_rfl) ?_; conv => whnf
      repeat' (first | (refine BS_t (by assumption) ?_; conv => whnf) | (refine BS_f (by assumption) ?_; conv => whnf) | (refine atG (by first | assumption | exact setG_same _ _ _ | (refine Eq.trans (setG_ne _ _ (by first | assumption | exact Ne.symm (by assumption))) ?_; first | assumption | exact setG_same _ _ _ | (refine Eq.trans (setG_ne _ _ (by first | assumption | exact Ne.symm (by assumption))) ?_; first | assumption | exact setG_same _ _ _ | (refine Eq.trans (setG_ne _ _ (by first | assumption | exact Ne.symm (by assumption))) ?_; first | assumption | exact setG_same _ _ _)))) ?_; conv => whnf) | (refine (nthK_iff _ _).2 ⟨_, (by assumption), ?_⟩; conv => whnf) | (refine Exists.intro _ (And.intro (And.intro (by omega) (by assumption)) ?_); conv => whnf) | (refine And.intro (by first | decide | omega) ?_; conv => whnf) | fail)
      refine (cadd_ok G ba ma (totC la : Nat) la v.name v.n hzv (by omega) (by omega) ha).mono fun v G1 hv => ?_; obtain ⟨rfl, ma1, ha1, ka⟩ := hv; conv => whnf
      have hL : (l.map CRw.av).length = l.length := by simp
      have hw : IntKind.i64.wrap (IntKind.i64.wrap ((((l.map CRw.av).length : Nat) : Int) - 1) - (k : Nat)) = ((l.length - 1 - k : Nat) : Int) := by
        rw [hL, IntWalk.i64_in ((l.length : Int) - 1) (by omega), IntWalk.i64_in _ (by omega)]; omega
      have hix : 0 ≤ IntKind.i64.wrap (IntKind.i64.wrap ((((l.map CRw.av).length : Nat) : Int) - 1) - (k : Nat)) ∧ (l.map CRw.av)[(IntKind.i64.wrap (IntKind.i64.wrap ((((l.map CRw.av).length : Nat) : Int) - 1) - (k : Nat))).toNat]? = some u.av := by
        rw [hw]
        exact ⟨by omega, by rw [Int.toNat_natCast, List.getElem?_map, hu]; rfl⟩
      have hb1 := StG.keep ha hb hab sep ka
      have sep1 := Kept.sep hb sep ka
      have t80 : totC lb ≤ 80 * 140737488351256 := Nat.le_trans tb (Nat.mul_le_mul_right _ (by omega))
      repeat' (first | (refine Sem.reg tt_ok ?_; conv => whnf) | refine Sem.seqS ?_ | (refine Sem.condS ?_; conv => whnf) | refine Sem.block ?_ | (refine Sem.regL tt_ok ?_; conv => whnf) | (refine Sem.skip tt_ok ?_; conv => whnf) | (refine Sem.exit tt_ok ?_; conv => whnf) | (refine Sem.ret tt_ok ?_; conv => whnf) | (refine BS_t (by assumption) ?_; conv => whnf) | (refine BS_f (by assumption) ?_; conv => whnf) | (refine atG (by first | assumption | exact setG_same _ _ _ | (refine Eq.trans (setG_ne _ _ (by first | assumption | exact Ne.symm (by assumption))) ?_; first | assumption | exact setG_same _ _ _ | (refine Eq.trans (setG_ne _ _ (by first | assumption | exact Ne.symm (by assumption))) ?_; first | assumption | exact setG_same _ _ _ | (refine Eq.trans (setG_ne _ _ (by first | assumption | exact Ne.symm (by assumption))) ?_; first | assumption | exact setG_same _ _ _)))) ?_; conv => whnf) | (refine (nthK_iff _ _).2 ⟨_, (by assumption), ?_⟩; conv => whnf) | (refine Exists.intro _ (And.intro (And.intro (by omega) (by assumption)) ?_); conv => whnf) | (refine And.intro (by first | decide | omega) ?_; conv => whnf) | fail)
      refine draw_last (eff := []) tt_ok (by kernel_rfl) (by kernel_rfl) ?_; conv => whnf
      repeat' (first | (refine BS_t (by assumption) ?_; conv => whnf) | (refine BS_f (by assumption) ?_; conv => whnf) | (refine atG (by first | assumption | exact setG_same _ _ _ | (refine Eq.trans (setG_ne _ _ (by first | assumption | exact Ne.symm (by assumption))) ?_; first | assumption | exact setG_same _ _ _ | (refine Eq.trans (setG_ne _ _ (by first | assumption | exact Ne.symm (by assumption))) ?_; first | assumption | exact setG_same _ _ _ | (refine Eq.trans (setG_ne _ _ (by first | assumption | exact Ne.symm (by assumption))) ?_; first | assumption | exact setG_same _ _ _)))) ?_; conv => whnf) | (refine (nthK_iff _ _).2 ⟨_, (by assumption), ?_⟩; conv => whnf) | (refine Exists.intro _ (And.intro (And.intro (by omega) (by assumption)) ?_); conv => whnf) | (refine And.intro (by first | decide | omega) ?_; conv => whnf) | fail)
      refine ⟨_, hix, ?_⟩
      conv => whnf
      repeat' (first | (refine BS_t (by assumption) ?_; conv => whnf) | (refine BS_f (by assumption) ?_; conv => whnf) | (refine atG (by first | assumption | exact setG_same _ _ _ | (refine Eq.trans (setG_ne _ _ (by first | assumption | exact Ne.symm (by assumption))) ?_; first | assumption | exact setG_same _ _ _ | (refine Eq.trans (setG_ne _ _ (by first | assumption | exact Ne.symm (by assumption))) ?_; first | assumption | exact setG_same _ _ _ | (refine Eq.trans (setG_ne _ _ (by first | assumption | exact Ne.symm (by assumption))) ?_; first | assumption | exact setG_same _ _ _)))) ?_; conv => whnf) | (refine (nthK_iff _ _).2 ⟨_, (by assumption), ?_⟩; conv => whnf) | (refine Exists.intro _ (And.intro (And.intro (by omega) (by assumption)) ?_); conv => whnf) | (refine And.intro (by first | decide | omega) ?_; conv => whnf) | fail)
      refine ⟨_, hix, ?_⟩
      conv => whnf
      repeat' (first | (refine BS_t (by assumption) ?_; conv => whnf) | (refine BS_f (by assumption) ?_; conv => whnf) | (refine atG (by first | assumption | exact setG_same _ _ _ | (refine Eq.trans (setG_ne _ _ (by first | assumption | exact Ne.symm (by assumption))) ?_; first | assumption | exact setG_same _ _ _ | (refine Eq.trans (setG_ne _ _ (by first | assumption | exact Ne.symm (by assumption))) ?_; first | assumption | exact setG_same _ _ _ | (refine Eq.trans (setG_ne _ _ (by first | assumption | exact Ne.symm (by assumption))) ?_; first | assumption | exact setG_same _ _ _)))) ?_; conv => whnf) | (refine (nthK_iff _ _).2 ⟨_, (by assumption), ?_⟩; conv => whnf) | (refine Exists.intro _ (And.intro (And.intro (by omega) (by assumption)) ?_); conv => whnf) | (refine And.intro (by first | decide | omega) ?_; conv => whnf) | fail)
      refine (cadd_ok _ bb mb (totC lb : Nat) lb u.name u.n hzu (by omega) (by omega) hb1).mono fun v G1 hv => ?_; obtain ⟨rfl, mb1, hb2, kb⟩ := hv; conv => whnf
      have ha2 := StG.keep hb1 ha1 (Ne.symm hab) (fun m h h' => sep1 m h' h) kb
      have sep2 := Kept.sep ha1 (fun m h h' => sep1 m h' h) kb
      rw [← totC_put _ (IntKind.i64.wrap (cval la v.name + v.n))] at ha2
      rw [← totC_put _ (IntKind.i64.wrap (cval lb u.name + u.n))] at hb2
      have ht : l.take (k + 1) = l.take k ++ [v] := by rw [List.take_add_one, hv]; rfl
      have hr : l.reverse.take (k + 1) = l.reverse.take k ++ [u] := by rw [List.take_add_one, List.getElem?_reverse hks, hu]; rfl
      have ia2 := ia.add v
      have ib2 := ib.add u
      rw [← ht] at ia2
      rw [← hr] at ib2
      have gA := totC_put v.name (IntKind.i64.wrap (cval la v.name + v.n)) la
      have gB := totC_put u.name (IntKind.i64.wrap (cval lb u.name + u.n)) lb
      have cA : cgrow la v.name ≤ 140737488351256 := by unfold cgrow; split <;> omega
      have cB : cgrow lb u.name ≤ 140737488351256 := by unfold cgrow; split <;> omega
      repeat' (first | (refine Sem.reg tt_ok ?_; conv => whnf) | refine Sem.seqS ?_ | (refine Sem.condS ?_; conv => whnf) | refine Sem.block ?_ | (refine Sem.regL tt_ok ?_; conv => whnf) | (refine Sem.skip tt_ok ?_; conv => whnf) | (refine Sem.exit tt_ok ?_; conv => whnf) | (refine Sem.ret tt_ok ?_; conv => whnf) | (refine BS_t (by assumption) ?_; conv => whnf) | (refine BS_f (by assumption) ?_; conv => whnf) | (refine atG (by first | assumption | exact setG_same _ _ _ | (refine Eq.trans (setG_ne _ _ (by first | assumption | exact Ne.symm (by assumption))) ?_; first | assumption | exact setG_same _ _ _ | (refine Eq.trans (setG_ne _ _ (by first | assumption | exact Ne.symm (by assumption))) ?_; first | assumption | exact setG_same _ _ _ | (refine Eq.trans (setG_ne _ _ (by first | assumption | exact Ne.symm (by assumption))) ?_; first | assumption | exact setG_same _ _ _)))) ?_; conv => whnf) | (refine (nthK_iff _ _).2 ⟨_, (by assumption), ?_⟩; conv => whnf) | (refine Exists.intro _ (And.intro (And.intro (by omega) (by assumption)) ?_); conv => whnf) | (refine And.intro (by first | decide | omega) ?_; conv => whnf) | fail)
      refine ⟨⟨k + 1, by omega, _, ma1, mb1, addA la v, addA lb u, ha2, hb2, ia2, ib2, fun m h h' => sep2 m h' h, ?_, ?_, Nat.le_trans (len_put _ _ _) (by omega), Nat.le_trans (len_put _ _ _) (by omega)⟩, by show l.length - (k + 1) < l.length - k; omega, ?_⟩
      · show totC (lput la v.name _) ≤ _
        omega
      · show totC (lput lb u.name _) ≤ _
        omega
      refine weak_by [] ?_; (conv => whnf); repeat (first | (refine And.intro rfl ?_; conv => whnf) | fail)
      refine And.intro hw1 ?_
      (conv => whnf); repeat (first | (refine And.intro rfl ?_; conv => whnf) | fail)
      exact ⟨fun i y hy => hy, rfl, Nat.le_refl _, rfl, rfl⟩
    · have hk' : k = l.length := by simp at hk; omega
      subst hk'
      rw [List.take_length] at ia
      rw [List.take_of_length_le (by simp)] at ib
      have ib' := ib.perm l.reverse_perm
      obtain ⟨s1, s2⟩ := ia.same ib'
      repeat' (first | (refine Sem.reg tt_ok ?_; conv => whnf) | refine Sem.seqS ?_ | (refine Sem.condS ?_; conv => whnf) | refine Sem.block ?_ | (refine Sem.regL tt_ok ?_; conv => whnf) | (refine Sem.skip tt_ok ?_; conv => whnf) | (refine Sem.exit tt_ok ?_; conv => whnf) | (refine Sem.ret tt_ok ?_; conv => whnf) | (refine BS_t (by assumption) ?_; conv => whnf) | (refine BS_f (by assumption) ?_; conv => whnf) | (refine atG (by first | assumption | exact setG_same _ _ _ | (refine Eq.trans (setG_ne _ _ (by first | assumption | exact Ne.symm (by assumption))) ?_; first | assumption | exact setG_same _ _ _ | (refine Eq.trans (setG_ne _ _ (by first | assumption | exact Ne.symm (by assumption))) ?_; first | assumption | exact setG_same _ _ _ | (refine Eq.trans (setG_ne _ _ (by first | assumption | exact Ne.symm (by assumption))) ?_; first | assumption | exact setG_same _ _ _)))) ?_; conv => whnf) | (refine (nthK_iff _ _).2 ⟨_, (by assumption), ?_⟩; conv => whnf) | (refine Exists.intro _ (And.intro (And.intro (by omega) (by assumption)) ?_); conv => whnf) | (refine And.intro (by first | decide | omega) ?_; conv => whnf) | fail)
      refine (cvalue_ok G ba ma _ la name ha).mono fun v G1 hv => ?_; obtain ⟨rfl, rfl⟩ := hv; conv => whnf
      repeat' (first | (refine Sem.reg tt_ok ?_; conv => whnf) | refine Sem.seqS ?_ | (refine Sem.condS ?_; conv => whnf) | refine Sem.block ?_ | (refine Sem.regL tt_ok ?_; conv => whnf) | (refine Sem.skip tt_ok ?_; conv => whnf) | (refine Sem.exit tt_ok ?_; conv => whnf) | (refine Sem.ret tt_ok ?_; conv => whnf) | (refine BS_t (by assumption) ?_; conv => whnf) | (refine BS_f (by assumption) ?_; conv => whnf) | (refine atG (by first | assumption | exact setG_same _ _ _ | (refine Eq.trans (setG_ne _ _ (by first | assumption | exact Ne.symm (by assumption))) ?_; first | assumption | exact setG_same _ _ _ | (refine Eq.trans (setG_ne _ _ (by first | assumption | exact Ne.symm (by assumption))) ?_; first | assumption | exact setG_same _ _ _ | (refine Eq.trans (setG_ne _ _ (by first | assumption | exact Ne.symm (by assumption))) ?_; first | assumption | exact setG_same _ _ _)))) ?_; conv => whnf) | (refine (nthK_iff _ _).2 ⟨_, (by assumption), ?_⟩; conv => whnf) | (refine Exists.intro _ (And.intro (And.intro (by omega) (by assumption)) ?_); conv => whnf) | (refine And.intro (by first | decide | omega) ?_; conv => whnf) | fail)
      refine (cvalue_ok _ bb mb _ lb name hb).mono fun v G1 hv => ?_; obtain ⟨rfl, rfl⟩ := hv; conv => whnf
      have e1 := s1 name
      generalize hq : cval la name = q at e1 ⊢
      rw [← e1]
      repeat' (first | (refine Sem.reg tt_ok ?_; conv => whnf) | refine Sem.seqS ?_ | (refine Sem.condS ?_; conv => whnf) | refine Sem.block ?_ | (refine Sem.regL tt_ok ?_; conv => whnf) | (refine Sem.skip tt_ok ?_; conv => whnf) | (refine Sem.exit tt_ok ?_; conv => whnf) | (refine Sem.ret tt_ok ?_; conv => whnf) | (refine BS_t (by assumption) ?_; conv => whnf) | (refine BS_f (by assumption) ?_; conv => whnf) | (refine atG (by first | assumption | exact setG_same _ _ _ | (refine Eq.trans (setG_ne _ _ (by first | assumption | exact Ne.symm (by assumption))) ?_; first | assumption | exact setG_same _ _ _ | (refine Eq.trans (setG_ne _ _ (by first | assumption | exact Ne.symm (by assumption))) ?_; first | assumption | exact setG_same _ _ _ | (refine Eq.trans (setG_ne _ _ (by first | assumption | exact Ne.symm (by assumption))) ?_; first | assumption | exact setG_same _ _ _)))) ?_; conv => whnf) | (refine (nthK_iff _ _).2 ⟨_, (by assumption), ?_⟩; conv => whnf) | (refine Exists.intro _ (And.intro (And.intro (by omega) (by assumption)) ?_); conv => whnf) | (refine And.intro (by first | decide | omega) ?_; conv => whnf) | fail)
      have e2 : (q == q) = true := by simp
      rw [e2]
      conv => whnf
      repeat' (first | (refine Sem.reg tt_ok ?_; conv => whnf) | refine Sem.seqS ?_ | (refine Sem.condS ?_; conv => whnf) | refine Sem.block ?_ | (refine Sem.regL tt_ok ?_; conv => whnf) | (refine Sem.skip tt_ok ?_; conv => whnf) | (refine Sem.exit tt_ok ?_; conv => whnf) | (refine Sem.ret tt_ok ?_; conv => whnf) | (refine BS_t (by assumption) ?_; conv => whnf) | (refine BS_f (by assumption) ?_; conv => whnf) | (refine atG (by first | assumption | exact setG_same _ _ _ | (refine Eq.trans (setG_ne _ _ (by first | assumption | exact Ne.symm (by assumption))) ?_; first | assumption | exact setG_same _ _ _ | (refine Eq.trans (setG_ne _ _ (by first | assumption | exact Ne.symm (by assumption))) ?_; first | assumption | exact setG_same _ _ _ | (refine Eq.trans (setG_ne _ _ (by first | assumption | exact Ne.symm (by assumption))) ?_; first | assumption | exact setG_same _ _ _)))) ?_; conv => whnf) | (refine (nthK_iff _ _).2 ⟨_, (by assumption), ?_⟩; conv => whnf) | (refine Exists.intro _ (And.intro (And.intro (by omega) (by assumption)) ?_); conv => whnf) | (refine And.intro (by first | decide | omega) ?_; conv => whnf) | fail)
      refine (csize_ok _ ba ma _ la ha).on ?_
      conv => whnf
      repeat' (first | (refine Sem.reg tt_ok ?_; conv => whnf) | refine Sem.seqS ?_ | (refine Sem.condS ?_; conv => whnf) | refine Sem.block ?_ | (refine Sem.regL tt_ok ?_; conv => whnf) | (refine Sem.skip tt_ok ?_; conv => whnf) | (refine Sem.exit tt_ok ?_; conv => whnf) | (refine Sem.ret tt_ok ?_; conv => whnf) | (refine BS_t (by assumption) ?_; conv => whnf) | (refine BS_f (by assumption) ?_; conv => whnf) | (refine atG (by first | assumption | exact setG_same _ _ _ | (refine Eq.trans (setG_ne _ _ (by first | assumption | exact Ne.symm (by assumption))) ?_; first | assumption | exact setG_same _ _ _ | (refine Eq.trans (setG_ne _ _ (by first | assumption | exact Ne.symm (by assumption))) ?_; first | assumption | exact setG_same _ _ _ | (refine Eq.trans (setG_ne _ _ (by first | assumption | exact Ne.symm (by assumption))) ?_; first | assumption | exact setG_same _ _ _)))) ?_; conv => whnf) | (refine (nthK_iff _ _).2 ⟨_, (by assumption), ?_⟩; conv => whnf) | (refine Exists.intro _ (And.intro (And.intro (by omega) (by assumption)) ?_); conv => whnf) | (refine And.intro (by first | decide | omega) ?_; conv => whnf) | fail)
      refine (csize_ok _ bb mb _ lb hb).on ?_
      conv => whnf
      have e3 : (((totC la : Nat) : Int) == (totC lb : Nat)) = true := by rw [totC_perm s2]; simp
      repeat' (first | (refine Sem.reg tt_ok ?_; conv => whnf) | refine Sem.seqS ?_ | (refine Sem.condS ?_; conv => whnf) | refine Sem.block ?_ | (refine Sem.regL tt_ok ?_; conv => whnf) | (refine Sem.skip tt_ok ?_; conv => whnf) | (refine Sem.exit tt_ok ?_; conv => whnf) | (refine Sem.ret tt_ok ?_; conv => whnf) | (refine BS_t (by assumption) ?_; conv => whnf) | (refine BS_f (by assumption) ?_; conv => whnf) | (refine atG (by first | assumption | exact setG_same _ _ _ | (refine Eq.trans (setG_ne _ _ (by first | assumption | exact Ne.symm (by assumption))) ?_; first | assumption | exact setG_same _ _ _ | (refine Eq.trans (setG_ne _ _ (by first | assumption | exact Ne.symm (by assumption))) ?_; first | assumption | exact setG_same _ _ _ | (refine Eq.trans (setG_ne _ _ (by first | assumption | exact Ne.symm (by assumption))) ?_; first | assumption | exact setG_same _ _ _)))) ?_; conv => whnf) | (refine (nthK_iff _ _).2 ⟨_, (by assumption), ?_⟩; conv => whnf) | (refine Exists.intro _ (And.intro (And.intro (by omega) (by assumption)) ?_); conv => whnf) | (refine And.intro (by first | decide | omega) ?_; conv => whnf) | fail)
      have hz : ∀ (m : List (ByteArray × Int)), (∀ z, z ∈ m.map (·.1) ↔ z ∈ l.map (·.name)) → ∀ x ∈ m, x.1.size ≤ maxLen := fun m hm x hx => by
        obtain ⟨y, hy, h1⟩ := List.mem_map.1 ((hm x.1).1 (List.mem_map.2 ⟨x, hx, rfl⟩))
        rw [← h1]
        have := hs y hy
        unfold maxLen; omega
      have kE : keysE la = keysE lb := by rw [keysE, keysE, keyL_perm s2]
      have hn1 := cnames_ok _ ba ma _ cav la ha (by omega) (hz la ia.keys)
      have hn2 := cnames_ok _ bb mb _ cav lb hb (by omega) (hz lb ib'.keys)
      rw [kE] at hn1
      rw [show keysE lb = ((keyL lb).map S).map fun s => [AV.str s] by simp [keysE]] at hn1 hn2
      refine hn1.on ?_
      conv => whnf
      repeat' (first | (refine Sem.reg tt_ok ?_; conv => whnf) | refine Sem.seqS ?_ | (refine Sem.condS ?_; conv => whnf) | refine Sem.block ?_ | (refine Sem.regL tt_ok ?_; conv => whnf) | (refine Sem.skip tt_ok ?_; conv => whnf) | (refine Sem.exit tt_ok ?_; conv => whnf) | (refine Sem.ret tt_ok ?_; conv => whnf) | (refine BS_t (by assumption) ?_; conv => whnf) | (refine BS_f (by assumption) ?_; conv => whnf) | (refine atG (by first | assumption | exact setG_same _ _ _ | (refine Eq.trans (setG_ne _ _ (by first | assumption | exact Ne.symm (by assumption))) ?_; first | assumption | exact setG_same _ _ _ | (refine Eq.trans (setG_ne _ _ (by first | assumption | exact Ne.symm (by assumption))) ?_; first | assumption | exact setG_same _ _ _ | (refine Eq.trans (setG_ne _ _ (by first | assumption | exact Ne.symm (by assumption))) ?_; first | assumption | exact setG_same _ _ _)))) ?_; conv => whnf) | (refine (nthK_iff _ _).2 ⟨_, (by assumption), ?_⟩; conv => whnf) | (refine Exists.intro _ (And.intro (And.intro (by omega) (by assumption)) ?_); conv => whnf) | (refine And.intro (by first | decide | omega) ?_; conv => whnf) | fail)
      refine hn2.on ?_
      conv => whnf
      repeat' (first | (refine Sem.reg tt_ok ?_; conv => whnf) | refine Sem.seqS ?_ | (refine Sem.condS ?_; conv => whnf) | refine Sem.block ?_ | (refine Sem.regL tt_ok ?_; conv => whnf) | (refine Sem.skip tt_ok ?_; conv => whnf) | (refine Sem.exit tt_ok ?_; conv => whnf) | (refine Sem.ret tt_ok ?_; conv => whnf) | (refine BS_t (by assumption) ?_; conv => whnf) | (refine BS_f (by assumption) ?_; conv => whnf) | (refine atG (by first | assumption | exact setG_same _ _ _ | (refine Eq.trans (setG_ne _ _ (by first | assumption | exact Ne.symm (by assumption))) ?_; first | assumption | exact setG_same _ _ _ | (refine Eq.trans (setG_ne _ _ (by first | assumption | exact Ne.symm (by assumption))) ?_; first | assumption | exact setG_same _ _ _ | (refine Eq.trans (setG_ne _ _ (by first | assumption | exact Ne.symm (by assumption))) ?_; first | assumption | exact setG_same _ _ _)))) ?_; conv => whnf) | (refine (nthK_iff _ _).2 ⟨_, (by assumption), ?_⟩; conv => whnf) | (refine Exists.intro _ (And.intro (And.intro (by omega) (by assumption)) ?_); conv => whnf) | (refine And.intro (by first | decide | omega) ?_; conv => whnf) | fail)
      refine (texts04_ok ((keyL lb).map S) _ (by simp [keyL]; omega)).on ?_
      conv => whnf
      repeat' (first | (refine Sem.reg tt_ok ?_; conv => whnf) | refine Sem.seqS ?_ | (refine Sem.condS ?_; conv => whnf) | refine Sem.block ?_ | (refine Sem.regL tt_ok ?_; conv => whnf) | (refine Sem.skip tt_ok ?_; conv => whnf) | (refine Sem.exit tt_ok ?_; conv => whnf) | (refine Sem.ret tt_ok ?_; conv => whnf) | (refine BS_t (by assumption) ?_; conv => whnf) | (refine BS_f (by assumption) ?_; conv => whnf) | (refine atG (by first | assumption | exact setG_same _ _ _ | (refine Eq.trans (setG_ne _ _ (by first | assumption | exact Ne.symm (by assumption))) ?_; first | assumption | exact setG_same _ _ _ | (refine Eq.trans (setG_ne _ _ (by first | assumption | exact Ne.symm (by assumption))) ?_; first | assumption | exact setG_same _ _ _ | (refine Eq.trans (setG_ne _ _ (by first | assumption | exact Ne.symm (by assumption))) ?_; first | assumption | exact setG_same _ _ _)))) ?_; conv => whnf) | (refine (nthK_iff _ _).2 ⟨_, (by assumption), ?_⟩; conv => whnf) | (refine Exists.intro _ (And.intro (And.intro (by omega) (by assumption)) ?_); conv => whnf) | (refine And.intro (by first | decide | omega) ?_; conv => whnf) | fail)
      refine (cawake_ok _).mono fun v G1 hv => ?_; obtain rfl := hv; conv => whnf
      repeat' (first | (refine Sem.reg tt_ok ?_; conv => whnf) | refine Sem.seqS ?_ | (refine Sem.condS ?_; conv => whnf) | refine Sem.block ?_ | (refine Sem.regL tt_ok ?_; conv => whnf) | (refine Sem.skip tt_ok ?_; conv => whnf) | (refine Sem.exit tt_ok ?_; conv => whnf) | (refine Sem.ret tt_ok ?_; conv => whnf) | (refine BS_t (by assumption) ?_; conv => whnf) | (refine BS_f (by assumption) ?_; conv => whnf) | (refine atG (by first | assumption | exact setG_same _ _ _ | (refine Eq.trans (setG_ne _ _ (by first | assumption | exact Ne.symm (by assumption))) ?_; first | assumption | exact setG_same _ _ _ | (refine Eq.trans (setG_ne _ _ (by first | assumption | exact Ne.symm (by assumption))) ?_; first | assumption | exact setG_same _ _ _ | (refine Eq.trans (setG_ne _ _ (by first | assumption | exact Ne.symm (by assumption))) ?_; first | assumption | exact setG_same _ _ _)))) ?_; conv => whnf) | (refine (nthK_iff _ _).2 ⟨_, (by assumption), ?_⟩; conv => whnf) | (refine Exists.intro _ (And.intro (And.intro (by omega) (by assumption)) ?_); conv => whnf) | (refine And.intro (by first | decide | omega) ?_; conv => whnf) | fail)
      exact ⟨_, fun _ _ h => h, rfl⟩
theorem counterOrder_walk (v : Value) (sl : List CRw) {w0 : World} (hr0 : Row w0 v sl 2 (fun x => [.string x.name, .int .i64 x.n])) (hok0 : ∀ x ∈ sl, x.name.size ≤ 140737488351232 ∧ (-9223372036854775808 ≤ x.n ∧ x.n ≤ 9223372036854775807) ∧ True) (t : ByteArray) (_ : t.size ≤ 140737488351232) (_ : World) :
    Calls Try.prog 6 #[v, .string t] w0 (Gives w0 (.bool true)) := by
  refine law_of (counterOrder_ok sl t ?_ fun x hx => (hok0 x hx).1) (fun v G h => h) rfl fun i x u hx hu => ?_
  · obtain ⟨p, cap, _, h1, h2, _⟩ := hr0
    unfold maxLen at h2
    omega
  match i with
  | 0 => simp at hx hu; subst hx hu; exact crows_dz hr0
  | 1 => simp at hx hu; subst hx hu; exact .str _
  | i + 2 => simp at hx

set_option linter.unusedVariables false in
set_option maxRecDepth 100000 in
theorem counterOrder_contract (H : Type) (enc : TypeId × Value → H) (W : World) (base : Nat) (args : Array Value) (ds gs : List (DataW H)) (before : List MemPlace)
    (hval : ∀ (j : Nat) t v, Try.f6.params[j]? = some t → args[j]? = some v → Value.okWide Try.prog W .any base t v)
    (hW : DataW.Whole enc Try.prog Try.f6.params.toList Rows.counterOrderSpec.vars false W args.toList ds gs before)
    (hsz : (DataW.weightsEach Try.prog (Try.f6.params.toList ++ (Rows.counterOrderSpec).plain.varTypes Try.prog) (ds ++ gs)).all (· ≤ reachBytes) = true) :
    Calls Try.prog 6 args W fun e W' => ∃ v, e = .returned v ∧ Rows.counterOrderSpec.post enc Try.prog Try.f6 false true false false W args v W' := by
  have hW' := hW
  obtain ⟨p, q, hA0, hV, rfl, hfz, hnd⟩ := hW
  have hA : DataW.TrodAll enc Try.prog W 0 (fun _ => true) true Try.f6.params.toList args.toList ds p := hA0
  rw [Try.params6] at hA hval hsz
  obtain ⟨v0, vs0, d0, ds0, p0, q0, hargs, rfl, rfl, h0, r0⟩ := trodAll_cons hA
  obtain ⟨v1, vs1, d1, ds1, p1, q1, rfl, rfl, rfl, h1, r1⟩ := trodAll_cons r0
  obtain ⟨rfl, rfl, rfl⟩ := trodAll_nil r1
  obtain rfl : args = #[v0, v1] := by cases args; simp_all
  obtain ⟨rfl, rfl⟩ := trodVars_none hV
  clear hA0
  have elem0 : ∀ (n : Nat) (cs : List Value) (y : DataW H × List MemPlace), cs.length = 2 → DataW.trod enc Try.prog W 0 (fun _ => true) true n 44 cs = some y → ∃ x : CRw, cs = (fun x : CRw => [.string x.name, .int .i64 x.n]) x ∧ (fun (x : CRw) y => y = .agg [.lit (.string x.name.data.toList), .lit (.int .i64 x.n)] ∧ x.name.size ≤ maxLen ∧ (Lit.int .i64 x.n).wf = true ∧ True) x y.1 := by
    intro n cs y hl h
    obtain ⟨ys, m, _, h2, h3, h4⟩ := struct_cells Try.underlying44 (by kernel_rfl) (by kernel_rfl) h
    obtain ⟨c0, c1, rfl⟩ := list2 hl
    obtain ⟨y0, y1, rfl⟩ := list2 h2
    obtain ⟨a0, rfl, rfl, w0⟩ := string_field Try.underlying9 (h4 0 _ _ rfl rfl)
    obtain ⟨a1, rfl, rfl, w1⟩ := int_field Try.underlying2 (h4 1 _ _ rfl rfl)
    subst h3
    exact ⟨⟨a0, a1⟩, rfl, rfl, w0, w1, trivial⟩
  obtain ⟨l0, hr0, hd0⟩ := row_arg (cells := fun x : CRw => [.string x.name, .int .i64 x.n]) (R := fun (x : CRw) y => y = .agg [.lit (.string x.name.data.toList), .lit (.int .i64 x.n)] ∧ x.name.size ≤ maxLen ∧ (Lit.int .i64 x.n).wf = true ∧ True) Try.underlying39 (by kernel_rfl) (by decide) elem0 (hval 0 39 v0 rfl rfl) h0
  have hb0 := row_all hd0 (fun x y (h : (fun (x : CRw) y => y = .agg [.lit (.string x.name.data.toList), .lit (.int .i64 x.n)] ∧ x.name.size ≤ maxLen ∧ (Lit.int .i64 x.n).wf = true ∧ True) x y) => And.intro (h.2.1) <| And.intro (bounds_i64 h.2.2.1) <| trivial)
  obtain ⟨a1, rfl, rfl, rfl, w1⟩ := open_string Try.underlying9 (hval 1 9 v1 rfl rfl) h1
  have hq0 := row_sized hsz (j := 0) (t := 39) rfl rfl Try.underlying39 Try.underlying44 hd0 (fun x => [.lit (.string x.name.data.toList), .lit (.int .i64 x.n)]) (fun x y (h : (fun (x : CRw) y => y = .agg [.lit (.string x.name.data.toList), .lit (.int .i64 x.n)] ∧ x.name.size ≤ maxLen ∧ (Lit.int .i64 x.n).wf = true ∧ True) x y) => h.1)
  have hz0 := fun x hx => (And.intro ((by have := sized_string (hq0 x hx) (j := 0) (t := 9) rfl rfl; simpa [reachBytes] using this)) <| And.intro ((hb0 x hx).2.1) <| trivial : _ ∧ _)
  have z1 : a1.size ≤ 140737488351232 := by have := sized_string hsz (j := 1) (t := 9) rfl rfl; simpa [reachBytes] using this
  refine (counterOrder_walk v0 l0 hr0 hz0 a1 z1 W).mono fun e W' ⟨he, hu⟩ => ?_
  subst he
  exact ⟨_, rfl, post_true laidOut (by kernel_rfl) Try.underlying4 rfl rfl hW' rfl hu⟩

theorem counterOrder_closed : joinedFacts Try.prog 6 Try.f6 Rows.counterOrderSpec Rows.counterOrderRow = true := by
  unfold joinedFacts
  rw [fact_mayEnter, fact_lifted, fact_make]
  kernel_rfl

set_option maxRecDepth 100000 in
theorem counterOrder_lifted (os : Os) (started : os.Started) (H : Type) (enc : TypeId × Value → H) :
    ReturnsInHanded {} Try.checked os 6 .any (Rows.counterOrderSpec.pre6 enc Try.prog Try.f6 Rows.counterOrderRow.domain false) (Rows.counterOrderSpec.post enc Try.prog Try.f6 false true false false) := by
  refine returnsInHanded_of_change_sized (C := Try.checked) own started (by kernel_rfl) Try.func6
    (ChangeSpec.witness6 (enc := enc) (C := Try.checked) false ⟨#[], #[.slice none 0 0, .string ⟨#[]⟩], []⟩ 8 (by kernel_rfl) (by kernel_rfl) (by kernel_rfl) (by kernel_rfl)) ?_
  intro W base args ds gs before hval hW _ hsz _
  exact counterOrder_contract H enc W base args ds gs before hval hW hsz

theorem counterOrder_holds : Rows.CounterOrderSaid :=
  OpenClaim.holds_of_wide 6 Try.f6 rfl rfl rfl rfl rfl rfl rfl ⟨rfl, rfl, rfl, rfl, rfl⟩ rfl rfl rfl rfl rfl (by kernel_rfl) Try.func6 counterOrder_closed
    (of_decide_eq_true (by kernel_rfl)) (by unfold Func.isWrapper; rw [if_neg (by decide +kernel)]; exact ⟨rfl, rfl⟩)
    (fun os started H enc _ => counterOrder_lifted os started H enc)
end Go.Proofs.Ytpnlhnhjedopgaa
