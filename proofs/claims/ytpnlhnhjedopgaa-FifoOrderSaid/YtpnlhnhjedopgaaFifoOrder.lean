/- FifoOrder: a queue's texts are taken in the order in which they were put in, whatever happens to another queue; an empty hall weighs nothing: the law hands back true. Conditions: none. -/
import Derived.Test.YtpnlhnhjedopgaaFrame
import Derived.Test.YtpnlhnhjedopgaaFifB
set_option maxRecDepth 100000
set_option linter.unusedSimpArgs false
namespace Go.Proofs.Ytpnlhnhjedopgaa
open Go Go.RowKit Go.ChangeShapes Go.WideShapes Go.ChangeAt Go.Proofs
open Go.ChangeMaps (open_string shut_string)

structure FO (a b : ByteArray) (l : List ByteArray) (h : Nat) where
  k : Nat
  hk : k ≤ l.length
  G : Glob
  mv : AV
  fl : FiL
  H : HallG G h mv (totF fl) fl
  ta : fT fl a = l.take k
  tb : (fT fl b).length ≤ k
  hz : ∀ x ∈ fT fl b, x.size ≤ 140737488351232
  to : ∀ z, z ≠ a → z ≠ b → fT fl z = []
  tot : totF fl ≤ k * 1000000000000000
structure FP (a b : ByteArray) (l : List ByteArray) (h : Nat) where
  k : Nat
  hk : k ≤ l.length
  G : Glob
  mv : AV
  fl : FiL
  H : HallG G h mv (totF fl) fl
  ta : fT fl a = l.drop k
  tb : (fT fl b).length ≤ l.length - k
  hz : ∀ x ∈ fT fl b, x.size ≤ 140737488351232
  to : ∀ z, z ≠ a → z ≠ b → fT fl z = []
  tot : totF fl ≤ 1000000000000000000

theorem fifoOrder_ok (a b : ByteArray) (l : List ByteArray) (hl : l.length ≤ 9223372036854775807) (ha : a.size ≤ 140737488351232) (hb : b.size ≤ 140737488351232) (hs : ∀ x ∈ l, x.size ≤ 140737488351232) : CallOk Try.prog TT 12 [.str a, .str b, .slc 9 (l.map fun s => [AV.str s])] (fun _ => none) (fun v _ => v = .bool true) := by
  have hL : (l.map fun s => [AV.str s]).length = l.length := by simp
  cases h2 : decide (((l.map fun s => [AV.str s]).length : Int) > 200) with
  | true =>
    refine call_sem tt_ok Try.func12 rfl (by kernel_rfl) Try.ntmps12 Try.results12 ?_; conv => whnf
    repeat' (first | (refine Sem.reg tt_ok ?_; conv => whnf) | refine Sem.seqS ?_ | (refine Sem.condS ?_; conv => whnf) | refine Sem.block ?_ | (refine Sem.regL tt_ok ?_; conv => whnf) | (refine Sem.skip tt_ok ?_; conv => whnf) | (refine Sem.exit tt_ok ?_; conv => whnf) | (refine Sem.ret tt_ok ?_; conv => whnf) | (refine BS_t (by assumption) ?_; conv => whnf) | (refine BS_f (by assumption) ?_; conv => whnf) | (refine atG (by first | assumption | exact setG_same _ _ _ | (refine Eq.trans (setG_ne _ _ (by first | assumption | exact Ne.symm (by assumption))) ?_; first | assumption | exact setG_same _ _ _ | (refine Eq.trans (setG_ne _ _ (by first | assumption | exact Ne.symm (by assumption))) ?_; first | assumption | exact setG_same _ _ _ | (refine Eq.trans (setG_ne _ _ (by first | assumption | exact Ne.symm (by assumption))) ?_; first | assumption | exact setG_same _ _ _)))) ?_; conv => whnf) | (refine (nthK_iff _ _).2 ⟨_, (by assumption), ?_⟩; conv => whnf) | (refine Exists.intro _ (And.intro (And.intro (by omega) (by assumption)) ?_); conv => whnf) | (refine And.intro (by first | decide | omega) ?_; conv => whnf) | fail)
    refine (fawake_ok _).mono fun v G1 hv => ?_; obtain rfl := hv; conv => whnf
    repeat' (first | (refine Sem.reg tt_ok ?_; conv => whnf) | refine Sem.seqS ?_ | (refine Sem.condS ?_; conv => whnf) | refine Sem.block ?_ | (refine Sem.regL tt_ok ?_; conv => whnf) | (refine Sem.skip tt_ok ?_; conv => whnf) | (refine Sem.exit tt_ok ?_; conv => whnf) | (refine Sem.ret tt_ok ?_; conv => whnf) | (refine BS_t (by assumption) ?_; conv => whnf) | (refine BS_f (by assumption) ?_; conv => whnf) | (refine atG (by first | assumption | exact setG_same _ _ _ | (refine Eq.trans (setG_ne _ _ (by first | assumption | exact Ne.symm (by assumption))) ?_; first | assumption | exact setG_same _ _ _ | (refine Eq.trans (setG_ne _ _ (by first | assumption | exact Ne.symm (by assumption))) ?_; first | assumption | exact setG_same _ _ _ | (refine Eq.trans (setG_ne _ _ (by first | assumption | exact Ne.symm (by assumption))) ?_; first | assumption | exact setG_same _ _ _)))) ?_; conv => whnf) | (refine (nthK_iff _ _).2 ⟨_, (by assumption), ?_⟩; conv => whnf) | (refine Exists.intro _ (And.intro (And.intro (by omega) (by assumption)) ?_); conv => whnf) | (refine And.intro (by first | decide | omega) ?_; conv => whnf) | fail)
    exact ⟨_, fun _ _ h => h, rfl⟩
  | false =>
    cases hab : (a.toList == b.toList) with
    | true =>
      refine call_sem tt_ok Try.func12 rfl (by kernel_rfl) Try.ntmps12 Try.results12 ?_; conv => whnf
      repeat' (first | (refine Sem.reg tt_ok ?_; conv => whnf) | refine Sem.seqS ?_ | (refine Sem.condS ?_; conv => whnf) | refine Sem.block ?_ | (refine Sem.regL tt_ok ?_; conv => whnf) | (refine Sem.skip tt_ok ?_; conv => whnf) | (refine Sem.exit tt_ok ?_; conv => whnf) | (refine Sem.ret tt_ok ?_; conv => whnf) | (refine BS_t (by assumption) ?_; conv => whnf) | (refine BS_f (by assumption) ?_; conv => whnf) | (refine atG (by first | assumption | exact setG_same _ _ _ | (refine Eq.trans (setG_ne _ _ (by first | assumption | exact Ne.symm (by assumption))) ?_; first | assumption | exact setG_same _ _ _ | (refine Eq.trans (setG_ne _ _ (by first | assumption | exact Ne.symm (by assumption))) ?_; first | assumption | exact setG_same _ _ _ | (refine Eq.trans (setG_ne _ _ (by first | assumption | exact Ne.symm (by assumption))) ?_; first | assumption | exact setG_same _ _ _)))) ?_; conv => whnf) | (refine (nthK_iff _ _).2 ⟨_, (by assumption), ?_⟩; conv => whnf) | (refine Exists.intro _ (And.intro (And.intro (by omega) (by assumption)) ?_); conv => whnf) | (refine And.intro (by first | decide | omega) ?_; conv => whnf) | fail)
      refine (fawake_ok _).mono fun v G1 hv => ?_; obtain rfl := hv; conv => whnf
      repeat' (first | (refine Sem.reg tt_ok ?_; conv => whnf) | refine Sem.seqS ?_ | (refine Sem.condS ?_; conv => whnf) | refine Sem.block ?_ | (refine Sem.regL tt_ok ?_; conv => whnf) | (refine Sem.skip tt_ok ?_; conv => whnf) | (refine Sem.exit tt_ok ?_; conv => whnf) | (refine Sem.ret tt_ok ?_; conv => whnf) | (refine BS_t (by assumption) ?_; conv => whnf) | (refine BS_f (by assumption) ?_; conv => whnf) | (refine atG (by first | assumption | exact setG_same _ _ _ | (refine Eq.trans (setG_ne _ _ (by first | assumption | exact Ne.symm (by assumption))) ?_; first | assumption | exact setG_same _ _ _ | (refine Eq.trans (setG_ne _ _ (by first | assumption | exact Ne.symm (by assumption))) ?_; first | assumption | exact setG_same _ _ _ | (refine Eq.trans (setG_ne _ _ (by first | assumption | exact Ne.symm (by assumption))) ?_; first | assumption | exact setG_same _ _ _)))) ?_; conv => whnf) | (refine (nthK_iff _ _).2 ⟨_, (by assumption), ?_⟩; conv => whnf) | (refine Exists.intro _ (And.intro (And.intro (by omega) (by assumption)) ?_); conv => whnf) | (refine And.intro (by first | decide | omega) ?_; conv => whnf) | fail)
      exact ⟨_, fun _ _ h => h, rfl⟩
    | false =>
      refine call_sem tt_ok Try.func12 rfl (by kernel_rfl) Try.ntmps12 Try.results12 ?_; conv => whnf
      repeat' (first | (refine Sem.reg tt_ok ?_; conv => whnf) | refine Sem.seqS ?_ | (refine Sem.condS ?_; conv => whnf) | refine Sem.block ?_ | (refine Sem.regL tt_ok ?_; conv => whnf) | (refine Sem.skip tt_ok ?_; conv => whnf) | (refine Sem.exit tt_ok ?_; conv => whnf) | (refine Sem.ret tt_ok ?_; conv => whnf) | (refine BS_t (by assumption) ?_; conv => whnf) | (refine BS_f (by assumption) ?_; conv => whnf) | (refine atG (by first | assumption | exact setG_same _ _ _ | (refine Eq.trans (setG_ne _ _ (by first | assumption | exact Ne.symm (by assumption))) ?_; first | assumption | exact setG_same _ _ _ | (refine Eq.trans (setG_ne _ _ (by first | assumption | exact Ne.symm (by assumption))) ?_; first | assumption | exact setG_same _ _ _ | (refine Eq.trans (setG_ne _ _ (by first | assumption | exact Ne.symm (by assumption))) ?_; first | assumption | exact setG_same _ _ _)))) ?_; conv => whnf) | (refine (nthK_iff _ _).2 ⟨_, (by assumption), ?_⟩; conv => whnf) | (refine Exists.intro _ (And.intro (And.intro (by omega) (by assumption)) ?_); conv => whnf) | (refine And.intro (by first | decide | omega) ?_; conv => whnf) | fail)
      have hne : a ≠ b := by rintro rfl; simp at hab
      have h200 : l.length ≤ 200 := by simp at h2; omega
      refine Sem.lend 0 ?_
      conv => whnf
      intro h hh
      conv => whnf
      have H0 : HallG (setG (fun _ => none) h (.cells [.nilm, .int .i64 0])) h .nilm (totF []) [] := ⟨⟨setG_same _ _ _, .inl ⟨rfl, rfl⟩⟩, by simp, (fun e he => by cases he), (fun e he => by cases he)⟩
      refine Sem.loop (ι := FO a b l h) (fun x => ⟨(.str a :: .str b :: .slc 9 (l.map fun s => [AV.str s]) :: .top :: .top :: .top :: .bool false :: .lptr 0 0 :: .int .i64 (x.k : Nat) :: .top :: .top :: .top :: .top :: .top :: .top :: .top :: .top :: .top :: .top :: .top :: .top :: .top :: .top :: .top :: .top :: .top :: .top :: .top :: .top :: .top :: .top :: .top :: .top :: .top :: .top :: .top :: .top :: .top :: .top :: .top :: .top :: .top :: .top :: .top :: .top :: .top :: .top :: .top :: .top :: .top :: .top :: .top :: .top :: .top :: .top :: .top :: .top :: .top :: .top :: .top :: .top :: .top :: .top :: .top :: .top :: .top :: .top :: .top :: .top :: .top :: .top :: .top :: .top :: .top :: .top :: .top :: .top :: .top :: .top :: .top :: .top :: .top :: .top :: .top :: .top :: .top :: .top :: .top :: .top :: .top :: .top :: .top :: .top :: .top :: .top :: .top :: .top :: .top :: .top :: .top :: .top :: .top :: []), [.away h], 1, 0, x.G⟩) (fun x => l.length - x.k)
        ⟨0, Nat.zero_le _, _, .nilm, [], H0, rfl, Nat.zero_le _, (fun x hx => by cases hx), (fun _ _ _ => rfl), Nat.zero_le _⟩ ?_ (fun x => ?_)
      · refine weak_by [] ?_; (conv => whnf); repeat (first | (refine And.intro rfl ?_; conv => whnf) | fail)
        exact ⟨fun i x hx => hx, rfl, Nat.le_refl _, rfl, rfl⟩
      obtain ⟨k, hk0, G, mv, fl, H, ta, tb, hz, to, tot⟩ := x
      repeat' (first | (refine Sem.reg tt_ok ?_; conv => whnf) | refine Sem.seqS ?_ | (refine Sem.condS ?_; conv => whnf) | refine Sem.block ?_ | (refine Sem.regL tt_ok ?_; conv => whnf) | (refine Sem.skip tt_ok ?_; conv => whnf) | (refine Sem.exit tt_ok ?_; conv => whnf) | (refine Sem.ret tt_ok ?_; conv => whnf) | (refine BS_t (by assumption) ?_; conv => whnf) | (refine BS_f (by assumption) ?_; conv => whnf) | (refine atG (by first | assumption | exact setG_same _ _ _ | (refine Eq.trans (setG_ne _ _ (by first | assumption | exact Ne.symm (by assumption))) ?_; first | assumption | exact setG_same _ _ _ | (refine Eq.trans (setG_ne _ _ (by first | assumption | exact Ne.symm (by assumption))) ?_; first | assumption | exact setG_same _ _ _ | (refine Eq.trans (setG_ne _ _ (by first | assumption | exact Ne.symm (by assumption))) ?_; first | assumption | exact setG_same _ _ _)))) ?_; conv => whnf) | (refine (nthK_iff _ _).2 ⟨_, (by assumption), ?_⟩; conv => whnf) | (refine Exists.intro _ (And.intro (And.intro (by omega) (by assumption)) ?_); conv => whnf) | (refine And.intro (by first | decide | omega) ?_; conv => whnf) | fail)
      refine BS_intro (fun hk => ?_) (fun hk => ?_) <;> conv => whnf
      · have hks : k < l.length := by simp at hk; omega
        clear hk
        obtain ⟨v, hv⟩ : ∃ v, l[k]? = some v := ⟨_, List.getElem?_eq_getElem hks⟩
        obtain ⟨u, hu⟩ : ∃ u, l[l.length - 1 - k]? = some u := ⟨_, List.getElem?_eq_getElem (by omega)⟩
        have hsm : (l.map fun s => [AV.str s])[((k : Nat) : Int).toNat]? = some [AV.str v] := by rw [Int.toNat_natCast, List.getElem?_map, hv]; rfl
        have hzv := hs v (List.mem_of_getElem? hv)
        have hzu := hs u (List.mem_of_getElem? hu)
        have t80 : totF fl ≤ 200 * 1000000000000000 := Nat.le_trans tot (Nat.mul_le_mul_right _ (by omega))
        repeat' (first | (refine Sem.reg tt_ok ?_; conv => whnf) | refine Sem.seqS ?_ | (refine Sem.condS ?_; conv => whnf) | refine Sem.block ?_ | (refine Sem.regL tt_ok ?_; conv => whnf) | (refine Sem.skip tt_ok ?_; conv => whnf) | (refine Sem.exit tt_ok ?_; conv => whnf) | (refine Sem.ret tt_ok ?_; conv => whnf) | (refine BS_t (by assumption) ?_; conv => whnf) | (refine BS_f (by assumption) ?_; conv => whnf) | (refine atG (by first | assumption | exact setG_same _ _ _ | (refine Eq.trans (setG_ne _ _ (by first | assumption | exact Ne.symm (by assumption))) ?_; first | assumption | exact setG_same _ _ _ | (refine Eq.trans (setG_ne _ _ (by first | assumption | exact Ne.symm (by assumption))) ?_; first | assumption | exact setG_same _ _ _ | (refine Eq.trans (setG_ne _ _ (by first | assumption | exact Ne.symm (by assumption))) ?_; first | assumption | exact setG_same _ _ _)))) ?_; conv => whnf) | (refine (nthK_iff _ _).2 ⟨_, (by assumption), ?_⟩; conv => whnf) | (refine Exists.intro _ (And.intro (And.intro (by omega) (by assumption)) ?_); conv => whnf) | (refine And.intro (by first | decide | omega) ?_; conv => whnf) | fail)
        refine (fpush_T G h mv fl a v ha hzv (by omega) H (by rw [ta]; simp; omega)).mono fun v G1 hv => ?_; obtain ⟨rfl, mv1, fl1, H1, a1, a2, a3, a4, a5⟩ := hv; conv => whnf
        repeat' (first | (refine Sem.reg tt_ok ?_; conv => whnf) | refine Sem.seqS ?_ | (refine Sem.condS ?_; conv => whnf) | refine Sem.block ?_ | (refine Sem.regL tt_ok ?_; conv => whnf) | (refine Sem.skip tt_ok ?_; conv => whnf) | (refine Sem.exit tt_ok ?_; conv => whnf) | (refine Sem.ret tt_ok ?_; conv => whnf) | (refine BS_t (by assumption) ?_; conv => whnf) | (refine BS_f (by assumption) ?_; conv => whnf) | (refine atG (by first | assumption | exact setG_same _ _ _ | (refine Eq.trans (setG_ne _ _ (by first | assumption | exact Ne.symm (by assumption))) ?_; first | assumption | exact setG_same _ _ _ | (refine Eq.trans (setG_ne _ _ (by first | assumption | exact Ne.symm (by assumption))) ?_; first | assumption | exact setG_same _ _ _ | (refine Eq.trans (setG_ne _ _ (by first | assumption | exact Ne.symm (by assumption))) ?_; first | assumption | exact setG_same _ _ _)))) ?_; conv => whnf) | (refine (nthK_iff _ _).2 ⟨_, (by assumption), ?_⟩; conv => whnf) | (refine Exists.intro _ (And.intro (And.intro (by omega) (by assumption)) ?_); conv => whnf) | (refine And.intro (by first | decide | omega) ?_; conv => whnf) | fail)
        have hw : IntKind.i64.wrap (IntKind.i64.wrap ((((l.map fun s => [AV.str s]).length : Nat) : Int) - 1) - (k : Nat)) = ((l.length - 1 - k : Nat) : Int) := by
          rw [hL, IntWalk.i64_in ((l.length : Int) - 1) (by omega), IntWalk.i64_in _ (by omega)]; omega
        have hix : 0 ≤ IntKind.i64.wrap (IntKind.i64.wrap ((((l.map fun s => [AV.str s]).length : Nat) : Int) - 1) - (k : Nat)) ∧ (l.map fun s => [AV.str s])[(IntKind.i64.wrap (IntKind.i64.wrap ((((l.map fun s => [AV.str s]).length : Nat) : Int) - 1) - (k : Nat))).toNat]? = some [AV.str u] := by
          rw [hw]
          exact ⟨by omega, by rw [Int.toNat_natCast, List.getElem?_map, hu]; rfl⟩
        refine ⟨_, hix, ?_⟩
        conv => whnf
        repeat' (first | (refine Sem.reg tt_ok ?_; conv => whnf) | refine Sem.seqS ?_ | (refine Sem.condS ?_; conv => whnf) | refine Sem.block ?_ | (refine Sem.regL tt_ok ?_; conv => whnf) | (refine Sem.skip tt_ok ?_; conv => whnf) | (refine Sem.exit tt_ok ?_; conv => whnf) | (refine Sem.ret tt_ok ?_; conv => whnf) | (refine BS_t (by assumption) ?_; conv => whnf) | (refine BS_f (by assumption) ?_; conv => whnf) | (refine atG (by first | assumption | exact setG_same _ _ _ | (refine Eq.trans (setG_ne _ _ (by first | assumption | exact Ne.symm (by assumption))) ?_; first | assumption | exact setG_same _ _ _ | (refine Eq.trans (setG_ne _ _ (by first | assumption | exact Ne.symm (by assumption))) ?_; first | assumption | exact setG_same _ _ _ | (refine Eq.trans (setG_ne _ _ (by first | assumption | exact Ne.symm (by assumption))) ?_; first | assumption | exact setG_same _ _ _)))) ?_; conv => whnf) | (refine (nthK_iff _ _).2 ⟨_, (by assumption), ?_⟩; conv => whnf) | (refine Exists.intro _ (And.intro (And.intro (by omega) (by assumption)) ?_); conv => whnf) | (refine And.intro (by first | decide | omega) ?_; conv => whnf) | fail)
        have tb1 : fT fl1 b = fT fl b := a2 b (fun e => hne e.symm)
        refine (fpush_T _ h mv1 fl1 b u hb hzu (by omega) H1 (by rw [tb1]; omega)).mono fun v G1 hv => ?_; obtain ⟨rfl, mv2, fl2, H2, b1, b2, b3, b4, b5⟩ := hv; conv => whnf
        repeat' (first | (refine Sem.reg tt_ok ?_; conv => whnf) | refine Sem.seqS ?_ | (refine Sem.condS ?_; conv => whnf) | refine Sem.block ?_ | (refine Sem.regL tt_ok ?_; conv => whnf) | (refine Sem.skip tt_ok ?_; conv => whnf) | (refine Sem.exit tt_ok ?_; conv => whnf) | (refine Sem.ret tt_ok ?_; conv => whnf) | (refine BS_t (by assumption) ?_; conv => whnf) | (refine BS_f (by assumption) ?_; conv => whnf) | (refine atG (by first | assumption | exact setG_same _ _ _ | (refine Eq.trans (setG_ne _ _ (by first | assumption | exact Ne.symm (by assumption))) ?_; first | assumption | exact setG_same _ _ _ | (refine Eq.trans (setG_ne _ _ (by first | assumption | exact Ne.symm (by assumption))) ?_; first | assumption | exact setG_same _ _ _ | (refine Eq.trans (setG_ne _ _ (by first | assumption | exact Ne.symm (by assumption))) ?_; first | assumption | exact setG_same _ _ _)))) ?_; conv => whnf) | (refine (nthK_iff _ _).2 ⟨_, (by assumption), ?_⟩; conv => whnf) | (refine Exists.intro _ (And.intro (And.intro (by omega) (by assumption)) ?_); conv => whnf) | (refine And.intro (by first | decide | omega) ?_; conv => whnf) | fail)
        rw [tb1] at b1
        have hw1 : IntKind.i64.wrap ((k : Int) + 1) = ((k + 1 : Nat) : Int) := by rw [IntWalk.i64_in _ (by omega)]; omega
        have A2 : fT fl2 a = l.take (k + 1) := by rw [b2 a hne, a1, ta, List.take_add_one, hv]; rfl
        have O2 : ∀ z, z ≠ a → z ≠ b → fT fl2 z = [] := fun z h1 h2 => by rw [b2 z h2, a2 z h1]; exact to z h1 h2
        have T2 : totF fl2 ≤ (k + 1) * 1000000000000000 := by omega
        have Z2 : ∀ x ∈ fT fl2 b, x.size ≤ 140737488351232 := fun x hx => by
          rw [b1] at hx
          rcases List.mem_append.1 hx with hx | hx
          · exact hz x hx
          · simp at hx; subst hx; exact hzu
        refine BS_intro (fun hp => ?_) (fun hp => ?_) <;> conv => whnf
        · obtain ⟨t, r, htr⟩ : ∃ t r, fT fl2 b = t :: r := by
            rw [b1]
            cases fT fl b with
            | nil => exact ⟨_, _, rfl⟩
            | cons y ys => exact ⟨_, _, rfl⟩
          have hlen : r.length ≤ k := by
            have := congrArg List.length (htr.symm.trans b1)
            simp at this; omega
          repeat' (first | (refine Sem.reg tt_ok ?_; conv => whnf) | refine Sem.seqS ?_ | (refine Sem.condS ?_; conv => whnf) | refine Sem.block ?_ | (refine Sem.regL tt_ok ?_; conv => whnf) | (refine Sem.skip tt_ok ?_; conv => whnf) | (refine Sem.exit tt_ok ?_; conv => whnf) | (refine Sem.ret tt_ok ?_; conv => whnf) | (refine BS_t (by assumption) ?_; conv => whnf) | (refine BS_f (by assumption) ?_; conv => whnf) | (refine atG (by first | assumption | exact setG_same _ _ _ | (refine Eq.trans (setG_ne _ _ (by first | assumption | exact Ne.symm (by assumption))) ?_; first | assumption | exact setG_same _ _ _ | (refine Eq.trans (setG_ne _ _ (by first | assumption | exact Ne.symm (by assumption))) ?_; first | assumption | exact setG_same _ _ _ | (refine Eq.trans (setG_ne _ _ (by first | assumption | exact Ne.symm (by assumption))) ?_; first | assumption | exact setG_same _ _ _)))) ?_; conv => whnf) | (refine (nthK_iff _ _).2 ⟨_, (by assumption), ?_⟩; conv => whnf) | (refine Exists.intro _ (And.intro (And.intro (by omega) (by assumption)) ?_); conv => whnf) | (refine And.intro (by first | decide | omega) ?_; conv => whnf) | fail)
          refine (fpop_T _ h mv2 fl2 b t r hb (Z2 t (by rw [htr]; simp)) (by omega) H2 htr).mono fun v G1 hv => ?_; obtain ⟨rfl, fl3, H3, c1, c2, c3, c4, c5⟩ := hv; conv => whnf
          repeat' (first | (refine Sem.reg tt_ok ?_; conv => whnf) | refine Sem.seqS ?_ | (refine Sem.condS ?_; conv => whnf) | refine Sem.block ?_ | (refine Sem.regL tt_ok ?_; conv => whnf) | (refine Sem.skip tt_ok ?_; conv => whnf) | (refine Sem.exit tt_ok ?_; conv => whnf) | (refine Sem.ret tt_ok ?_; conv => whnf) | (refine BS_t (by assumption) ?_; conv => whnf) | (refine BS_f (by assumption) ?_; conv => whnf) | (refine atG (by first | assumption | exact setG_same _ _ _ | (refine Eq.trans (setG_ne _ _ (by first | assumption | exact Ne.symm (by assumption))) ?_; first | assumption | exact setG_same _ _ _ | (refine Eq.trans (setG_ne _ _ (by first | assumption | exact Ne.symm (by assumption))) ?_; first | assumption | exact setG_same _ _ _ | (refine Eq.trans (setG_ne _ _ (by first | assumption | exact Ne.symm (by assumption))) ?_; first | assumption | exact setG_same _ _ _)))) ?_; conv => whnf) | (refine (nthK_iff _ _).2 ⟨_, (by assumption), ?_⟩; conv => whnf) | (refine Exists.intro _ (And.intro (And.intro (by omega) (by assumption)) ?_); conv => whnf) | (refine And.intro (by first | decide | omega) ?_; conv => whnf) | fail)
          refine ⟨⟨k + 1, by omega, _, mv2, fl3, H3, (c2 a hne).trans A2, by rw [c1]; omega, fun x hx => Z2 x (by rw [htr]; rw [c1] at hx; exact List.mem_cons_of_mem _ hx), fun z h1 h2 => (c2 z h2).trans (O2 z h1 h2), Nat.le_trans c3 T2⟩, by show l.length - (k + 1) < l.length - k; omega, ?_⟩
          refine weak_by [] ?_; (conv => whnf); repeat (first | (refine And.intro rfl ?_; conv => whnf) | fail)
          refine And.intro hw1 ?_
          (conv => whnf); repeat (first | (refine And.intro rfl ?_; conv => whnf) | fail)
          exact ⟨fun i y hy => hy, rfl, Nat.le_refl _, rfl, rfl⟩
        · repeat' (first | (refine Sem.reg tt_ok ?_; conv => whnf) | refine Sem.seqS ?_ | (refine Sem.condS ?_; conv => whnf) | refine Sem.block ?_ | (refine Sem.regL tt_ok ?_; conv => whnf) | (refine Sem.skip tt_ok ?_; conv => whnf) | (refine Sem.exit tt_ok ?_; conv => whnf) | (refine Sem.ret tt_ok ?_; conv => whnf) | (refine BS_t (by assumption) ?_; conv => whnf) | (refine BS_f (by assumption) ?_; conv => whnf) | (refine atG (by first | assumption | exact setG_same _ _ _ | (refine Eq.trans (setG_ne _ _ (by first | assumption | exact Ne.symm (by assumption))) ?_; first | assumption | exact setG_same _ _ _ | (refine Eq.trans (setG_ne _ _ (by first | assumption | exact Ne.symm (by assumption))) ?_; first | assumption | exact setG_same _ _ _ | (refine Eq.trans (setG_ne _ _ (by first | assumption | exact Ne.symm (by assumption))) ?_; first | assumption | exact setG_same _ _ _)))) ?_; conv => whnf) | (refine (nthK_iff _ _).2 ⟨_, (by assumption), ?_⟩; conv => whnf) | (refine Exists.intro _ (And.intro (And.intro (by omega) (by assumption)) ?_); conv => whnf) | (refine And.intro (by first | decide | omega) ?_; conv => whnf) | fail)
          refine ⟨⟨k + 1, by omega, _, mv2, fl2, H2, A2, by rw [b1]; simp; omega, Z2, O2, T2⟩, by show l.length - (k + 1) < l.length - k; omega, ?_⟩
          refine weak_by [] ?_; (conv => whnf); repeat (first | (refine And.intro rfl ?_; conv => whnf) | fail)
          refine And.intro hw1 ?_
          (conv => whnf); repeat (first | (refine And.intro rfl ?_; conv => whnf) | fail)
          exact ⟨fun i y hy => hy, rfl, Nat.le_refl _, rfl, rfl⟩
      · have hk' : k = l.length := by simp at hk; omega
        subst hk'
        rw [List.take_length] at ta
        repeat' (first | (refine Sem.reg tt_ok ?_; conv => whnf) | refine Sem.seqS ?_ | (refine Sem.condS ?_; conv => whnf) | refine Sem.block ?_ | (refine Sem.regL tt_ok ?_; conv => whnf) | (refine Sem.skip tt_ok ?_; conv => whnf) | (refine Sem.exit tt_ok ?_; conv => whnf) | (refine Sem.ret tt_ok ?_; conv => whnf) | (refine BS_t (by assumption) ?_; conv => whnf) | (refine BS_f (by assumption) ?_; conv => whnf) | (refine atG (by first | assumption | exact setG_same _ _ _ | (refine Eq.trans (setG_ne _ _ (by first | assumption | exact Ne.symm (by assumption))) ?_; first | assumption | exact setG_same _ _ _ | (refine Eq.trans (setG_ne _ _ (by first | assumption | exact Ne.symm (by assumption))) ?_; first | assumption | exact setG_same _ _ _ | (refine Eq.trans (setG_ne _ _ (by first | assumption | exact Ne.symm (by assumption))) ?_; first | assumption | exact setG_same _ _ _)))) ?_; conv => whnf) | (refine (nthK_iff _ _).2 ⟨_, (by assumption), ?_⟩; conv => whnf) | (refine Exists.intro _ (And.intro (And.intro (by omega) (by assumption)) ?_); conv => whnf) | (refine And.intro (by first | decide | omega) ?_; conv => whnf) | fail)
        refine Sem.loop (ι := FP a b l h) (fun x => ⟨(.str a :: .str b :: .slc 9 (l.map fun s => [AV.str s]) :: .top :: .top :: .top :: .bool false :: .lptr 0 0 :: .top :: .int .i64 (x.k : Nat) :: .top :: .top :: .top :: .top :: .top :: .top :: .top :: .top :: .top :: .top :: .top :: .top :: .top :: .top :: .top :: .top :: .top :: .top :: .top :: .top :: .top :: .top :: .top :: .top :: .top :: .top :: .top :: .top :: .top :: .top :: .top :: .top :: .top :: .top :: .top :: .top :: .top :: .top :: .top :: .top :: .top :: .top :: .top :: .top :: .top :: .top :: .top :: .top :: .top :: .top :: .top :: .top :: .top :: .top :: .top :: .top :: .top :: .top :: .top :: .top :: .top :: .top :: .top :: .top :: .top :: .top :: .top :: .top :: .top :: .top :: .top :: .top :: .top :: .top :: .top :: .top :: .top :: .top :: .top :: .top :: .top :: .top :: .top :: .top :: .top :: .top :: .top :: .top :: .top :: .top :: .top :: .top :: []), [.away h], 1, 0, x.G⟩) (fun x => l.length - x.k)
          ⟨0, Nat.zero_le _, G, mv, fl, H, ta, tb, hz, to, Nat.le_trans tot (Nat.le_trans (Nat.mul_le_mul_right _ h200) (by decide))⟩ ?_ (fun x => ?_)
        · refine weak_by [] ?_; (conv => whnf); repeat (first | (refine And.intro rfl ?_; conv => whnf) | fail)
          exact ⟨fun i x hx => hx, rfl, Nat.le_refl _, rfl, rfl⟩
        obtain ⟨k, hk0, G, mv, fl, H, ta, tb, hz, to, tot⟩ := x
        repeat' (first | (refine Sem.reg tt_ok ?_; conv => whnf) | refine Sem.seqS ?_ | (refine Sem.condS ?_; conv => whnf) | refine Sem.block ?_ | (refine Sem.regL tt_ok ?_; conv => whnf) | (refine Sem.skip tt_ok ?_; conv => whnf) | (refine Sem.exit tt_ok ?_; conv => whnf) | (refine Sem.ret tt_ok ?_; conv => whnf) | (refine BS_t (by assumption) ?_; conv => whnf) | (refine BS_f (by assumption) ?_; conv => whnf) | (refine atG (by first | assumption | exact setG_same _ _ _ | (refine Eq.trans (setG_ne _ _ (by first | assumption | exact Ne.symm (by assumption))) ?_; first | assumption | exact setG_same _ _ _ | (refine Eq.trans (setG_ne _ _ (by first | assumption | exact Ne.symm (by assumption))) ?_; first | assumption | exact setG_same _ _ _ | (refine Eq.trans (setG_ne _ _ (by first | assumption | exact Ne.symm (by assumption))) ?_; first | assumption | exact setG_same _ _ _)))) ?_; conv => whnf) | (refine (nthK_iff _ _).2 ⟨_, (by assumption), ?_⟩; conv => whnf) | (refine Exists.intro _ (And.intro (And.intro (by omega) (by assumption)) ?_); conv => whnf) | (refine And.intro (by first | decide | omega) ?_; conv => whnf) | fail)
        refine BS_intro (fun hk => ?_) (fun hk => ?_) <;> conv => whnf
        · have hks : k < l.length := by simp at hk; omega
          clear hk
          obtain ⟨v, hv⟩ : ∃ v, l[k]? = some v := ⟨_, List.getElem?_eq_getElem hks⟩
          have hsm : (l.map fun s => [AV.str s])[((k : Nat) : Int).toNat]? = some [AV.str v] := by rw [Int.toNat_natCast, List.getElem?_map, hv]; rfl
          have hzv := hs v (List.mem_of_getElem? hv)
          have hd : l.drop k = v :: l.drop (k + 1) := by
            obtain ⟨h1, rfl⟩ := List.getElem?_eq_some_iff.1 hv
            exact List.drop_eq_getElem_cons h1
          repeat' (first | (refine Sem.reg tt_ok ?_; conv => whnf) | refine Sem.seqS ?_ | (refine Sem.condS ?_; conv => whnf) | refine Sem.block ?_ | (refine Sem.regL tt_ok ?_; conv => whnf) | (refine Sem.skip tt_ok ?_; conv => whnf) | (refine Sem.exit tt_ok ?_; conv => whnf) | (refine Sem.ret tt_ok ?_; conv => whnf) | (refine BS_t (by assumption) ?_; conv => whnf) | (refine BS_f (by assumption) ?_; conv => whnf) | (refine atG (by first | assumption | exact setG_same _ _ _ | (refine Eq.trans (setG_ne _ _ (by first | assumption | exact Ne.symm (by assumption))) ?_; first | assumption | exact setG_same _ _ _ | (refine Eq.trans (setG_ne _ _ (by first | assumption | exact Ne.symm (by assumption))) ?_; first | assumption | exact setG_same _ _ _ | (refine Eq.trans (setG_ne _ _ (by first | assumption | exact Ne.symm (by assumption))) ?_; first | assumption | exact setG_same _ _ _)))) ?_; conv => whnf) | (refine (nthK_iff _ _).2 ⟨_, (by assumption), ?_⟩; conv => whnf) | (refine Exists.intro _ (And.intro (And.intro (by omega) (by assumption)) ?_); conv => whnf) | (refine And.intro (by first | decide | omega) ?_; conv => whnf) | fail)
          refine (fpop_T G h mv fl a v _ ha hzv (by omega) H (ta.trans hd)).mono fun v G1 hv => ?_; obtain ⟨rfl, fl1, H1, a1, a2, a3, a4, a5⟩ := hv; conv => whnf
          repeat' (first | (refine Sem.reg tt_ok ?_; conv => whnf) | refine Sem.seqS ?_ | (refine Sem.condS ?_; conv => whnf) | refine Sem.block ?_ | (refine Sem.regL tt_ok ?_; conv => whnf) | (refine Sem.skip tt_ok ?_; conv => whnf) | (refine Sem.exit tt_ok ?_; conv => whnf) | (refine Sem.ret tt_ok ?_; conv => whnf) | (refine BS_t (by assumption) ?_; conv => whnf) | (refine BS_f (by assumption) ?_; conv => whnf) | (refine atG (by first | assumption | exact setG_same _ _ _ | (refine Eq.trans (setG_ne _ _ (by first | assumption | exact Ne.symm (by assumption))) ?_; first | assumption | exact setG_same _ _ _ | (refine Eq.trans (setG_ne _ _ (by first | assumption | exact Ne.symm (by assumption))) ?_; first | assumption | exact setG_same _ _ _ | (refine Eq.trans (setG_ne _ _ (by first | assumption | exact Ne.symm (by assumption))) ?_; first | assumption | exact setG_same _ _ _)))) ?_; conv => whnf) | (refine (nthK_iff _ _).2 ⟨_, (by assumption), ?_⟩; conv => whnf) | (refine Exists.intro _ (And.intro (And.intro (by omega) (by assumption)) ?_); conv => whnf) | (refine And.intro (by first | decide | omega) ?_; conv => whnf) | fail)
          have e1 : (!(v.toList == v.toList)) = false := by simp
          rw [e1]
          conv => whnf
          repeat' (first | (refine Sem.reg tt_ok ?_; conv => whnf) | refine Sem.seqS ?_ | (refine Sem.condS ?_; conv => whnf) | refine Sem.block ?_ | (refine Sem.regL tt_ok ?_; conv => whnf) | (refine Sem.skip tt_ok ?_; conv => whnf) | (refine Sem.exit tt_ok ?_; conv => whnf) | (refine Sem.ret tt_ok ?_; conv => whnf) | (refine BS_t (by assumption) ?_; conv => whnf) | (refine BS_f (by assumption) ?_; conv => whnf) | (refine atG (by first | assumption | exact setG_same _ _ _ | (refine Eq.trans (setG_ne _ _ (by first | assumption | exact Ne.symm (by assumption))) ?_; first | assumption | exact setG_same _ _ _ | (refine Eq.trans (setG_ne _ _ (by first | assumption | exact Ne.symm (by assumption))) ?_; first | assumption | exact setG_same _ _ _ | (refine Eq.trans (setG_ne _ _ (by first | assumption | exact Ne.symm (by assumption))) ?_; first | assumption | exact setG_same _ _ _)))) ?_; conv => whnf) | (refine (nthK_iff _ _).2 ⟨_, (by assumption), ?_⟩; conv => whnf) | (refine Exists.intro _ (And.intro (And.intro (by omega) (by assumption)) ?_); conv => whnf) | (refine And.intro (by first | decide | omega) ?_; conv => whnf) | fail)
          have hw1 : IntKind.i64.wrap ((k : Int) + 1) = ((k + 1 : Nat) : Int) := by rw [IntWalk.i64_in _ (by omega)]; omega
          have tb1 : fT fl1 b = fT fl b := a2 b (fun e => hne e.symm)
          cases hB : fT fl b with
          | nil =>
            refine (fpop_T0 _ h mv fl1 b H1 (tb1.trans hB)).mono fun v G1 hv => ?_; obtain ⟨rfl, rfl⟩ := hv; conv => whnf
            repeat' (first | (refine Sem.reg tt_ok ?_; conv => whnf) | refine Sem.seqS ?_ | (refine Sem.condS ?_; conv => whnf) | refine Sem.block ?_ | (refine Sem.regL tt_ok ?_; conv => whnf) | (refine Sem.skip tt_ok ?_; conv => whnf) | (refine Sem.exit tt_ok ?_; conv => whnf) | (refine Sem.ret tt_ok ?_; conv => whnf) | (refine BS_t (by assumption) ?_; conv => whnf) | (refine BS_f (by assumption) ?_; conv => whnf) | (refine atG (by first | assumption | exact setG_same _ _ _ | (refine Eq.trans (setG_ne _ _ (by first | assumption | exact Ne.symm (by assumption))) ?_; first | assumption | exact setG_same _ _ _ | (refine Eq.trans (setG_ne _ _ (by first | assumption | exact Ne.symm (by assumption))) ?_; first | assumption | exact setG_same _ _ _ | (refine Eq.trans (setG_ne _ _ (by first | assumption | exact Ne.symm (by assumption))) ?_; first | assumption | exact setG_same _ _ _)))) ?_; conv => whnf) | (refine (nthK_iff _ _).2 ⟨_, (by assumption), ?_⟩; conv => whnf) | (refine Exists.intro _ (And.intro (And.intro (by omega) (by assumption)) ?_); conv => whnf) | (refine And.intro (by first | decide | omega) ?_; conv => whnf) | fail)
            refine ⟨⟨k + 1, by omega, _, mv, fl1, H1, a1, by rw [tb1, hB]; exact Nat.zero_le _, (fun x hx => by rw [tb1, hB] at hx; cases hx), fun z h1 h2 => (a2 z h1).trans (to z h1 h2), Nat.le_trans a3 tot⟩, by show l.length - (k + 1) < l.length - k; omega, ?_⟩
            refine weak_by [] ?_; (conv => whnf); repeat (first | (refine And.intro rfl ?_; conv => whnf) | fail)
            refine And.intro hw1 ?_
            (conv => whnf); repeat (first | (refine And.intro rfl ?_; conv => whnf) | fail)
            exact ⟨fun i y hy => hy, rfl, Nat.le_refl _, rfl, rfl⟩
          | cons t r =>
            refine (fpop_T _ h mv fl1 b t r hb (hz t (by rw [hB]; simp)) (by omega) H1 (tb1.trans hB)).mono fun v G1 hv => ?_; obtain ⟨rfl, fl2, H2, b1, b2, b3, b4, b5⟩ := hv; conv => whnf
            repeat' (first | (refine Sem.reg tt_ok ?_; conv => whnf) | refine Sem.seqS ?_ | (refine Sem.condS ?_; conv => whnf) | refine Sem.block ?_ | (refine Sem.regL tt_ok ?_; conv => whnf) | (refine Sem.skip tt_ok ?_; conv => whnf) | (refine Sem.exit tt_ok ?_; conv => whnf) | (refine Sem.ret tt_ok ?_; conv => whnf) | (refine BS_t (by assumption) ?_; conv => whnf) | (refine BS_f (by assumption) ?_; conv => whnf) | (refine atG (by first | assumption | exact setG_same _ _ _ | (refine Eq.trans (setG_ne _ _ (by first | assumption | exact Ne.symm (by assumption))) ?_; first | assumption | exact setG_same _ _ _ | (refine Eq.trans (setG_ne _ _ (by first | assumption | exact Ne.symm (by assumption))) ?_; first | assumption | exact setG_same _ _ _ | (refine Eq.trans (setG_ne _ _ (by first | assumption | exact Ne.symm (by assumption))) ?_; first | assumption | exact setG_same _ _ _)))) ?_; conv => whnf) | (refine (nthK_iff _ _).2 ⟨_, (by assumption), ?_⟩; conv => whnf) | (refine Exists.intro _ (And.intro (And.intro (by omega) (by assumption)) ?_); conv => whnf) | (refine And.intro (by first | decide | omega) ?_; conv => whnf) | fail)
            refine ⟨⟨k + 1, by omega, _, mv, fl2, H2, (b2 a hne).trans a1, by rw [b1]; rw [hB] at tb; simp at tb; omega, fun x hx => hz x (by rw [hB]; rw [b1] at hx; exact List.mem_cons_of_mem _ hx), fun z h1 h2 => (b2 z h2).trans ((a2 z h1).trans (to z h1 h2)), by omega⟩, by show l.length - (k + 1) < l.length - k; omega, ?_⟩
            refine weak_by [] ?_; (conv => whnf); repeat (first | (refine And.intro rfl ?_; conv => whnf) | fail)
            refine And.intro hw1 ?_
            (conv => whnf); repeat (first | (refine And.intro rfl ?_; conv => whnf) | fail)
            exact ⟨fun i y hy => hy, rfl, Nat.le_refl _, rfl, rfl⟩
        · have hk' : k = l.length := by simp at hk; omega
          subst hk'
          rw [List.drop_length] at ta
          have hbn : fT fl b = [] := List.eq_nil_of_length_eq_zero (by omega)
          have hfl : fl = [] := hall_empty H fun z => by
            by_cases h1 : z = a
            · rw [h1]; exact ta
            · by_cases h2 : z = b
              · rw [h2]; exact hbn
              · exact to z h1 h2
          subst hfl
          repeat' (first | (refine Sem.reg tt_ok ?_; conv => whnf) | refine Sem.seqS ?_ | (refine Sem.condS ?_; conv => whnf) | refine Sem.block ?_ | (refine Sem.regL tt_ok ?_; conv => whnf) | (refine Sem.skip tt_ok ?_; conv => whnf) | (refine Sem.exit tt_ok ?_; conv => whnf) | (refine Sem.ret tt_ok ?_; conv => whnf) | (refine BS_t (by assumption) ?_; conv => whnf) | (refine BS_f (by assumption) ?_; conv => whnf) | (refine atG (by first | assumption | exact setG_same _ _ _ | (refine Eq.trans (setG_ne _ _ (by first | assumption | exact Ne.symm (by assumption))) ?_; first | assumption | exact setG_same _ _ _ | (refine Eq.trans (setG_ne _ _ (by first | assumption | exact Ne.symm (by assumption))) ?_; first | assumption | exact setG_same _ _ _ | (refine Eq.trans (setG_ne _ _ (by first | assumption | exact Ne.symm (by assumption))) ?_; first | assumption | exact setG_same _ _ _)))) ?_; conv => whnf) | (refine (nthK_iff _ _).2 ⟨_, (by assumption), ?_⟩; conv => whnf) | (refine Exists.intro _ (And.intro (And.intro (by omega) (by assumption)) ?_); conv => whnf) | (refine And.intro (by first | decide | omega) ?_; conv => whnf) | fail)
          refine (fpop_T0 G h mv [] a H rfl).mono fun v G1 hv => ?_; obtain ⟨rfl, rfl⟩ := hv; conv => whnf
          repeat' (first | (refine Sem.reg tt_ok ?_; conv => whnf) | refine Sem.seqS ?_ | (refine Sem.condS ?_; conv => whnf) | refine Sem.block ?_ | (refine Sem.regL tt_ok ?_; conv => whnf) | (refine Sem.skip tt_ok ?_; conv => whnf) | (refine Sem.exit tt_ok ?_; conv => whnf) | (refine Sem.ret tt_ok ?_; conv => whnf) | (refine BS_t (by assumption) ?_; conv => whnf) | (refine BS_f (by assumption) ?_; conv => whnf) | (refine atG (by first | assumption | exact setG_same _ _ _ | (refine Eq.trans (setG_ne _ _ (by first | assumption | exact Ne.symm (by assumption))) ?_; first | assumption | exact setG_same _ _ _ | (refine Eq.trans (setG_ne _ _ (by first | assumption | exact Ne.symm (by assumption))) ?_; first | assumption | exact setG_same _ _ _ | (refine Eq.trans (setG_ne _ _ (by first | assumption | exact Ne.symm (by assumption))) ?_; first | assumption | exact setG_same _ _ _)))) ?_; conv => whnf) | (refine (nthK_iff _ _).2 ⟨_, (by assumption), ?_⟩; conv => whnf) | (refine Exists.intro _ (And.intro (And.intro (by omega) (by assumption)) ?_); conv => whnf) | (refine And.intro (by first | decide | omega) ?_; conv => whnf) | fail)
          refine (fsize_ok _ h mv _ [] H.1).mono fun v G1 hv => ?_; obtain ⟨rfl, rfl⟩ := hv; conv => whnf
          repeat' (first | (refine Sem.reg tt_ok ?_; conv => whnf) | refine Sem.seqS ?_ | (refine Sem.condS ?_; conv => whnf) | refine Sem.block ?_ | (refine Sem.regL tt_ok ?_; conv => whnf) | (refine Sem.skip tt_ok ?_; conv => whnf) | (refine Sem.exit tt_ok ?_; conv => whnf) | (refine Sem.ret tt_ok ?_; conv => whnf) | (refine BS_t (by assumption) ?_; conv => whnf) | (refine BS_f (by assumption) ?_; conv => whnf) | (refine atG (by first | assumption | exact setG_same _ _ _ | (refine Eq.trans (setG_ne _ _ (by first | assumption | exact Ne.symm (by assumption))) ?_; first | assumption | exact setG_same _ _ _ | (refine Eq.trans (setG_ne _ _ (by first | assumption | exact Ne.symm (by assumption))) ?_; first | assumption | exact setG_same _ _ _ | (refine Eq.trans (setG_ne _ _ (by first | assumption | exact Ne.symm (by assumption))) ?_; first | assumption | exact setG_same _ _ _)))) ?_; conv => whnf) | (refine (nthK_iff _ _).2 ⟨_, (by assumption), ?_⟩; conv => whnf) | (refine Exists.intro _ (And.intro (And.intro (by omega) (by assumption)) ?_); conv => whnf) | (refine And.intro (by first | decide | omega) ?_; conv => whnf) | fail)
          refine (fnames_ok _ h mv _ fav [] H.1 (by simp) (by simp)).mono fun v G1 hv => ?_; obtain ⟨rfl, rfl⟩ := hv; conv => whnf
          repeat' (first | (refine Sem.reg tt_ok ?_; conv => whnf) | refine Sem.seqS ?_ | (refine Sem.condS ?_; conv => whnf) | refine Sem.block ?_ | (refine Sem.regL tt_ok ?_; conv => whnf) | (refine Sem.skip tt_ok ?_; conv => whnf) | (refine Sem.exit tt_ok ?_; conv => whnf) | (refine Sem.ret tt_ok ?_; conv => whnf) | (refine BS_t (by assumption) ?_; conv => whnf) | (refine BS_f (by assumption) ?_; conv => whnf) | (refine atG (by first | assumption | exact setG_same _ _ _ | (refine Eq.trans (setG_ne _ _ (by first | assumption | exact Ne.symm (by assumption))) ?_; first | assumption | exact setG_same _ _ _ | (refine Eq.trans (setG_ne _ _ (by first | assumption | exact Ne.symm (by assumption))) ?_; first | assumption | exact setG_same _ _ _ | (refine Eq.trans (setG_ne _ _ (by first | assumption | exact Ne.symm (by assumption))) ?_; first | assumption | exact setG_same _ _ _)))) ?_; conv => whnf) | (refine (nthK_iff _ _).2 ⟨_, (by assumption), ?_⟩; conv => whnf) | (refine Exists.intro _ (And.intro (And.intro (by omega) (by assumption)) ?_); conv => whnf) | (refine And.intro (by first | decide | omega) ?_; conv => whnf) | fail)
          have hke : keysE ([] : FiL) = [] := by simp [keysE, keyL]
          rw [hke]
          conv => whnf
          repeat' (first | (refine Sem.reg tt_ok ?_; conv => whnf) | refine Sem.seqS ?_ | (refine Sem.condS ?_; conv => whnf) | refine Sem.block ?_ | (refine Sem.regL tt_ok ?_; conv => whnf) | (refine Sem.skip tt_ok ?_; conv => whnf) | (refine Sem.exit tt_ok ?_; conv => whnf) | (refine Sem.ret tt_ok ?_; conv => whnf) | (refine BS_t (by assumption) ?_; conv => whnf) | (refine BS_f (by assumption) ?_; conv => whnf) | (refine atG (by first | assumption | exact setG_same _ _ _ | (refine Eq.trans (setG_ne _ _ (by first | assumption | exact Ne.symm (by assumption))) ?_; first | assumption | exact setG_same _ _ _ | (refine Eq.trans (setG_ne _ _ (by first | assumption | exact Ne.symm (by assumption))) ?_; first | assumption | exact setG_same _ _ _ | (refine Eq.trans (setG_ne _ _ (by first | assumption | exact Ne.symm (by assumption))) ?_; first | assumption | exact setG_same _ _ _)))) ?_; conv => whnf) | (refine (nthK_iff _ _).2 ⟨_, (by assumption), ?_⟩; conv => whnf) | (refine Exists.intro _ (And.intro (And.intro (by omega) (by assumption)) ?_); conv => whnf) | (refine And.intro (by first | decide | omega) ?_; conv => whnf) | fail)
          refine (fawake_ok _).mono fun v G1 hv => ?_; obtain rfl := hv; conv => whnf
          repeat' (first | (refine Sem.reg tt_ok ?_; conv => whnf) | refine Sem.seqS ?_ | (refine Sem.condS ?_; conv => whnf) | refine Sem.block ?_ | (refine Sem.regL tt_ok ?_; conv => whnf) | (refine Sem.skip tt_ok ?_; conv => whnf) | (refine Sem.exit tt_ok ?_; conv => whnf) | (refine Sem.ret tt_ok ?_; conv => whnf) | (refine BS_t (by assumption) ?_; conv => whnf) | (refine BS_f (by assumption) ?_; conv => whnf) | (refine atG (by first | assumption | exact setG_same _ _ _ | (refine Eq.trans (setG_ne _ _ (by first | assumption | exact Ne.symm (by assumption))) ?_; first | assumption | exact setG_same _ _ _ | (refine Eq.trans (setG_ne _ _ (by first | assumption | exact Ne.symm (by assumption))) ?_; first | assumption | exact setG_same _ _ _ | (refine Eq.trans (setG_ne _ _ (by first | assumption | exact Ne.symm (by assumption))) ?_; first | assumption | exact setG_same _ _ _)))) ?_; conv => whnf) | (refine (nthK_iff _ _).2 ⟨_, (by assumption), ?_⟩; conv => whnf) | (refine Exists.intro _ (And.intro (And.intro (by omega) (by assumption)) ?_); conv => whnf) | (refine And.intro (by first | decide | omega) ?_; conv => whnf) | fail)
          exact ⟨_, fun _ _ h => h, rfl⟩
theorem fifoOrder_walk (a : ByteArray) (ha : a.size ≤ 140737488351232) (b : ByteArray) (hb : b.size ≤ 140737488351232) (v : Value) (sl : List ByteArray) {w0 : World} (hr0 : Row w0 v sl 1 (fun x => [.string x])) (hok0 : ∀ x ∈ sl, x.size ≤ 140737488351232) (_ : World) :
    Calls Try.prog 12 #[.string a, .string b, v] w0 (Gives w0 (.bool true)) := by
  refine law_of (fifoOrder_ok a b sl ?_ ha hb hok0) (fun v G h => h) rfl fun i x u hx hu => ?_
  · obtain ⟨p, cap, _, h1, h2, _⟩ := hr0
    unfold maxLen at h2
    omega
  match i with
  | 0 => simp at hx hu; subst hx hu; exact .str _
  | 1 => simp at hx hu; subst hx hu; exact .str _
  | 2 => simp at hx hu; subst hx hu; exact strs_dz hr0 rfl
  | i + 3 => simp at hx

set_option linter.unusedVariables false in
set_option maxRecDepth 100000 in
theorem fifoOrder_contract (H : Type) (enc : TypeId × Value → H) (W : World) (base : Nat) (args : Array Value) (ds gs : List (DataW H)) (before : List MemPlace)
    (hval : ∀ (j : Nat) t v, Try.f12.params[j]? = some t → args[j]? = some v → Value.okWide Try.prog W .any base t v)
    (hW : DataW.Whole enc Try.prog Try.f12.params.toList Rows.fifoOrderSpec.vars false W args.toList ds gs before)
    (hsz : (DataW.weightsEach Try.prog (Try.f12.params.toList ++ (Rows.fifoOrderSpec).plain.varTypes Try.prog) (ds ++ gs)).all (· ≤ reachBytes) = true) :
    Calls Try.prog 12 args W fun e W' => ∃ v, e = .returned v ∧ Rows.fifoOrderSpec.post enc Try.prog Try.f12 false true false false W args v W' := by
  have hW' := hW
  obtain ⟨p, q, hA0, hV, rfl, hfz, hnd⟩ := hW
  have hA : DataW.TrodAll enc Try.prog W 0 (fun _ => true) true Try.f12.params.toList args.toList ds p := hA0
  rw [Try.params12] at hA hval hsz
  obtain ⟨v0, vs0, d0, ds0, p0, q0, hargs, rfl, rfl, h0, r0⟩ := trodAll_cons hA
  obtain ⟨v1, vs1, d1, ds1, p1, q1, rfl, rfl, rfl, h1, r1⟩ := trodAll_cons r0
  obtain ⟨v2, vs2, d2, ds2, p2, q2, rfl, rfl, rfl, h2, r2⟩ := trodAll_cons r1
  obtain ⟨rfl, rfl, rfl⟩ := trodAll_nil r2
  obtain rfl : args = #[v0, v1, v2] := by cases args; simp_all
  obtain ⟨rfl, rfl⟩ := trodVars_none hV
  clear hA0
  obtain ⟨a0, rfl, rfl, rfl, w0⟩ := open_string Try.underlying9 (hval 0 9 v0 rfl rfl) h0
  obtain ⟨a1, rfl, rfl, rfl, w1⟩ := open_string Try.underlying9 (hval 1 9 v1 rfl rfl) h1
  obtain ⟨l2, hr2, hd2⟩ := row_arg (cells := fun x => [.string x]) (R := fun x y => y = .lit (.string x.data.toList) ∧ x.size ≤ maxLen) Try.underlying52 (by kernel_rfl) (by decide) (elem_string Try.underlying9) (hval 2 52 v2 rfl rfl) h2
  have z0 : a0.size ≤ 140737488351232 := by have := sized_string hsz (j := 0) (t := 9) rfl rfl; simpa [reachBytes] using this
  have z1 : a1.size ≤ 140737488351232 := by have := sized_string hsz (j := 1) (t := 9) rfl rfl; simpa [reachBytes] using this
  have hb2 := row_strs hsz (j := 2) (t := 52) rfl rfl Try.underlying52 hd2
  refine (fifoOrder_walk a0 z0 a1 z1 v2 l2 hr2 hb2 W).mono fun e W' ⟨he, hu⟩ => ?_
  subst he
  exact ⟨_, rfl, post_true laidOut (by kernel_rfl) Try.underlying4 rfl rfl hW' rfl hu⟩

theorem fifoOrder_closed : joinedFacts Try.prog 12 Try.f12 Rows.fifoOrderSpec Rows.fifoOrderRow = true := by
  unfold joinedFacts
  rw [fact_mayEnter, fact_lifted, fact_make]
  kernel_rfl

set_option maxRecDepth 100000 in
theorem fifoOrder_lifted (os : Os) (started : os.Started) (H : Type) (enc : TypeId × Value → H) :
    ReturnsInHanded {} Try.checked os 12 .any (Rows.fifoOrderSpec.pre6 enc Try.prog Try.f12 Rows.fifoOrderRow.domain false) (Rows.fifoOrderSpec.post enc Try.prog Try.f12 false true false false) := by
  refine returnsInHanded_of_change_sized (C := Try.checked) own started (by kernel_rfl) Try.func12
    (ChangeSpec.witness6 (enc := enc) (C := Try.checked) false ⟨#[], #[.string ⟨#[]⟩, .string ⟨#[]⟩, .slice none 0 0], []⟩ 8 (by kernel_rfl) (by kernel_rfl) (by kernel_rfl) (by kernel_rfl)) ?_
  intro W base args ds gs before hval hW _ hsz _
  exact fifoOrder_contract H enc W base args ds gs before hval hW hsz

theorem fifoOrder_holds : Rows.FifoOrderSaid :=
  OpenClaim.holds_of_wide 12 Try.f12 rfl rfl rfl rfl rfl rfl rfl ⟨rfl, rfl, rfl, rfl, rfl⟩ rfl rfl rfl rfl rfl (by kernel_rfl) Try.func12 fifoOrder_closed
    (of_decide_eq_true (by kernel_rfl)) (by unfold Func.isWrapper; rw [if_neg (by decide +kernel)]; exact ⟨rfl, rfl⟩)
    (fun os started H enc _ => fifoOrder_lifted os started H enc)
end Go.Proofs.Ytpnlhnhjedopgaa
