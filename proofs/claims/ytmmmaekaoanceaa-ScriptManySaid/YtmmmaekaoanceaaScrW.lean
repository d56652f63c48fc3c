/- The document's Take of events, and Same, in the abstract run. -/
import Derived.Test.YtmmmaekaoanceaaScrV
set_option maxRecDepth 100000
set_option linter.unusedSimpArgs false
namespace Go.Proofs.Ytmmmaekaoanceaa
open Go Go.RowKit Go.Proofs

structure TJ (b : ByteArray) extends TI b where
  g : Gt
  hg : g.Ok b
  hga : g.at_ = a
  hge : g.e = 0
set_option maxHeartbeats 1000000 in
theorem reftakes_ok (b : ByteArray) (G : Glob) (hb : b.size ≤ maxLen) : CallOk Try.prog TT 61 [.str b] G (fun v G' => v = evsV (takesT b) ∧ G' = G) := by
  refine evs_weak ?_
  refine call_sem tt_ok Try.func61 rfl (by kernel_rfl) Try.ntmps61 Try.results61 ?_; conv => whnf
  repeat' (first | (refine Sem.reg tt_ok ?_; conv => whnf) | refine Sem.seqS ?_ | (refine Sem.condS ?_; conv => whnf) | refine Sem.block ?_ | (refine Sem.regL tt_ok ?_; conv => whnf) | (refine Sem.skip tt_ok ?_; conv => whnf) | (refine Sem.exit tt_ok ?_; conv => whnf) | (refine Sem.ret tt_ok ?_; conv => whnf) | (refine BS_t (by assumption) ?_; conv => whnf) | (refine BS_f (by assumption) ?_; conv => whnf) | (refine atG (by first | assumption | exact setG_same _ _ _) ?_; conv => whnf) | (refine (nthK_iff _ _).2 ⟨_, (by assumption), ?_⟩; conv => whnf) | (refine Exists.intro _ (And.intro (And.intro (by omega) (by assumption)) ?_); conv => whnf) | (refine And.intro (by first | decide | omega) ?_; conv => whnf) | fail)
  refine Sem.loop (ι := TJ b) (fun x => ⟨(.str b :: .top :: .nils :: .int .i64 0 :: .own 0 72 (x.out.map Ev.av) :: .lptr 0 0 :: .top :: .top :: .top :: .top :: .top :: .top :: .top :: .top :: .top :: .top :: .top :: .top :: .top :: .top :: .top :: .top :: .top :: .top :: .top :: .top :: .top :: .top :: .top :: .top :: .top :: .top :: .top :: []), [.live none [.int .u64 (x.g.num : Nat), .str x.g.text, .int .i64 (x.g.at_ : Nat), .int .i64 x.g.e]], 1, 1, G⟩) (fun x => b.size - x.a) ⟨⟨0, [], Nat.zero_le _, by simp, (takesR_start b).symm⟩, ⟨0, ⟨#[]⟩, 0, 0⟩, ⟨by simp, Nat.zero_le _, by simp, by simp, by simp⟩, rfl, rfl⟩ ?_ (fun x => ?_)
  · refine weak_by [none] ?_; (conv => whnf); repeat (first | (refine And.intro rfl ?_; conv => whnf) | fail)
    exact ⟨fun i y hy => hy, rfl, Nat.le_refl _, rfl, rfl⟩
  repeat' (first | (refine Sem.reg tt_ok ?_; conv => whnf) | refine Sem.seqS ?_ | (refine Sem.condS ?_; conv => whnf) | refine Sem.block ?_ | (refine Sem.regL tt_ok ?_; conv => whnf) | (refine Sem.skip tt_ok ?_; conv => whnf) | (refine Sem.exit tt_ok ?_; conv => whnf) | (refine Sem.ret tt_ok ?_; conv => whnf) | (refine BS_t (by assumption) ?_; conv => whnf) | (refine BS_f (by assumption) ?_; conv => whnf) | (refine atG (by first | assumption | exact setG_same _ _ _) ?_; conv => whnf) | (refine (nthK_iff _ _).2 ⟨_, (by assumption), ?_⟩; conv => whnf) | (refine Exists.intro _ (And.intro (And.intro (by omega) (by assumption)) ?_); conv => whnf) | (refine And.intro (by first | decide | omega) ?_; conv => whnf) | fail)
  obtain ⟨⟨a, out, ha, hl, h⟩, g, hg, hga, hge⟩ := x
  simp only at hga hge
  obtain ⟨num, text, at_, e⟩ := g
  simp only at hga hge
  subst hga hge
  by_cases hs : at_ < b.size
  · have hs0 : ¬ b.size ≤ at_ := by omega
    have c0 : decide (((at_ : Nat) : Int) < ((b.size : Nat) : Int)) = true := by simp; omega
    repeat' (first | (refine Sem.reg tt_ok ?_; conv => whnf) | refine Sem.seqS ?_ | (refine Sem.condS ?_; conv => whnf) | refine Sem.block ?_ | (refine Sem.regL tt_ok ?_; conv => whnf) | (refine Sem.skip tt_ok ?_; conv => whnf) | (refine Sem.exit tt_ok ?_; conv => whnf) | (refine Sem.ret tt_ok ?_; conv => whnf) | (refine BS_t (by assumption) ?_; conv => whnf) | (refine BS_f (by assumption) ?_; conv => whnf) | (refine atG (by first | assumption | exact setG_same _ _ _) ?_; conv => whnf) | (refine (nthK_iff _ _).2 ⟨_, (by assumption), ?_⟩; conv => whnf) | (refine Exists.intro _ (And.intro (And.intro (by omega) (by assumption)) ?_); conv => whnf) | (refine And.intro (by first | decide | omega) ?_; conv => whnf) | fail)
    by_cases hm : out.length = 1024
    · have c1 : ((((out.map Ev.av).length : Nat) : Int) == 1024) = true := by simp [hm]
      repeat' (first | (refine Sem.reg tt_ok ?_; conv => whnf) | refine Sem.seqS ?_ | (refine Sem.condS ?_; conv => whnf) | refine Sem.block ?_ | (refine Sem.regL tt_ok ?_; conv => whnf) | (refine Sem.skip tt_ok ?_; conv => whnf) | (refine Sem.exit tt_ok ?_; conv => whnf) | (refine Sem.ret tt_ok ?_; conv => whnf) | (refine BS_t (by assumption) ?_; conv => whnf) | (refine BS_f (by assumption) ?_; conv => whnf) | (refine atG (by first | assumption | exact setG_same _ _ _) ?_; conv => whnf) | (refine (nthK_iff _ _).2 ⟨_, (by assumption), ?_⟩; conv => whnf) | (refine Exists.intro _ (And.intro (And.intro (by omega) (by assumption)) ?_); conv => whnf) | (refine And.intro (by first | decide | omega) ?_; conv => whnf) | fail)
      refine ⟨G, fun _ _ h => h, .inr ?_, rfl⟩
      rw [h, takesR_many hs0 hm]
      exact ⟨rfl, rfl⟩
    · have c1 : ((((out.map Ev.av).length : Nat) : Int) == 1024) = false := by rw [beq_eq_false_iff_ne]; simp; omega
      repeat' (first | (refine Sem.reg tt_ok ?_; conv => whnf) | refine Sem.seqS ?_ | (refine Sem.condS ?_; conv => whnf) | refine Sem.block ?_ | (refine Sem.regL tt_ok ?_; conv => whnf) | (refine Sem.skip tt_ok ?_; conv => whnf) | (refine Sem.exit tt_ok ?_; conv => whnf) | (refine Sem.ret tt_ok ?_; conv => whnf) | (refine BS_t (by assumption) ?_; conv => whnf) | (refine BS_f (by assumption) ?_; conv => whnf) | (refine atG (by first | assumption | exact setG_same _ _ _) ?_; conv => whnf) | (refine (nthK_iff _ _).2 ⟨_, (by assumption), ?_⟩; conv => whnf) | (refine Exists.intro _ (And.intro (And.intro (by omega) (by assumption)) ?_); conv => whnf) | (refine And.intro (by first | decide | omega) ?_; conv => whnf) | fail)
      refine (refnext43_ok b ⟨num, text, at_, 0⟩ G hb hg rfl).mono fun v G' hv => ?_
      obtain ⟨rfl, x1, x2, x3, x4, g', rfl, hge, hr⟩ := hv
      simp only at hge hr
      obtain ⟨num', text', at', e'⟩ := g'
      simp only at hge hr
      subst hge
      conv => whnf
      by_cases he : (evT b at_).2.2 = 0
      · have c2 : ((evT b at_).2.2 != 0) = false := by simp [he]
        obtain ⟨hx, rfl, hg'⟩ := hr he
        repeat' (first | (refine Sem.reg tt_ok ?_; conv => whnf) | refine Sem.seqS ?_ | (refine Sem.condS ?_; conv => whnf) | refine Sem.block ?_ | (refine Sem.regL tt_ok ?_; conv => whnf) | (refine Sem.skip tt_ok ?_; conv => whnf) | (refine Sem.exit tt_ok ?_; conv => whnf) | (refine Sem.ret tt_ok ?_; conv => whnf) | (refine BS_t (by assumption) ?_; conv => whnf) | (refine BS_f (by assumption) ?_; conv => whnf) | (refine atG (by first | assumption | exact setG_same _ _ _) ?_; conv => whnf) | (refine (nthK_iff _ _).2 ⟨_, (by assumption), ?_⟩; conv => whnf) | (refine Exists.intro _ (And.intro (And.intro (by omega) (by assumption)) ?_); conv => whnf) | (refine And.intro (by first | decide | omega) ?_; conv => whnf) | fail)
        refine And.intro (app_le (by simp only [List.length_map, List.length_cons, List.length_nil]; omega) (by decide)) ?_; conv => whnf
        repeat' (first | (refine Sem.reg tt_ok ?_; conv => whnf) | refine Sem.seqS ?_ | (refine Sem.condS ?_; conv => whnf) | refine Sem.block ?_ | (refine Sem.regL tt_ok ?_; conv => whnf) | (refine Sem.skip tt_ok ?_; conv => whnf) | (refine Sem.exit tt_ok ?_; conv => whnf) | (refine Sem.ret tt_ok ?_; conv => whnf) | (refine BS_t (by assumption) ?_; conv => whnf) | (refine BS_f (by assumption) ?_; conv => whnf) | (refine atG (by first | assumption | exact setG_same _ _ _) ?_; conv => whnf) | (refine (nthK_iff _ _).2 ⟨_, (by assumption), ?_⟩; conv => whnf) | (refine Exists.intro _ (And.intro (And.intro (by omega) (by assumption)) ?_); conv => whnf) | (refine And.intro (by first | decide | omega) ?_; conv => whnf) | fail)
        have hmv := evT_moves ha he
        refine ⟨⟨⟨(evT b at_).2.1, out ++ [(evT b at_).1], hmv.2, by simp; omega, h.trans (takesR_next ha hs0 hm he)⟩, ⟨num', text', (evT b at_).2.1, (evT b at_).2.2⟩, hg', rfl, he⟩, by show b.size - (evT b at_).2.1 < b.size - at_; omega, ?_⟩
        refine weak_by [some 0] ?_; (conv => whnf); repeat (first | (refine And.intro rfl ?_; conv => whnf) | fail)
        refine And.intro (by simp [hx]) ?_
        (conv => whnf); repeat (first | (refine And.intro rfl ?_; conv => whnf) | fail)
        exact ⟨fun i y hy => hy, rfl, Nat.le_add_left _ _, rfl, rfl⟩
      · have c2 : ((evT b at_).2.2 != 0) = true := by simp [he]
        repeat' (first | (refine Sem.reg tt_ok ?_; conv => whnf) | refine Sem.seqS ?_ | (refine Sem.condS ?_; conv => whnf) | refine Sem.block ?_ | (refine Sem.regL tt_ok ?_; conv => whnf) | (refine Sem.skip tt_ok ?_; conv => whnf) | (refine Sem.exit tt_ok ?_; conv => whnf) | (refine Sem.ret tt_ok ?_; conv => whnf) | (refine BS_t (by assumption) ?_; conv => whnf) | (refine BS_f (by assumption) ?_; conv => whnf) | (refine atG (by first | assumption | exact setG_same _ _ _) ?_; conv => whnf) | (refine (nthK_iff _ _).2 ⟨_, (by assumption), ?_⟩; conv => whnf) | (refine Exists.intro _ (And.intro (And.intro (by omega) (by assumption)) ?_); conv => whnf) | (refine And.intro (by first | decide | omega) ?_; conv => whnf) | fail)
        refine draw_sound (eff := []) tt_ok (by kernel_rfl) (by kernel_rfl) ?_; conv => whnf
        repeat' (first | (refine BS_t (by assumption) ?_; conv => whnf) | (refine BS_f (by assumption) ?_; conv => whnf) | (refine atG (by first | assumption | exact setG_same _ _ _) ?_; conv => whnf) | (refine (nthK_iff _ _).2 ⟨_, (by assumption), ?_⟩; conv => whnf) | (refine Exists.intro _ (And.intro (And.intro (by omega) (by assumption)) ?_); conv => whnf) | (refine And.intro (by first | decide | omega) ?_; conv => whnf) | fail)
        repeat' (first | (refine Sem.reg tt_ok ?_; conv => whnf) | refine Sem.seqS ?_ | (refine Sem.condS ?_; conv => whnf) | refine Sem.block ?_ | (refine Sem.regL tt_ok ?_; conv => whnf) | (refine Sem.skip tt_ok ?_; conv => whnf) | (refine Sem.exit tt_ok ?_; conv => whnf) | (refine Sem.ret tt_ok ?_; conv => whnf) | (refine BS_t (by assumption) ?_; conv => whnf) | (refine BS_f (by assumption) ?_; conv => whnf) | (refine atG (by first | assumption | exact setG_same _ _ _) ?_; conv => whnf) | (refine (nthK_iff _ _).2 ⟨_, (by assumption), ?_⟩; conv => whnf) | (refine Exists.intro _ (And.intro (And.intro (by omega) (by assumption)) ?_); conv => whnf) | (refine And.intro (by first | decide | omega) ?_; conv => whnf) | fail)
        refine ⟨_, fun _ _ h => h, .inr ?_, rfl⟩
        rw [h, takesR_bad hs0 hm he]
        exact ⟨rfl, rfl⟩
  · have c0 : decide (((at_ : Nat) : Int) < ((b.size : Nat) : Int)) = false := by simp; omega
    repeat' (first | (refine Sem.reg tt_ok ?_; conv => whnf) | refine Sem.seqS ?_ | (refine Sem.condS ?_; conv => whnf) | refine Sem.block ?_ | (refine Sem.regL tt_ok ?_; conv => whnf) | (refine Sem.skip tt_ok ?_; conv => whnf) | (refine Sem.exit tt_ok ?_; conv => whnf) | (refine Sem.ret tt_ok ?_; conv => whnf) | (refine BS_t (by assumption) ?_; conv => whnf) | (refine BS_f (by assumption) ?_; conv => whnf) | (refine atG (by first | assumption | exact setG_same _ _ _) ?_; conv => whnf) | (refine (nthK_iff _ _).2 ⟨_, (by assumption), ?_⟩; conv => whnf) | (refine Exists.intro _ (And.intro (And.intro (by omega) (by assumption)) ?_); conv => whnf) | (refine And.intro (by first | decide | omega) ?_; conv => whnf) | fail)
    refine ⟨G, fun _ _ h => h, .inl ?_, rfl⟩
    rw [h, takesR_end _ (by omega)]
    rfl
theorem ev_same (v : Ev) : (!(v.kind == v.kind && (v.conn == v.conn && ((((v.num : Nat) : Int) == ((v.num : Nat) : Int)) && (v.bytes.toList == v.bytes.toList && true))))) = false := by simp
theorem same43_ok (l : List Ev) (G : Glob) (hl : l.length ≤ 1048576) : CallOk Try.prog TT 62 [.slc 72 (l.map Ev.av), .slc 72 (l.map Ev.av)] G (fun v G' => v = .bool true ∧ G' = G) := by
  have c0 : ((((l.map Ev.av).length : Nat) : Int) != (((l.map Ev.av).length : Nat) : Int)) = false := by simp
  refine call_sem tt_ok Try.func62 rfl (by kernel_rfl) Try.ntmps62 Try.results62 ?_; conv => whnf
  repeat' (first | (refine Sem.reg tt_ok ?_; conv => whnf) | refine Sem.seqS ?_ | (refine Sem.condS ?_; conv => whnf) | refine Sem.block ?_ | (refine Sem.regL tt_ok ?_; conv => whnf) | (refine Sem.skip tt_ok ?_; conv => whnf) | (refine Sem.exit tt_ok ?_; conv => whnf) | (refine Sem.ret tt_ok ?_; conv => whnf) | (refine BS_t (by assumption) ?_; conv => whnf) | (refine BS_f (by assumption) ?_; conv => whnf) | (refine atG (by first | assumption | exact setG_same _ _ _) ?_; conv => whnf) | (refine (nthK_iff _ _).2 ⟨_, (by assumption), ?_⟩; conv => whnf) | (refine Exists.intro _ (And.intro (And.intro (by omega) (by assumption)) ?_); conv => whnf) | (refine And.intro (by first | decide | omega) ?_; conv => whnf) | fail)
  refine Sem.loop (ι := {k : Nat // k ≤ l.length}) (fun x => ⟨(.slc 72 (l.map Ev.av) :: .slc 72 (l.map Ev.av) :: .top :: .top :: .top :: .int .i64 (x.1 : Nat) :: .top :: .top :: .top :: .top :: .top :: .top :: .top :: .top :: .top :: .top :: .top :: .top :: .top :: .top :: .top :: .top :: .top :: .top :: .top :: .top :: []), [], 0, 0, G⟩) (fun x => l.length - x.1) ⟨0, Nat.zero_le _⟩ ?_ (fun x => ?_)
  · refine weak_by [] ?_; (conv => whnf); repeat (first | (refine And.intro rfl ?_; conv => whnf) | fail)
    exact ⟨fun i x hx => hx, rfl, Nat.zero_le _, rfl, rfl⟩
  obtain ⟨k, hk0⟩ := x
  repeat' (first | (refine Sem.reg tt_ok ?_; conv => whnf) | refine Sem.seqS ?_ | (refine Sem.condS ?_; conv => whnf) | refine Sem.block ?_ | (refine Sem.regL tt_ok ?_; conv => whnf) | (refine Sem.skip tt_ok ?_; conv => whnf) | (refine Sem.exit tt_ok ?_; conv => whnf) | (refine Sem.ret tt_ok ?_; conv => whnf) | (refine BS_t (by assumption) ?_; conv => whnf) | (refine BS_f (by assumption) ?_; conv => whnf) | (refine atG (by first | assumption | exact setG_same _ _ _) ?_; conv => whnf) | (refine (nthK_iff _ _).2 ⟨_, (by assumption), ?_⟩; conv => whnf) | (refine Exists.intro _ (And.intro (And.intro (by omega) (by assumption)) ?_); conv => whnf) | (refine And.intro (by first | decide | omega) ?_; conv => whnf) | fail)
  refine BS_intro (fun hk => ?_) (fun hk => ?_) <;> conv => whnf
  · have hks : k < l.length := by simp at hk; omega
    clear hk
    obtain ⟨v, hv⟩ : ∃ v, l[k]? = some v := ⟨_, List.getElem?_eq_getElem hks⟩
    have hsm : (l.map Ev.av)[((k : Nat) : Int).toNat]? = some v.av := by rw [Int.toNat_natCast, List.getElem?_map, hv]; rfl
    have hne := ev_same v
    repeat' (first | (refine Sem.reg tt_ok ?_; conv => whnf) | refine Sem.seqS ?_ | (refine Sem.condS ?_; conv => whnf) | refine Sem.block ?_ | (refine Sem.regL tt_ok ?_; conv => whnf) | (refine Sem.skip tt_ok ?_; conv => whnf) | (refine Sem.exit tt_ok ?_; conv => whnf) | (refine Sem.ret tt_ok ?_; conv => whnf) | (refine BS_t (by assumption) ?_; conv => whnf) | (refine BS_f (by assumption) ?_; conv => whnf) | (refine atG (by first | assumption | exact setG_same _ _ _) ?_; conv => whnf) | (refine (nthK_iff _ _).2 ⟨_, (by assumption), ?_⟩; conv => whnf) | (refine Exists.intro _ (And.intro (And.intro (by omega) (by assumption)) ?_); conv => whnf) | (refine And.intro (by first | decide | omega) ?_; conv => whnf) | fail)
    refine draw_sound (eff := []) tt_ok (by kernel_rfl) (by kernel_rfl) ?_; conv => whnf
    repeat' (first | (refine BS_t (by assumption) ?_; conv => whnf) | (refine BS_f (by assumption) ?_; conv => whnf) | (refine atG (by first | assumption | exact setG_same _ _ _) ?_; conv => whnf) | (refine (nthK_iff _ _).2 ⟨_, (by assumption), ?_⟩; conv => whnf) | (refine Exists.intro _ (And.intro (And.intro (by omega) (by assumption)) ?_); conv => whnf) | (refine And.intro (by first | decide | omega) ?_; conv => whnf) | fail)
    repeat' (first | (refine Sem.reg tt_ok ?_; conv => whnf) | refine Sem.seqS ?_ | (refine Sem.condS ?_; conv => whnf) | refine Sem.block ?_ | (refine Sem.regL tt_ok ?_; conv => whnf) | (refine Sem.skip tt_ok ?_; conv => whnf) | (refine Sem.exit tt_ok ?_; conv => whnf) | (refine Sem.ret tt_ok ?_; conv => whnf) | (refine BS_t (by assumption) ?_; conv => whnf) | (refine BS_f (by assumption) ?_; conv => whnf) | (refine atG (by first | assumption | exact setG_same _ _ _) ?_; conv => whnf) | (refine (nthK_iff _ _).2 ⟨_, (by assumption), ?_⟩; conv => whnf) | (refine Exists.intro _ (And.intro (And.intro (by omega) (by assumption)) ?_); conv => whnf) | (refine And.intro (by first | decide | omega) ?_; conv => whnf) | fail)
    refine ⟨⟨k + 1, by omega⟩, by show l.length - (k + 1) < l.length - k; omega, ?_⟩
    refine weak_by [] ?_; (conv => whnf); repeat (first | (refine And.intro rfl ?_; conv => whnf) | fail)
    have hw : IntKind.i64.wrap ((k : Int) + 1) = ((k + 1 : Nat) : Int) := by rw [IntWalk.i64_in _ (by omega)]; omega
    refine And.intro hw ?_
    (conv => whnf); repeat (first | (refine And.intro rfl ?_; conv => whnf) | fail)
    exact ⟨fun i y hy => hy, rfl, Nat.zero_le _, rfl, rfl⟩
  · repeat' (first | (refine Sem.reg tt_ok ?_; conv => whnf) | refine Sem.seqS ?_ | (refine Sem.condS ?_; conv => whnf) | refine Sem.block ?_ | (refine Sem.regL tt_ok ?_; conv => whnf) | (refine Sem.skip tt_ok ?_; conv => whnf) | (refine Sem.exit tt_ok ?_; conv => whnf) | (refine Sem.ret tt_ok ?_; conv => whnf) | (refine BS_t (by assumption) ?_; conv => whnf) | (refine BS_f (by assumption) ?_; conv => whnf) | (refine atG (by first | assumption | exact setG_same _ _ _) ?_; conv => whnf) | (refine (nthK_iff _ _).2 ⟨_, (by assumption), ?_⟩; conv => whnf) | (refine Exists.intro _ (And.intro (And.intro (by omega) (by assumption)) ?_); conv => whnf) | (refine And.intro (by first | decide | omega) ?_; conv => whnf) | fail)
    exact ⟨_, fun _ _ h => h, rfl, rfl⟩
end Go.Proofs.Ytmmmaekaoanceaa
