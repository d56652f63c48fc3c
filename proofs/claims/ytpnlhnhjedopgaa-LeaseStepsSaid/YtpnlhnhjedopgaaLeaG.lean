/- lease's drop, Free and Expire in the abstract run. -/
import Derived.Test.YtpnlhnhjedopgaaLeaP
import Derived.Test.YtpnlhnhjedopgaaLnaA
set_option maxRecDepth 100000
set_option linter.unusedSimpArgs false
namespace Go.Proofs.Ytpnlhnhjedopgaa
open Go Go.RowKit Go.Proofs

theorem ldrop_ok (G : Glob) (b : Nat) (mv : AV) (n : Int) (l : LeL) (k x : ByteArray) (u : Int) (hk : k.size ≤ 140737488351232) (hx : x.size ≤ 140737488351232) (n0 : 0 ≤ n) (n1 : n ≤ 4611686018427387904) (h : StG G b mv n (bk lav l)) (hq : lget l k = some (x, u)) :
    CallOk Try.prog TT 111 [.gptr b 0, .str k] G (fun v G' => v = .tup [] ∧ StG G' b mv (n - (24 + k.size + x.size)) (bk lav (ldel l k)) ∧ Kept G G' b mv mv) := by
  have i1 : IntKind.i64.wrap (24 + (k.size : Int)) = 24 + k.size := IntWalk.i64_in _ (by omega)
  have i2 : IntKind.i64.wrap (24 + (k.size : Int) + x.size) = 24 + k.size + x.size := IntWalk.i64_in _ (by omega)
  have i3 : IntKind.i64.wrap (n - (24 + (k.size : Int) + x.size)) = n - (24 + k.size + x.size) := IntWalk.i64_in _ (by omega)
  obtain ⟨h1, ⟨rfl, hl⟩ | ⟨mb, rfl, h2⟩⟩ := h
  · cases lbk_nil hl
    cases hq
  · have hne : mb ≠ b := by rintro rfl; simp [h1] at h2
    refine call_sem tt_ok Try.func111 rfl (by kernel_rfl) Try.ntmps111 Try.results111 ?_; conv => whnf
    repeat' (first | ((first | refine Sem.reg tt_ok ?_ | refine Sem.condS ?_ | refine Sem.regL tt_ok ?_ | refine Sem.skip tt_ok ?_ | refine Sem.exit tt_ok ?_ | refine Sem.ret tt_ok ?_ | refine BS_t (by assumption) ?_ | refine BS_f (by assumption) ?_ | refine atG (by repeat (first | assumption | exact setG_same _ _ _ | refine Eq.trans (setG_ne _ _ (by first | assumption | exact Ne.symm (by assumption))) ?_)) ?_ | refine (nthK_iff _ _).2 ⟨_, (by assumption), ?_⟩ | refine ⟨_, ⟨(by omega), (by assumption)⟩, ?_⟩ | refine And.intro (by first | decide | omega) ?_ | fail); conv => whnf) | refine Sem.seqS ?_ | refine Sem.block ?_ | fail)
    refine draw_sound (eff := []) tt_ok (by kernel_rfl) (by kernel_rfl) ?_; conv => whnf
    repeat' (first | ((first | refine BS_t (by assumption) ?_ | refine BS_f (by assumption) ?_ | refine atG (by repeat (first | assumption | exact setG_same _ _ _ | refine Eq.trans (setG_ne _ _ (by first | assumption | exact Ne.symm (by assumption))) ?_)) ?_ | refine (nthK_iff _ _).2 ⟨_, (by assumption), ?_⟩ | refine ⟨_, ⟨(by omega), (by assumption)⟩, ?_⟩ | refine And.intro (by first | decide | omega) ?_ | fail); conv => whnf) | fail)
    refine ⟨_, h2, _, (bk_get lav k l).trans (congrArg _ hq), ?_⟩
    conv => whnf
    repeat' (first | ((first | refine BS_t (by assumption) ?_ | refine BS_f (by assumption) ?_ | refine atG (by repeat (first | assumption | exact setG_same _ _ _ | refine Eq.trans (setG_ne _ _ (by first | assumption | exact Ne.symm (by assumption))) ?_)) ?_ | refine (nthK_iff _ _).2 ⟨_, (by assumption), ?_⟩ | refine ⟨_, ⟨(by omega), (by assumption)⟩, ?_⟩ | refine And.intro (by first | decide | omega) ?_ | fail); conv => whnf) | fail)
    rw [i1, i2, i3]
    repeat' (first | ((first | refine Sem.reg tt_ok ?_ | refine Sem.condS ?_ | refine Sem.regL tt_ok ?_ | refine Sem.skip tt_ok ?_ | refine Sem.exit tt_ok ?_ | refine Sem.ret tt_ok ?_ | refine BS_t (by assumption) ?_ | refine BS_f (by assumption) ?_ | refine atG (by repeat (first | assumption | exact setG_same _ _ _ | refine Eq.trans (setG_ne _ _ (by first | assumption | exact Ne.symm (by assumption))) ?_)) ?_ | refine (nthK_iff _ _).2 ⟨_, (by assumption), ?_⟩ | refine ⟨_, ⟨(by omega), (by assumption)⟩, ?_⟩ | refine And.intro (by first | decide | omega) ?_ | fail); conv => whnf) | refine Sem.seqS ?_ | refine Sem.block ?_ | fail)
    refine Exists.intro _ (And.intro (by repeat (first | assumption | exact setG_same _ _ _ | refine Eq.trans (setG_ne _ _ (by first | assumption | exact Ne.symm (by assumption))) ?_)) ?_); conv => whnf
    repeat' (first | ((first | refine Sem.reg tt_ok ?_ | refine Sem.condS ?_ | refine Sem.regL tt_ok ?_ | refine Sem.skip tt_ok ?_ | refine Sem.exit tt_ok ?_ | refine Sem.ret tt_ok ?_ | refine BS_t (by assumption) ?_ | refine BS_f (by assumption) ?_ | refine atG (by repeat (first | assumption | exact setG_same _ _ _ | refine Eq.trans (setG_ne _ _ (by first | assumption | exact Ne.symm (by assumption))) ?_)) ?_ | refine (nthK_iff _ _).2 ⟨_, (by assumption), ?_⟩ | refine ⟨_, ⟨(by omega), (by assumption)⟩, ?_⟩ | refine And.intro (by first | decide | omega) ?_ | fail); conv => whnf) | refine Sem.seqS ?_ | refine Sem.block ?_ | fail)
    refine ⟨_, fun _ _ h => h, rfl, ⟨by repeat (first | assumption | exact setG_same _ _ _ | refine Eq.trans (setG_ne _ _ (by first | assumption | exact Ne.symm (by assumption))) ?_), .inr ⟨mb, rfl, (setG_same _ _ _).trans (congrArg (fun z => some (GB.map none z)) (bk_del lav k l))⟩⟩, .inl rfl, fun i x hi hb hm => ?_⟩
    have : i ≠ mb := by rintro rfl; exact hm rfl
    simpa [setG, hb, this] using hi
theorem lfree_none (G : Glob) (b : Nat) (mv : AV) (n : Int) (l : LeL) (k v : ByteArray) (h : StG G b mv n (bk lav l)) (hq : lget l k = none) :
    CallOk Try.prog TT 71 [.gptr b 0, .str k, .str v] G (fun v G' => v = .bool false ∧ G' = G) := by
  have hg := lhold_ok G b mv n l k h
  unfold hold at hg
  simp only [hq] at hg
  refine call_sem tt_ok Try.func71 rfl (by kernel_rfl) Try.ntmps71 Try.results71 ?_; conv => whnf
  repeat' (first | ((first | refine Sem.reg tt_ok ?_ | refine Sem.condS ?_ | refine Sem.regL tt_ok ?_ | refine Sem.skip tt_ok ?_ | refine Sem.exit tt_ok ?_ | refine Sem.ret tt_ok ?_ | refine BS_t (by assumption) ?_ | refine BS_f (by assumption) ?_ | refine atG (by repeat (first | assumption | exact setG_same _ _ _ | refine Eq.trans (setG_ne _ _ (by first | assumption | exact Ne.symm (by assumption))) ?_)) ?_ | refine (nthK_iff _ _).2 ⟨_, (by assumption), ?_⟩ | refine ⟨_, ⟨(by omega), (by assumption)⟩, ?_⟩ | refine And.intro (by first | decide | omega) ?_ | fail); conv => whnf) | refine Sem.seqS ?_ | refine Sem.block ?_ | fail)
  refine hg.on ?_; conv => whnf
  repeat' (first | ((first | refine Sem.reg tt_ok ?_ | refine Sem.condS ?_ | refine Sem.regL tt_ok ?_ | refine Sem.skip tt_ok ?_ | refine Sem.exit tt_ok ?_ | refine Sem.ret tt_ok ?_ | refine BS_t (by assumption) ?_ | refine BS_f (by assumption) ?_ | refine atG (by repeat (first | assumption | exact setG_same _ _ _ | refine Eq.trans (setG_ne _ _ (by first | assumption | exact Ne.symm (by assumption))) ?_)) ?_ | refine (nthK_iff _ _).2 ⟨_, (by assumption), ?_⟩ | refine ⟨_, ⟨(by omega), (by assumption)⟩, ?_⟩ | refine And.intro (by first | decide | omega) ?_ | fail); conv => whnf) | refine Sem.seqS ?_ | refine Sem.block ?_ | fail)
  exact ⟨_, fun _ _ h => h, rfl, rfl⟩
theorem lfree_no (G : Glob) (b : Nat) (mv : AV) (n : Int) (l : LeL) (k v x : ByteArray) (u : Int) (h : StG G b mv n (bk lav l)) (hq : lget l k = some (x, u)) (hx : x ≠ v) :
    CallOk Try.prog TT 71 [.gptr b 0, .str k, .str v] G (fun v G' => v = .bool false ∧ G' = G) := by
  have hg := lhold_ok G b mv n l k h
  unfold hold at hg
  simp only [hq] at hg
  have e1 : (!(x.toList == v.toList)) = true := by rw [bl_eq]; simp [hx]
  refine call_sem tt_ok Try.func71 rfl (by kernel_rfl) Try.ntmps71 Try.results71 ?_; conv => whnf
  repeat' (first | ((first | refine Sem.reg tt_ok ?_ | refine Sem.condS ?_ | refine Sem.regL tt_ok ?_ | refine Sem.skip tt_ok ?_ | refine Sem.exit tt_ok ?_ | refine Sem.ret tt_ok ?_ | refine BS_t (by assumption) ?_ | refine BS_f (by assumption) ?_ | refine atG (by repeat (first | assumption | exact setG_same _ _ _ | refine Eq.trans (setG_ne _ _ (by first | assumption | exact Ne.symm (by assumption))) ?_)) ?_ | refine (nthK_iff _ _).2 ⟨_, (by assumption), ?_⟩ | refine ⟨_, ⟨(by omega), (by assumption)⟩, ?_⟩ | refine And.intro (by first | decide | omega) ?_ | fail); conv => whnf) | refine Sem.seqS ?_ | refine Sem.block ?_ | fail)
  refine hg.on ?_; conv => whnf
  repeat' (first | ((first | refine Sem.reg tt_ok ?_ | refine Sem.condS ?_ | refine Sem.regL tt_ok ?_ | refine Sem.skip tt_ok ?_ | refine Sem.exit tt_ok ?_ | refine Sem.ret tt_ok ?_ | refine BS_t (by assumption) ?_ | refine BS_f (by assumption) ?_ | refine atG (by repeat (first | assumption | exact setG_same _ _ _ | refine Eq.trans (setG_ne _ _ (by first | assumption | exact Ne.symm (by assumption))) ?_)) ?_ | refine (nthK_iff _ _).2 ⟨_, (by assumption), ?_⟩ | refine ⟨_, ⟨(by omega), (by assumption)⟩, ?_⟩ | refine And.intro (by first | decide | omega) ?_ | fail); conv => whnf) | refine Sem.seqS ?_ | refine Sem.block ?_ | fail)
  exact ⟨_, fun _ _ h => h, rfl, rfl⟩
theorem lfree_ok (G : Glob) (b : Nat) (mv : AV) (n : Int) (l : LeL) (k v : ByteArray) (u : Int) (hk : k.size ≤ 140737488351232) (hx : v.size ≤ 140737488351232) (n0 : 0 ≤ n) (n1 : n ≤ 4611686018427387904) (h : StG G b mv n (bk lav l)) (hq : lget l k = some (v, u)) :
    CallOk Try.prog TT 71 [.gptr b 0, .str k, .str v] G (fun x G' => x = .bool true ∧ StG G' b mv (n - (24 + k.size + v.size)) (bk lav (ldel l k)) ∧ Kept G G' b mv mv) := by
  have hg := lhold_ok G b mv n l k h
  have hd := ldrop_ok G b mv n l k v u hk hx n0 n1 h hq
  unfold hold at hg
  simp only [hq] at hg
  have e1 : (!(v.toList == v.toList)) = false := by simp
  refine call_sem tt_ok Try.func71 rfl (by kernel_rfl) Try.ntmps71 Try.results71 ?_; conv => whnf
  repeat' (first | ((first | refine Sem.reg tt_ok ?_ | refine Sem.condS ?_ | refine Sem.regL tt_ok ?_ | refine Sem.skip tt_ok ?_ | refine Sem.exit tt_ok ?_ | refine Sem.ret tt_ok ?_ | refine BS_t (by assumption) ?_ | refine BS_f (by assumption) ?_ | refine atG (by repeat (first | assumption | exact setG_same _ _ _ | refine Eq.trans (setG_ne _ _ (by first | assumption | exact Ne.symm (by assumption))) ?_)) ?_ | refine (nthK_iff _ _).2 ⟨_, (by assumption), ?_⟩ | refine ⟨_, ⟨(by omega), (by assumption)⟩, ?_⟩ | refine And.intro (by first | decide | omega) ?_ | fail); conv => whnf) | refine Sem.seqS ?_ | refine Sem.block ?_ | fail)
  refine hg.on ?_; conv => whnf
  repeat' (first | ((first | refine Sem.reg tt_ok ?_ | refine Sem.condS ?_ | refine Sem.regL tt_ok ?_ | refine Sem.skip tt_ok ?_ | refine Sem.exit tt_ok ?_ | refine Sem.ret tt_ok ?_ | refine BS_t (by assumption) ?_ | refine BS_f (by assumption) ?_ | refine atG (by repeat (first | assumption | exact setG_same _ _ _ | refine Eq.trans (setG_ne _ _ (by first | assumption | exact Ne.symm (by assumption))) ?_)) ?_ | refine (nthK_iff _ _).2 ⟨_, (by assumption), ?_⟩ | refine ⟨_, ⟨(by omega), (by assumption)⟩, ?_⟩ | refine And.intro (by first | decide | omega) ?_ | fail); conv => whnf) | refine Sem.seqS ?_ | refine Sem.block ?_ | fail)
  refine (hd).mono fun v G1 hv => ?_; obtain ⟨rfl, h1, k1⟩ := hv; conv => whnf
  repeat' (first | ((first | refine Sem.reg tt_ok ?_ | refine Sem.condS ?_ | refine Sem.regL tt_ok ?_ | refine Sem.skip tt_ok ?_ | refine Sem.exit tt_ok ?_ | refine Sem.ret tt_ok ?_ | refine BS_t (by assumption) ?_ | refine BS_f (by assumption) ?_ | refine atG (by repeat (first | assumption | exact setG_same _ _ _ | refine Eq.trans (setG_ne _ _ (by first | assumption | exact Ne.symm (by assumption))) ?_)) ?_ | refine (nthK_iff _ _).2 ⟨_, (by assumption), ?_⟩ | refine ⟨_, ⟨(by omega), (by assumption)⟩, ?_⟩ | refine And.intro (by first | decide | omega) ?_ | fail); conv => whnf) | refine Sem.seqS ?_ | refine Sem.block ?_ | fail)
  exact ⟨_, fun _ _ h => h, rfl, h1, k1⟩
structure EI (G0 : Glob) (b : Nat) (mv : AV) (m : LeL) (now : Int) where
  i : Nat
  hi : i ≤ (keyL m).length
  G : Glob
  H : StG G b mv (sizeL (goneL m now i)) (bk lav (goneL m now i))
  K : Kept G0 G b mv mv
theorem Kept.trans1 {G G1 G2 : Glob} {b : Nat} {mv : AV} (h : Kept G G1 b mv mv) (h' : Kept G1 G2 b mv mv) : Kept G G2 b mv mv :=
  ⟨.inl rfl, fun i x hi hb hm => h'.2 i x (h.2 i x hi hb hm) hb hm⟩
theorem lexpire_ok (G : Glob) (b : Nat) (mv : AV) (l : LeL) (now : Int) (hn : (l.map (·.1)).Nodup) (hl : l.length ≤ 1000000) (hs : ∀ x ∈ l, x.1.size ≤ 140737488351232 ∧ x.2.1.size ≤ 140737488351232) (n1 : sizeL l ≤ 4611686018427387904) (h : StG G b mv (sizeL l) (bk lav l)) :
    CallOk Try.prog TT 72 [.gptr b 0, .int .i64 now] G (fun v G' => v = .tup [] ∧ StG G' b mv (sizeL (liveL now l)) (bk lav (liveL now l)) ∧ Kept G G' b mv mv) := by
  have hnm := lnames_ok G b mv (sizeL l) lav l h hl (fun x hx => by have := (hs x hx).1; unfold maxLen; omega)
  have hlen : (keysE l).length = (keyL l).length := by unfold keysE; simp
  have hkl : (keyL l).length ≤ 1000000 := by unfold keyL; simpa using hl
  refine call_sem tt_ok Try.func72 rfl (by kernel_rfl) Try.ntmps72 Try.results72 ?_; conv => whnf
  repeat' (first | ((first | refine Sem.reg tt_ok ?_ | refine Sem.condS ?_ | refine Sem.regL tt_ok ?_ | refine Sem.skip tt_ok ?_ | refine Sem.exit tt_ok ?_ | refine Sem.ret tt_ok ?_ | refine BS_t (by assumption) ?_ | refine BS_f (by assumption) ?_ | refine atG (by repeat (first | assumption | exact setG_same _ _ _ | refine Eq.trans (setG_ne _ _ (by first | assumption | exact Ne.symm (by assumption))) ?_)) ?_ | refine (nthK_iff _ _).2 ⟨_, (by assumption), ?_⟩ | refine ⟨_, ⟨(by omega), (by assumption)⟩, ?_⟩ | refine And.intro (by first | decide | omega) ?_ | fail); conv => whnf) | refine Sem.seqS ?_ | refine Sem.block ?_ | fail)
  refine hnm.on ?_; conv => whnf
  repeat' (first | ((first | refine Sem.reg tt_ok ?_ | refine Sem.condS ?_ | refine Sem.regL tt_ok ?_ | refine Sem.skip tt_ok ?_ | refine Sem.exit tt_ok ?_ | refine Sem.ret tt_ok ?_ | refine BS_t (by assumption) ?_ | refine BS_f (by assumption) ?_ | refine atG (by repeat (first | assumption | exact setG_same _ _ _ | refine Eq.trans (setG_ne _ _ (by first | assumption | exact Ne.symm (by assumption))) ?_)) ?_ | refine (nthK_iff _ _).2 ⟨_, (by assumption), ?_⟩ | refine ⟨_, ⟨(by omega), (by assumption)⟩, ?_⟩ | refine And.intro (by first | decide | omega) ?_ | fail); conv => whnf) | refine Sem.seqS ?_ | refine Sem.block ?_ | fail)
  refine Sem.loop (ι := EI G b mv l now) (fun x => ⟨(.gptr b 0 :: .int .i64 now :: .top :: .top :: .top :: .top :: .gptr b 0 :: .slc 9 (keysE l) :: .int .i64 ((keyL l).length : Nat) :: .int .i64 (x.i : Nat) :: .top :: .top :: .top :: .top :: .top :: .top :: .top :: .top :: .top :: .top :: .top :: .top :: .top :: .top :: .top :: .top :: []), [], 0, 0, x.G⟩) (fun x => (keyL l).length - x.i) ⟨0, Nat.zero_le _, G, by rw [goneL_start]; exact h, ⟨.inl rfl, fun i x hi _ _ => hi⟩⟩ ?_ (fun x => ?_)
  · refine weak_by [] ?_; (conv => whnf); repeat (first | (refine And.intro rfl ?_; conv => whnf) | fail)
    refine And.intro (by rw [hlen]) ?_
    (conv => whnf); repeat (first | (refine And.intro rfl ?_; conv => whnf) | fail)
    exact ⟨fun i x hx => hx, rfl, Nat.zero_le _, rfl, rfl⟩
  obtain ⟨i, hi, G1, H, K⟩ := x
  repeat' (first | ((first | refine Sem.reg tt_ok ?_ | refine Sem.condS ?_ | refine Sem.regL tt_ok ?_ | refine Sem.skip tt_ok ?_ | refine Sem.exit tt_ok ?_ | refine Sem.ret tt_ok ?_ | refine BS_t (by assumption) ?_ | refine BS_f (by assumption) ?_ | refine atG (by repeat (first | assumption | exact setG_same _ _ _ | refine Eq.trans (setG_ne _ _ (by first | assumption | exact Ne.symm (by assumption))) ?_)) ?_ | refine (nthK_iff _ _).2 ⟨_, (by assumption), ?_⟩ | refine ⟨_, ⟨(by omega), (by assumption)⟩, ?_⟩ | refine And.intro (by first | decide | omega) ?_ | fail); conv => whnf) | refine Sem.seqS ?_ | refine Sem.block ?_ | fail)
  refine BS_intro (fun hk => ?_) (fun hk => ?_) <;> conv => whnf
  · have hks : i < (keyL l).length := by simp at hk; omega
    clear hk
    obtain ⟨s, hv⟩ : ∃ v, (keyL l)[i]? = some v := ⟨_, List.getElem?_eq_getElem hks⟩
    have hsm : (keysE l)[((i : Nat) : Int).toNat]? = some [.str (S s)] := by rw [Int.toNat_natCast, keysE, List.getElem?_map, hv]; rfl
    have hw : IntKind.i64.wrap ((i : Int) + 1) = ((i + 1 : Nat) : Int) := by rw [IntWalk.i64_in _ (by omega)]; omega
    obtain ⟨⟨x, u⟩, hm⟩ := key_there hn hv
    have hg := goneL_get hn now hv hm
    have hz := hs _ (lget_mem hm)
    have hsz := sizeL_filter (goneB l now i) l
    have hd := ldrop_ok G1 b mv _ _ (S s) x u hz.1 hz.2 (by omega) (by unfold goneL; omega) H hg
    have hdel := goneL_del hn now hv hm
    have hstay := goneL_stay hn now hv hm
    have hsd := sizeL_ldel (S s) hg
    obtain ⟨H1, ⟨rfl, hl0⟩ | ⟨mb, rfl, H2⟩⟩ := id H
    · have := lbk_nil hl0
      rw [this] at hg
      cases hg
    repeat' (first | ((first | refine Sem.reg tt_ok ?_ | refine Sem.condS ?_ | refine Sem.regL tt_ok ?_ | refine Sem.skip tt_ok ?_ | refine Sem.exit tt_ok ?_ | refine Sem.ret tt_ok ?_ | refine BS_t (by assumption) ?_ | refine BS_f (by assumption) ?_ | refine atG (by repeat (first | assumption | exact setG_same _ _ _ | refine Eq.trans (setG_ne _ _ (by first | assumption | exact Ne.symm (by assumption))) ?_)) ?_ | refine (nthK_iff _ _).2 ⟨_, (by assumption), ?_⟩ | refine ⟨_, ⟨(by omega), (by assumption)⟩, ?_⟩ | refine And.intro (by first | decide | omega) ?_ | fail); conv => whnf) | refine Sem.seqS ?_ | refine Sem.block ?_ | fail)
    refine ⟨_, H2, _, (bk_get lav _ _).trans (congrArg _ hg), ?_⟩
    conv => whnf
    repeat' (first | ((first | refine Sem.reg tt_ok ?_ | refine Sem.condS ?_ | refine Sem.regL tt_ok ?_ | refine Sem.skip tt_ok ?_ | refine Sem.exit tt_ok ?_ | refine Sem.ret tt_ok ?_ | refine BS_t (by assumption) ?_ | refine BS_f (by assumption) ?_ | refine atG (by repeat (first | assumption | exact setG_same _ _ _ | refine Eq.trans (setG_ne _ _ (by first | assumption | exact Ne.symm (by assumption))) ?_)) ?_ | refine (nthK_iff _ _).2 ⟨_, (by assumption), ?_⟩ | refine ⟨_, ⟨(by omega), (by assumption)⟩, ?_⟩ | refine And.intro (by first | decide | omega) ?_ | fail); conv => whnf) | refine Sem.seqS ?_ | refine Sem.block ?_ | fail)
    refine BS_intro (fun ht => ?_) (fun ht => ?_) <;> conv => whnf
    · have ht' : u ≤ now := by simpa using ht
      have hdel := hdel ht'
      repeat' (first | ((first | refine Sem.reg tt_ok ?_ | refine Sem.condS ?_ | refine Sem.regL tt_ok ?_ | refine Sem.skip tt_ok ?_ | refine Sem.exit tt_ok ?_ | refine Sem.ret tt_ok ?_ | refine BS_t (by assumption) ?_ | refine BS_f (by assumption) ?_ | refine atG (by repeat (first | assumption | exact setG_same _ _ _ | refine Eq.trans (setG_ne _ _ (by first | assumption | exact Ne.symm (by assumption))) ?_)) ?_ | refine (nthK_iff _ _).2 ⟨_, (by assumption), ?_⟩ | refine ⟨_, ⟨(by omega), (by assumption)⟩, ?_⟩ | refine And.intro (by first | decide | omega) ?_ | fail); conv => whnf) | refine Sem.seqS ?_ | refine Sem.block ?_ | fail)
      refine (hd).mono fun v G1 hv => ?_; obtain ⟨rfl, h1, k1⟩ := hv; conv => whnf
      repeat' (first | ((first | refine Sem.reg tt_ok ?_ | refine Sem.condS ?_ | refine Sem.regL tt_ok ?_ | refine Sem.skip tt_ok ?_ | refine Sem.exit tt_ok ?_ | refine Sem.ret tt_ok ?_ | refine BS_t (by assumption) ?_ | refine BS_f (by assumption) ?_ | refine atG (by repeat (first | assumption | exact setG_same _ _ _ | refine Eq.trans (setG_ne _ _ (by first | assumption | exact Ne.symm (by assumption))) ?_)) ?_ | refine (nthK_iff _ _).2 ⟨_, (by assumption), ?_⟩ | refine ⟨_, ⟨(by omega), (by assumption)⟩, ?_⟩ | refine And.intro (by first | decide | omega) ?_ | fail); conv => whnf) | refine Sem.seqS ?_ | refine Sem.block ?_ | fail)
      rw [hdel] at h1 hsd
      simp only at hsd
      refine ⟨⟨i + 1, by omega, G1, by rw [show ((sizeL (goneL l now (i + 1)) : Nat) : Int) = (sizeL (goneL l now i) : Nat) - (24 + (S s).size + x.size) by omega]; exact h1, K.trans1 k1⟩, by show (keyL l).length - (i + 1) < (keyL l).length - i; omega, ?_⟩
      refine weak_by [] ?_; (conv => whnf); repeat (first | (refine And.intro rfl ?_; conv => whnf) | fail)
      refine And.intro hw ?_
      (conv => whnf); repeat (first | (refine And.intro rfl ?_; conv => whnf) | fail)
      exact ⟨fun i y hy => hy, rfl, Nat.zero_le _, rfl, rfl⟩
    · have ht' : ¬ u ≤ now := by simpa using ht
      have hst := hstay ht'
      repeat' (first | ((first | refine Sem.reg tt_ok ?_ | refine Sem.condS ?_ | refine Sem.regL tt_ok ?_ | refine Sem.skip tt_ok ?_ | refine Sem.exit tt_ok ?_ | refine Sem.ret tt_ok ?_ | refine BS_t (by assumption) ?_ | refine BS_f (by assumption) ?_ | refine atG (by repeat (first | assumption | exact setG_same _ _ _ | refine Eq.trans (setG_ne _ _ (by first | assumption | exact Ne.symm (by assumption))) ?_)) ?_ | refine (nthK_iff _ _).2 ⟨_, (by assumption), ?_⟩ | refine ⟨_, ⟨(by omega), (by assumption)⟩, ?_⟩ | refine And.intro (by first | decide | omega) ?_ | fail); conv => whnf) | refine Sem.seqS ?_ | refine Sem.block ?_ | fail)
      refine ⟨⟨i + 1, by omega, G1, by rw [hst]; exact H, K⟩, by show (keyL l).length - (i + 1) < (keyL l).length - i; omega, ?_⟩
      refine weak_by [] ?_; (conv => whnf); repeat (first | (refine And.intro rfl ?_; conv => whnf) | fail)
      refine And.intro hw ?_
      (conv => whnf); repeat (first | (refine And.intro rfl ?_; conv => whnf) | fail)
      exact ⟨fun i y hy => hy, rfl, Nat.zero_le _, rfl, rfl⟩
  · have hk' : i = (keyL l).length := by simp at hk; omega
    subst hk'
    rw [goneL_end] at H
    repeat' (first | ((first | refine Sem.reg tt_ok ?_ | refine Sem.condS ?_ | refine Sem.regL tt_ok ?_ | refine Sem.skip tt_ok ?_ | refine Sem.exit tt_ok ?_ | refine Sem.ret tt_ok ?_ | refine BS_t (by assumption) ?_ | refine BS_f (by assumption) ?_ | refine atG (by repeat (first | assumption | exact setG_same _ _ _ | refine Eq.trans (setG_ne _ _ (by first | assumption | exact Ne.symm (by assumption))) ?_)) ?_ | refine (nthK_iff _ _).2 ⟨_, (by assumption), ?_⟩ | refine ⟨_, ⟨(by omega), (by assumption)⟩, ?_⟩ | refine And.intro (by first | decide | omega) ?_ | fail); conv => whnf) | refine Sem.seqS ?_ | refine Sem.block ?_ | fail)
    exact ⟨_, fun _ _ h => h, rfl, H, K⟩
end Go.Proofs.Ytpnlhnhjedopgaa
