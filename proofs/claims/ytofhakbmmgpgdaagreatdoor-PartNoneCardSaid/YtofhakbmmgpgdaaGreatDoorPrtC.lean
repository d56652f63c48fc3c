/- part: an addition done; the document's example. -/
import Derived.Test.YtofhakbmmgpgdaaGreatDoorPrtB
import Derived.Test.YtofhakbmmgpgdaaGreatDoorLsn
set_option maxRecDepth 100000
set_option linter.unusedSimpArgs false
namespace Go.Proofs.YtofhakbmmgpgdaaGreatDoor
open Go Go.RowKit Go.Proofs

theorem gadd_ok {s : Oth} {G : Glob} {x y pb : Nat} {mv : AV} {n : Int} {l : List (ByteArray × Int)} {nm tx : ByteArray} {k u : Int} (hx : G x = some (.cells [.gptr pb 0])) (hy : G y = some (.cells [.str nm, .str tx, .int .i64 k, .int .u64 u])) (hn : nm.size ≤ 140737488351232) (h : StC s G pb mv n (bk cav l)) :
    CallOk Tryz.prog TT 50 [.gptr x 0, .gptr y 0] G (fun v G' => v = .int .i64 (cgrow l nm) ∧ G' = G) := by
  have hg := Pcgrows_ok s G pb mv n l nm hn h
  refine call_sem tt_ok Tryz.func50 rfl (by kernel_rfl) Tryz.ntmps50 Tryz.results50 ?_; conv => whnf
  repeat' (first | ((first | refine Sem.reg tt_ok ?_ | refine Sem.condS ?_ | refine Sem.regL tt_ok ?_ | refine Sem.skip tt_ok ?_ | refine Sem.exit tt_ok ?_ | refine Sem.ret tt_ok ?_ | refine BS_t (by assumption) ?_ | refine BS_f (by assumption) ?_ | refine atG (by repeat (first | assumption | exact setG_same _ _ _ | refine Eq.trans (setG_ne _ _ (by first | assumption | exact Ne.symm (by assumption))) ?_)) ?_ | refine (nthK_iff _ _).2 ⟨_, (by assumption), ?_⟩ | refine ⟨_, ⟨(by omega), (by assumption)⟩, ?_⟩ | refine And.intro (by first | decide | omega) ?_ | fail); conv => whnf) | refine Sem.seqS ?_ | refine Sem.block ?_ | fail)
  refine draw_sound (eff := []) tt_ok (by kernel_rfl) (by kernel_rfl) ?_; conv => whnf
  repeat' (first | ((first | refine BS_t (by assumption) ?_ | refine BS_f (by assumption) ?_ | refine atG (by repeat (first | assumption | exact setG_same _ _ _ | refine Eq.trans (setG_ne _ _ (by first | assumption | exact Ne.symm (by assumption))) ?_)) ?_ | refine (nthK_iff _ _).2 ⟨_, (by assumption), ?_⟩ | refine ⟨_, ⟨(by omega), (by assumption)⟩, ?_⟩ | refine And.intro (by first | decide | omega) ?_ | fail); conv => whnf) | fail)
  refine ⟨_, _, hg, ?_⟩; (conv => whnf); refine And.intro rfl ?_; conv => whnf
  repeat' (first | ((first | refine BS_t (by assumption) ?_ | refine BS_f (by assumption) ?_ | refine atG (by repeat (first | assumption | exact setG_same _ _ _ | refine Eq.trans (setG_ne _ _ (by first | assumption | exact Ne.symm (by assumption))) ?_)) ?_ | refine (nthK_iff _ _).2 ⟨_, (by assumption), ?_⟩ | refine ⟨_, ⟨(by omega), (by assumption)⟩, ?_⟩ | refine And.intro (by first | decide | omega) ?_ | fail); conv => whnf) | fail)
  repeat' (first | ((first | refine Sem.reg tt_ok ?_ | refine Sem.condS ?_ | refine Sem.regL tt_ok ?_ | refine Sem.skip tt_ok ?_ | refine Sem.exit tt_ok ?_ | refine Sem.ret tt_ok ?_ | refine BS_t (by assumption) ?_ | refine BS_f (by assumption) ?_ | refine atG (by repeat (first | assumption | exact setG_same _ _ _ | refine Eq.trans (setG_ne _ _ (by first | assumption | exact Ne.symm (by assumption))) ?_)) ?_ | refine (nthK_iff _ _).2 ⟨_, (by assumption), ?_⟩ | refine ⟨_, ⟨(by omega), (by assumption)⟩, ?_⟩ | refine And.intro (by first | decide | omega) ?_ | fail); conv => whnf) | refine Sem.seqS ?_ | refine Sem.block ?_ | fail)
  exact ⟨_, fun _ _ h => h, rfl, rfl⟩
theorem dadd_ok {s : Oth} {G : Glob} {x y pb : Nat} {mv : AV} {n : Int} {l : List (ByteArray × Int)} {nm tx : ByteArray} {k u : Int} (hx : G x = some (.cells [.gptr pb 0])) (hy : G y = some (.cells [.str nm, .str tx, .int .i64 k, .int .u64 u])) (hn : nm.size ≤ 140737488351232) (n0 : 0 ≤ n) (n1 : n ≤ 4611686018427387904) (h : StC s G pb mv n (bk cav l)) :
    CallOk Tryz.prog TT 52 [.gptr x 0, .gptr y 0] G (fun v G' => v = .agg [.str ⟨#[]⟩, .bool false, .int .i64 (IntKind.i64.wrap (cval l nm + k))] ∧ ∃ mv', StC s G' pb mv' (n + cgrow l nm) (bk cav (lput l nm (IntKind.i64.wrap (cval l nm + k)))) ∧ Kept G G' pb mv mv') := by
  refine call_sem tt_ok Tryz.func52 rfl (by kernel_rfl) Tryz.ntmps52 Tryz.results52 ?_; conv => whnf
  repeat' (first | ((first | refine Sem.reg tt_ok ?_ | refine Sem.condS ?_ | refine Sem.regL tt_ok ?_ | refine Sem.skip tt_ok ?_ | refine Sem.exit tt_ok ?_ | refine Sem.ret tt_ok ?_ | refine BS_t (by assumption) ?_ | refine BS_f (by assumption) ?_ | refine atG (by repeat (first | assumption | exact setG_same _ _ _ | refine Eq.trans (setG_ne _ _ (by first | assumption | exact Ne.symm (by assumption))) ?_)) ?_ | refine (nthK_iff _ _).2 ⟨_, (by assumption), ?_⟩ | refine ⟨_, ⟨(by omega), (by assumption)⟩, ?_⟩ | refine And.intro (by first | decide | omega) ?_ | fail); conv => whnf) | refine Sem.seqS ?_ | refine Sem.block ?_ | fail)
  refine draw_lasts 7 (eff := []) tt_ok (by kernel_rfl) (by kernel_rfl) (by kernel_rfl) ?_
  conv => whnf
  repeat' (first | ((first | refine BS_t (by assumption) ?_ | refine BS_f (by assumption) ?_ | refine atG (by repeat (first | assumption | exact setG_same _ _ _ | refine Eq.trans (setG_ne _ _ (by first | assumption | exact Ne.symm (by assumption))) ?_)) ?_ | refine (nthK_iff _ _).2 ⟨_, (by assumption), ?_⟩ | refine ⟨_, ⟨(by omega), (by assumption)⟩, ?_⟩ | refine And.intro (by first | decide | omega) ?_ | fail); conv => whnf) | fail)
  refine (Pcadd_ok s G pb mv n l nm k hn n0 n1 h).mono fun v G1 hv => ?_; obtain ⟨rfl, mv', h1, h2⟩ := hv; conv => whnf
  repeat' (first | ((first | refine BS_t (by assumption) ?_ | refine BS_f (by assumption) ?_ | refine atG (by repeat (first | assumption | exact setG_same _ _ _ | refine Eq.trans (setG_ne _ _ (by first | assumption | exact Ne.symm (by assumption))) ?_)) ?_ | refine (nthK_iff _ _).2 ⟨_, (by assumption), ?_⟩ | refine ⟨_, ⟨(by omega), (by assumption)⟩, ?_⟩ | refine And.intro (by first | decide | omega) ?_ | fail); conv => whnf) | fail)
  repeat' (first | ((first | refine Sem.reg tt_ok ?_ | refine Sem.condS ?_ | refine Sem.regL tt_ok ?_ | refine Sem.skip tt_ok ?_ | refine Sem.exit tt_ok ?_ | refine Sem.ret tt_ok ?_ | refine BS_t (by assumption) ?_ | refine BS_f (by assumption) ?_ | refine atG (by repeat (first | assumption | exact setG_same _ _ _ | refine Eq.trans (setG_ne _ _ (by first | assumption | exact Ne.symm (by assumption))) ?_)) ?_ | refine (nthK_iff _ _).2 ⟨_, (by assumption), ?_⟩ | refine ⟨_, ⟨(by omega), (by assumption)⟩, ?_⟩ | refine And.intro (by first | decide | omega) ?_ | fail); conv => whnf) | refine Sem.seqS ?_ | refine Sem.block ?_ | fail)
  exact ⟨_, fun _ _ h => h, rfl, mv', h1, h2⟩
theorem lent2 {G : Glob} {x y : Nat} {X Y : GB} (hx : G x = none) (hy : setG G x X y = none) : (∀ i z, G i = some z → setG (setG G x X) y Y i = some z) ∧ (∀ i, setG (setG G x X) y Y i = none → G i = none) ∧ setG (setG G x X) y Y x = some X := by
  have hxy : x ≠ y := fun e => by rw [← e, setG_same] at hy; cases hy
  refine ⟨fun i z h => ?_, fun i h => ?_, by rw [setG_ne _ _ hxy, setG_same]⟩
  · have h1 : i ≠ x := fun e => by rw [e, hx] at h; cases h
    have h2 : i ≠ y := fun e => by rw [← e, setG_ne _ _ h1, h] at hy; cases hy
    rw [setG_ne _ _ h2, setG_ne _ _ h1]; exact h
  · by_cases h2 : i = y
    · subst h2; rw [setG_same] at h; cases h
    · by_cases h1 : i = x
      · subst h1; rw [setG_ne _ _ h2, setG_same] at h; cases h
      · rw [setG_ne _ _ h2, setG_ne _ _ h1] at h; exact h
theorem pdo_add {G : Glob} {pb : Nat} {a4 a0 mv : AV} {n0 n n2 n3 : Int} {l : List (ByteArray × Int)} {nm tx : ByteArray} {k u now lim : Int} (hn : nm.size ≤ 140737488351232) (b0 : 0 ≤ n0 ∧ n0 ≤ 1000000000000000) (b1 : 0 ≤ n ∧ n ≤ 1000000000000000) (b2 : 0 ≤ n2 ∧ n2 ≤ 1000000000000000) (b3 : 0 ≤ n3 ∧ n3 ≤ 1000000000000000)
    (hl : lim ≤ 1000000000000000) (h : StC ⟨a0, .int .i64 n0, a4, .int .i64 n2, .nilm, .int .i64 n3⟩ G pb mv n (bk cav l)) (hfit : cgrow l nm = 0 ∨ 0 < cgrow l nm ∧ cgrow l nm ≤ lim ∧ n0 + n + n2 + n3 ≤ lim - cgrow l nm) :
    CallOk Tryz.prog TT 9 [.gptr pb 0, .int .i64 4, .agg [.str nm, .str tx, .int .i64 k, .int .u64 u], .int .i64 now, .int .i64 lim] G (fun v G' => v = .tup [.agg [.str ⟨#[]⟩, .bool false, .int .i64 (IntKind.i64.wrap (cval l nm + k))], .int .i64 0] ∧
      ∃ mv', StC ⟨a0, .int .i64 n0, a4, .int .i64 n2, .nilm, .int .i64 n3⟩ G' pb mv' (n + cgrow l nm) (bk cav (lput l nm (IntKind.i64.wrap (cval l nm + k)))) ∧ Kept G G' pb mv mv') := by
  refine call_sem tt_ok Tryz.func9 rfl (by kernel_rfl) Tryz.ntmps9 Tryz.results9 ?_; conv => whnf
  repeat' (first | ((first | refine Sem.reg tt_ok ?_ | refine Sem.condS ?_ | refine Sem.regL tt_ok ?_ | refine Sem.skip tt_ok ?_ | refine Sem.exit tt_ok ?_ | refine Sem.ret tt_ok ?_ | refine BS_t (by assumption) ?_ | refine BS_f (by assumption) ?_ | refine atG (by repeat (first | assumption | exact setG_same _ _ _ | refine Eq.trans (setG_ne _ _ (by first | assumption | exact Ne.symm (by assumption))) ?_)) ?_ | refine (nthK_iff _ _).2 ⟨_, (by assumption), ?_⟩ | refine ⟨_, ⟨(by omega), (by assumption)⟩, ?_⟩ | refine And.intro (by first | decide | omega) ?_ | fail); conv => whnf) | refine Sem.seqS ?_ | refine Sem.block ?_ | fail)
  refine (find_add G pb nm tx k u now).mono fun v G1 hv => ?_; obtain ⟨x, y, hx, hy, rfl, rfl⟩ := hv; conv => whnf
  obtain ⟨sub, nosub, hxx⟩ := lent2 (Y := .cells [.str nm, .str tx, .int .i64 k, .int .u64 u]) hx hy
  have hyy : setG (setG G x (.cells [.gptr pb 0])) y (.cells [.str nm, .str tx, .int .i64 k, .int .u64 u]) y = some (.cells [.str nm, .str tx, .int .i64 k, .int .u64 u]) := setG_same _ _ _
  generalize setG (setG G x (.cells [.gptr pb 0])) y (.cells [.str nm, .str tx, .int .i64 k, .int .u64 u]) = H at *
  have hH : StC ⟨a0, .int .i64 n0, a4, .int .i64 n2, .nilm, .int .i64 n3⟩ H pb mv n (bk cav l) := by
    obtain ⟨h1, h2⟩ := h
    refine ⟨sub _ _ h1, ?_⟩
    rcases h2 with h2 | ⟨mb, h3, h4⟩
    · exact .inl h2
    · exact .inr ⟨mb, h3, sub _ _ h4⟩
  have hex := lexpire_at hH.1 rfl now
  have hgr := gadd_ok (k := k) (u := u) (tx := tx) hxx hyy hn hH
  have hsz := psize_at hH.1 b0 b1 b2 b3
  have hdo := dadd_ok (k := k) (u := u) (tx := tx) hxx hyy hn b1.1 (by omega) hH
  have fin : ∀ (v : AV) (G' : Glob), (v = .agg [.str ⟨#[]⟩, .bool false, .int .i64 (IntKind.i64.wrap (cval l nm + k))] ∧ ∃ mv', StC ⟨a0, .int .i64 n0, a4, .int .i64 n2, .nilm, .int .i64 n3⟩ G' pb mv' (n + cgrow l nm) (bk cav (lput l nm (IntKind.i64.wrap (cval l nm + k)))) ∧ Kept H G' pb mv mv') →
      ∃ mv', StC ⟨a0, .int .i64 n0, a4, .int .i64 n2, .nilm, .int .i64 n3⟩ G' pb mv' (n + cgrow l nm) (bk cav (lput l nm (IntKind.i64.wrap (cval l nm + k)))) ∧ Kept G G' pb mv mv' := fun v G' ⟨_, mv', q1, q2, q3⟩ => by
    refine ⟨mv', q1, ?_, fun i z hz h1 h2 => q3 i z (sub i z hz) h1 h2⟩
    rcases q2 with q2 | ⟨q2, mb, q4, q5⟩
    · exact .inl q2
    · exact .inr ⟨q2, mb, nosub _ q4, q5⟩
  have hgn : 0 ≤ cgrow l nm ∧ cgrow l nm ≤ 140737488351232 + 24 := by unfold cgrow; split <;> omega
  generalize hgg : cgrow l nm = g at *
  rcases hfit with h0 | ⟨h0, h1, h2⟩
  · have t1 : decide (g > 0) = false := by simp; omega
    repeat' (first | ((first | refine Sem.reg tt_ok ?_ | refine Sem.condS ?_ | refine Sem.regL tt_ok ?_ | refine Sem.skip tt_ok ?_ | refine Sem.exit tt_ok ?_ | refine Sem.ret tt_ok ?_ | refine BS_t (by assumption) ?_ | refine BS_f (by assumption) ?_ | refine atG (by repeat (first | assumption | exact setG_same _ _ _ | refine Eq.trans (setG_ne _ _ (by first | assumption | exact Ne.symm (by assumption))) ?_)) ?_ | refine (nthK_iff _ _).2 ⟨_, (by assumption), ?_⟩ | refine ⟨_, ⟨(by omega), (by assumption)⟩, ?_⟩ | refine And.intro (by first | decide | omega) ?_ | fail); conv => whnf) | refine Sem.seqS ?_ | refine Sem.block ?_ | fail)
    refine hex.on ?_; conv => whnf
    repeat' (first | ((first | refine Sem.reg tt_ok ?_ | refine Sem.condS ?_ | refine Sem.regL tt_ok ?_ | refine Sem.skip tt_ok ?_ | refine Sem.exit tt_ok ?_ | refine Sem.ret tt_ok ?_ | refine BS_t (by assumption) ?_ | refine BS_f (by assumption) ?_ | refine atG (by repeat (first | assumption | exact setG_same _ _ _ | refine Eq.trans (setG_ne _ _ (by first | assumption | exact Ne.symm (by assumption))) ?_)) ?_ | refine (nthK_iff _ _).2 ⟨_, (by assumption), ?_⟩ | refine ⟨_, ⟨(by omega), (by assumption)⟩, ?_⟩ | refine And.intro (by first | decide | omega) ?_ | fail); conv => whnf) | refine Sem.seqS ?_ | refine Sem.block ?_ | fail)
    refine hgr.on ?_; conv => whnf
    repeat' (first | ((first | refine Sem.reg tt_ok ?_ | refine Sem.condS ?_ | refine Sem.regL tt_ok ?_ | refine Sem.skip tt_ok ?_ | refine Sem.exit tt_ok ?_ | refine Sem.ret tt_ok ?_ | refine BS_t (by assumption) ?_ | refine BS_f (by assumption) ?_ | refine atG (by repeat (first | assumption | exact setG_same _ _ _ | refine Eq.trans (setG_ne _ _ (by first | assumption | exact Ne.symm (by assumption))) ?_)) ?_ | refine (nthK_iff _ _).2 ⟨_, (by assumption), ?_⟩ | refine ⟨_, ⟨(by omega), (by assumption)⟩, ?_⟩ | refine And.intro (by first | decide | omega) ?_ | fail); conv => whnf) | refine Sem.seqS ?_ | refine Sem.block ?_ | fail)
    refine hdo.mono fun v G1 hv => ?_
    have hf := fin v G1 hv
    obtain ⟨rfl, _⟩ := hv
    conv => whnf
    repeat' (first | ((first | refine Sem.reg tt_ok ?_ | refine Sem.condS ?_ | refine Sem.regL tt_ok ?_ | refine Sem.skip tt_ok ?_ | refine Sem.exit tt_ok ?_ | refine Sem.ret tt_ok ?_ | refine BS_t (by assumption) ?_ | refine BS_f (by assumption) ?_ | refine atG (by repeat (first | assumption | exact setG_same _ _ _ | refine Eq.trans (setG_ne _ _ (by first | assumption | exact Ne.symm (by assumption))) ?_)) ?_ | refine (nthK_iff _ _).2 ⟨_, (by assumption), ?_⟩ | refine ⟨_, ⟨(by omega), (by assumption)⟩, ?_⟩ | refine And.intro (by first | decide | omega) ?_ | fail); conv => whnf) | refine Sem.seqS ?_ | refine Sem.block ?_ | fail)
    exact ⟨_, fun _ _ h => h, rfl, hf⟩
  · have t1 : decide (g > 0) = true := by simp; omega
    have t2 : decide (lim < g) = false := by simp; omega
    have w1 : IntKind.i64.wrap (lim - g) = lim - g := IntWalk.i64_in _ (by omega)
    have t3 : decide (n0 + n + n2 + n3 > IntKind.i64.wrap (lim - g)) = false := by rw [w1]; simp; omega
    repeat' (first | ((first | refine Sem.reg tt_ok ?_ | refine Sem.condS ?_ | refine Sem.regL tt_ok ?_ | refine Sem.skip tt_ok ?_ | refine Sem.exit tt_ok ?_ | refine Sem.ret tt_ok ?_ | refine BS_t (by assumption) ?_ | refine BS_f (by assumption) ?_ | refine atG (by repeat (first | assumption | exact setG_same _ _ _ | refine Eq.trans (setG_ne _ _ (by first | assumption | exact Ne.symm (by assumption))) ?_)) ?_ | refine (nthK_iff _ _).2 ⟨_, (by assumption), ?_⟩ | refine ⟨_, ⟨(by omega), (by assumption)⟩, ?_⟩ | refine And.intro (by first | decide | omega) ?_ | fail); conv => whnf) | refine Sem.seqS ?_ | refine Sem.block ?_ | fail)
    refine hex.on ?_; conv => whnf
    repeat' (first | ((first | refine Sem.reg tt_ok ?_ | refine Sem.condS ?_ | refine Sem.regL tt_ok ?_ | refine Sem.skip tt_ok ?_ | refine Sem.exit tt_ok ?_ | refine Sem.ret tt_ok ?_ | refine BS_t (by assumption) ?_ | refine BS_f (by assumption) ?_ | refine atG (by repeat (first | assumption | exact setG_same _ _ _ | refine Eq.trans (setG_ne _ _ (by first | assumption | exact Ne.symm (by assumption))) ?_)) ?_ | refine (nthK_iff _ _).2 ⟨_, (by assumption), ?_⟩ | refine ⟨_, ⟨(by omega), (by assumption)⟩, ?_⟩ | refine And.intro (by first | decide | omega) ?_ | fail); conv => whnf) | refine Sem.seqS ?_ | refine Sem.block ?_ | fail)
    refine hgr.on ?_; conv => whnf
    repeat' (first | ((first | refine Sem.reg tt_ok ?_ | refine Sem.condS ?_ | refine Sem.regL tt_ok ?_ | refine Sem.skip tt_ok ?_ | refine Sem.exit tt_ok ?_ | refine Sem.ret tt_ok ?_ | refine BS_t (by assumption) ?_ | refine BS_f (by assumption) ?_ | refine atG (by repeat (first | assumption | exact setG_same _ _ _ | refine Eq.trans (setG_ne _ _ (by first | assumption | exact Ne.symm (by assumption))) ?_)) ?_ | refine (nthK_iff _ _).2 ⟨_, (by assumption), ?_⟩ | refine ⟨_, ⟨(by omega), (by assumption)⟩, ?_⟩ | refine And.intro (by first | decide | omega) ?_ | fail); conv => whnf) | refine Sem.seqS ?_ | refine Sem.block ?_ | fail)
    refine hsz.on ?_; conv => whnf
    repeat' (first | ((first | refine Sem.reg tt_ok ?_ | refine Sem.condS ?_ | refine Sem.regL tt_ok ?_ | refine Sem.skip tt_ok ?_ | refine Sem.exit tt_ok ?_ | refine Sem.ret tt_ok ?_ | refine BS_t (by assumption) ?_ | refine BS_f (by assumption) ?_ | refine atG (by repeat (first | assumption | exact setG_same _ _ _ | refine Eq.trans (setG_ne _ _ (by first | assumption | exact Ne.symm (by assumption))) ?_)) ?_ | refine (nthK_iff _ _).2 ⟨_, (by assumption), ?_⟩ | refine ⟨_, ⟨(by omega), (by assumption)⟩, ?_⟩ | refine And.intro (by first | decide | omega) ?_ | fail); conv => whnf) | refine Sem.seqS ?_ | refine Sem.block ?_ | fail)
    refine hdo.mono fun v G1 hv => ?_
    have hf := fin v G1 hv
    obtain ⟨rfl, _⟩ := hv
    conv => whnf
    repeat' (first | ((first | refine Sem.reg tt_ok ?_ | refine Sem.condS ?_ | refine Sem.regL tt_ok ?_ | refine Sem.skip tt_ok ?_ | refine Sem.exit tt_ok ?_ | refine Sem.ret tt_ok ?_ | refine BS_t (by assumption) ?_ | refine BS_f (by assumption) ?_ | refine atG (by repeat (first | assumption | exact setG_same _ _ _ | refine Eq.trans (setG_ne _ _ (by first | assumption | exact Ne.symm (by assumption))) ?_)) ?_ | refine (nthK_iff _ _).2 ⟨_, (by assumption), ?_⟩ | refine ⟨_, ⟨(by omega), (by assumption)⟩, ?_⟩ | refine And.intro (by first | decide | omega) ?_ | fail); conv => whnf) | refine Sem.seqS ?_ | refine Sem.block ?_ | fail)
    exact ⟨_, fun _ _ h => h, rfl, hf⟩
theorem awake31_ok (G : Glob) : CallOk Tryz.prog TT 7 [] G (fun v G' => v = .bool true ∧ ∀ i z, G i = some z → G' i = some z) := by
  refine call_sem tt_ok Tryz.func7 rfl (by kernel_rfl) Tryz.ntmps7 Tryz.results7 ?_; conv => whnf
  repeat' (first | ((first | refine Sem.reg tt_ok ?_ | refine Sem.condS ?_ | refine Sem.regL tt_ok ?_ | refine Sem.skip tt_ok ?_ | refine Sem.exit tt_ok ?_ | refine Sem.ret tt_ok ?_ | refine BS_t (by assumption) ?_ | refine BS_f (by assumption) ?_ | refine atG (by repeat (first | assumption | exact setG_same _ _ _ | refine Eq.trans (setG_ne _ _ (by first | assumption | exact Ne.symm (by assumption))) ?_)) ?_ | refine (nthK_iff _ _).2 ⟨_, (by assumption), ?_⟩ | refine ⟨_, ⟨(by omega), (by assumption)⟩, ?_⟩ | refine And.intro (by first | decide | omega) ?_ | fail); conv => whnf) | refine Sem.seqS ?_ | refine Sem.block ?_ | fail)
  refine (pnew_ok G).mono fun v G1 hv => ?_; obtain ⟨pb, hpb, rfl, rfl⟩ := hv; conv => whnf
  repeat' (first | ((first | refine Sem.reg tt_ok ?_ | refine Sem.condS ?_ | refine Sem.regL tt_ok ?_ | refine Sem.skip tt_ok ?_ | refine Sem.exit tt_ok ?_ | refine Sem.ret tt_ok ?_ | refine BS_t (by assumption) ?_ | refine BS_f (by assumption) ?_ | refine atG (by repeat (first | assumption | exact setG_same _ _ _ | refine Eq.trans (setG_ne _ _ (by first | assumption | exact Ne.symm (by assumption))) ?_)) ?_ | refine (nthK_iff _ _).2 ⟨_, (by assumption), ?_⟩ | refine ⟨_, ⟨(by omega), (by assumption)⟩, ?_⟩ | refine And.intro (by first | decide | omega) ?_ | fail); conv => whnf) | refine Sem.seqS ?_ | refine Sem.block ?_ | fail)
  refine (pdo_add (a0 := .nilm) (a4 := .nilm) (mv := .nilm) (n0 := 0) (n := 0) (n2 := 0) (n3 := 0) (l := []) (by decide) (by decide) (by decide) (by decide) (by decide) (by decide) ⟨setG_same _ _ _, .inl ⟨rfl, rfl⟩⟩ (.inr (by decide))).mono fun v G1 hv => ?_
  obtain ⟨rfl, mv1, h1, k1⟩ := hv
  conv => whnf
  repeat' (first | ((first | refine Sem.reg tt_ok ?_ | refine Sem.condS ?_ | refine Sem.regL tt_ok ?_ | refine Sem.skip tt_ok ?_ | refine Sem.exit tt_ok ?_ | refine Sem.ret tt_ok ?_ | refine BS_t (by assumption) ?_ | refine BS_f (by assumption) ?_ | refine atG (by repeat (first | assumption | exact setG_same _ _ _ | refine Eq.trans (setG_ne _ _ (by first | assumption | exact Ne.symm (by assumption))) ?_)) ?_ | refine (nthK_iff _ _).2 ⟨_, (by assumption), ?_⟩ | refine ⟨_, ⟨(by omega), (by assumption)⟩, ?_⟩ | refine And.intro (by first | decide | omega) ?_ | fail); conv => whnf) | refine Sem.seqS ?_ | refine Sem.block ?_ | fail)
  refine (pdo_add (n0 := 0) (n2 := 0) (n3 := 0) (by decide) (by decide) (by decide) (by decide) (by decide) (by decide) h1 (.inl (by decide))).mono fun v G2 hv => ?_
  obtain ⟨rfl, mv2, h2, k2⟩ := hv
  conv => whnf
  repeat' (first | ((first | refine Sem.reg tt_ok ?_ | refine Sem.condS ?_ | refine Sem.regL tt_ok ?_ | refine Sem.skip tt_ok ?_ | refine Sem.exit tt_ok ?_ | refine Sem.ret tt_ok ?_ | refine BS_t (by assumption) ?_ | refine BS_f (by assumption) ?_ | refine atG (by repeat (first | assumption | exact setG_same _ _ _ | refine Eq.trans (setG_ne _ _ (by first | assumption | exact Ne.symm (by assumption))) ?_)) ?_ | refine (nthK_iff _ _).2 ⟨_, (by assumption), ?_⟩ | refine ⟨_, ⟨(by omega), (by assumption)⟩, ?_⟩ | refine And.intro (by first | decide | omega) ?_ | fail); conv => whnf) | refine Sem.seqS ?_ | refine Sem.block ?_ | fail)
  refine (psize_at h2.1 (by decide) (by decide) (by decide) (by decide)).mono fun v G3 hv => ?_
  obtain ⟨rfl, rfl⟩ := hv
  conv => whnf
  repeat' (first | ((first | refine Sem.reg tt_ok ?_ | refine Sem.condS ?_ | refine Sem.regL tt_ok ?_ | refine Sem.skip tt_ok ?_ | refine Sem.exit tt_ok ?_ | refine Sem.ret tt_ok ?_ | refine BS_t (by assumption) ?_ | refine BS_f (by assumption) ?_ | refine atG (by repeat (first | assumption | exact setG_same _ _ _ | refine Eq.trans (setG_ne _ _ (by first | assumption | exact Ne.symm (by assumption))) ?_)) ?_ | refine (nthK_iff _ _).2 ⟨_, (by assumption), ?_⟩ | refine ⟨_, ⟨(by omega), (by assumption)⟩, ?_⟩ | refine And.intro (by first | decide | omega) ?_ | fail); conv => whnf) | refine Sem.seqS ?_ | refine Sem.block ?_ | fail)
  refine ⟨_, fun _ _ h => h, congrArg AV.bool (by decide), fun i z hi => ?_⟩
  have e1 : i ≠ pb := fun e => by rw [e, hpb] at hi; cases hi
  have g1 := k1.2 i z (by rw [setG_ne _ _ e1]; exact hi) e1 (by simp)
  refine k2.2 i z g1 e1 fun e => ?_
  rcases k1.1 with q | ⟨_, mb, q1, q2⟩
  · rw [q] at e; cases e
  · rw [q2] at e; cases e
    rw [setG_ne _ _ e1, hi] at q1; cases q1
end Go.Proofs.YtofhakbmmgpgdaaGreatDoor
