/- fifo in the abstract run. -/
import Derived.Test.YtpnlhnhjedopgaaMapA
set_option maxRecDepth 100000
set_option linter.unusedSimpArgs false
namespace Go.Proofs.Ytpnlhnhjedopgaa
open Go Go.RowKit Go.Proofs

/-- a queue: its box, its links, each with its text -/
abbrev Qu := Nat × List (Nat × ByteArray)
def fav (x : Qu) : AV := .gptr x.1 0
abbrev FiL := List (ByteArray × Qu)
theorem fbk_nil {l : FiL} (h : bk fav l = []) : l = [] := by simpa [bk] using h
def nextP : List (Nat × ByteArray) → AV
  | [] => .nilp
  | (i, _) :: _ => .gptr i 0
def SegG (G : Glob) : List (Nat × ByteArray) → Prop
  | [] => True
  | (i, s) :: r => G i = some (.cells [.str s, nextP r]) ∧ SegG G r
def QueG (G : Glob) (x : Qu) : Prop := (∃ lp, G x.1 = some (.cells [nextP x.2, lp, .int .i64 x.2.length]) ∧ ∀ y, x.2.getLast? = some y → lp = .gptr y.1 0) ∧ SegG G x.2
theorem fnew_ok (G : Glob) : CallOk Try.prog TT 52 [] G (fun v G' => ∃ b, G b = none ∧ v = .gptr b 0 ∧ G' = setG G b (.cells [.nilm, .int .i64 0])) := by
  refine call_body tt_ok Try.func52 rfl (by kernel_rfl) Try.ntmps52 Try.results52 ?_; conv => whnf
  repeat' (first | (refine BS_t (by assumption) ?_; conv => whnf) | (refine BS_f (by assumption) ?_; conv => whnf) | (refine atG (by first | assumption | exact setG_same _ _ _ | (refine Eq.trans (setG_ne _ _ (by first | assumption | exact Ne.symm (by assumption))) ?_; first | assumption | exact setG_same _ _ _ | (refine Eq.trans (setG_ne _ _ (by first | assumption | exact Ne.symm (by assumption))) ?_; first | assumption | exact setG_same _ _ _ | (refine Eq.trans (setG_ne _ _ (by first | assumption | exact Ne.symm (by assumption))) ?_; first | assumption | exact setG_same _ _ _)))) ?_; conv => whnf) | (refine (nthK_iff _ _).2 ⟨_, (by assumption), ?_⟩; conv => whnf) | (refine Exists.intro _ (And.intro (And.intro (by omega) (by assumption)) ?_); conv => whnf) | (refine And.intro (by first | decide | omega) ?_; conv => whnf) | fail)
  intro b hb
  conv => whnf
  exact ⟨_, fun _ _ h => h, b, hb, rfl, rfl⟩
def ffind (l : FiL) (k : ByteArray) : AV := match lget l k with | some x => fav x | none => .nilp
theorem ffind_nil (G : Glob) (k : ByteArray) : CallOk Try.prog TT 107 [.nilp, .str k] G (fun v G' => v = .nilp ∧ G' = G) := by
  refine call_body tt_ok Try.func107 rfl (by kernel_rfl) Try.ntmps107 Try.results107 ?_; conv => whnf
  repeat' (first | (refine BS_t (by assumption) ?_; conv => whnf) | (refine BS_f (by assumption) ?_; conv => whnf) | (refine atG (by first | assumption | exact setG_same _ _ _ | (refine Eq.trans (setG_ne _ _ (by first | assumption | exact Ne.symm (by assumption))) ?_; first | assumption | exact setG_same _ _ _ | (refine Eq.trans (setG_ne _ _ (by first | assumption | exact Ne.symm (by assumption))) ?_; first | assumption | exact setG_same _ _ _ | (refine Eq.trans (setG_ne _ _ (by first | assumption | exact Ne.symm (by assumption))) ?_; first | assumption | exact setG_same _ _ _)))) ?_; conv => whnf) | (refine (nthK_iff _ _).2 ⟨_, (by assumption), ?_⟩; conv => whnf) | (refine Exists.intro _ (And.intro (And.intro (by omega) (by assumption)) ?_); conv => whnf) | (refine And.intro (by first | decide | omega) ?_; conv => whnf) | fail)
  exact ⟨_, fun _ _ h => h, rfl, rfl⟩
theorem ffind_ok (G : Glob) (b : Nat) (mv : AV) (n : Int) (l : FiL) (k : ByteArray) (h : StG G b mv n (bk fav l)) : CallOk Try.prog TT 107 [.gptr b 0, .str k] G (fun v G' => v = ffind l k ∧ G' = G) := by
  obtain ⟨h1, ⟨rfl, hl⟩ | ⟨mb, rfl, h2⟩⟩ := h
  · cases fbk_nil hl
    refine call_body tt_ok Try.func107 rfl (by kernel_rfl) Try.ntmps107 Try.results107 ?_; conv => whnf
    repeat' (first | (refine BS_t (by assumption) ?_; conv => whnf) | (refine BS_f (by assumption) ?_; conv => whnf) | (refine atG (by first | assumption | exact setG_same _ _ _ | (refine Eq.trans (setG_ne _ _ (by first | assumption | exact Ne.symm (by assumption))) ?_; first | assumption | exact setG_same _ _ _ | (refine Eq.trans (setG_ne _ _ (by first | assumption | exact Ne.symm (by assumption))) ?_; first | assumption | exact setG_same _ _ _ | (refine Eq.trans (setG_ne _ _ (by first | assumption | exact Ne.symm (by assumption))) ?_; first | assumption | exact setG_same _ _ _)))) ?_; conv => whnf) | (refine (nthK_iff _ _).2 ⟨_, (by assumption), ?_⟩; conv => whnf) | (refine Exists.intro _ (And.intro (And.intro (by omega) (by assumption)) ?_); conv => whnf) | (refine And.intro (by first | decide | omega) ?_; conv => whnf) | fail)
    exact ⟨_, fun _ _ h => h, rfl, rfl⟩
  · refine call_body tt_ok Try.func107 rfl (by kernel_rfl) Try.ntmps107 Try.results107 ?_; conv => whnf
    repeat' (first | (refine BS_t (by assumption) ?_; conv => whnf) | (refine BS_f (by assumption) ?_; conv => whnf) | (refine atG (by first | assumption | exact setG_same _ _ _ | (refine Eq.trans (setG_ne _ _ (by first | assumption | exact Ne.symm (by assumption))) ?_; first | assumption | exact setG_same _ _ _ | (refine Eq.trans (setG_ne _ _ (by first | assumption | exact Ne.symm (by assumption))) ?_; first | assumption | exact setG_same _ _ _ | (refine Eq.trans (setG_ne _ _ (by first | assumption | exact Ne.symm (by assumption))) ?_; first | assumption | exact setG_same _ _ _)))) ?_; conv => whnf) | (refine (nthK_iff _ _).2 ⟨_, (by assumption), ?_⟩; conv => whnf) | (refine Exists.intro _ (And.intro (And.intro (by omega) (by assumption)) ?_); conv => whnf) | (refine And.intro (by first | decide | omega) ?_; conv => whnf) | fail)
    refine ⟨_, h2, _, bk_get fav k l, ?_⟩
    unfold ffind
    cases lget l k with
    | some v =>
      repeat' (first | (refine BS_t (by assumption) ?_; conv => whnf) | (refine BS_f (by assumption) ?_; conv => whnf) | (refine atG (by first | assumption | exact setG_same _ _ _ | (refine Eq.trans (setG_ne _ _ (by first | assumption | exact Ne.symm (by assumption))) ?_; first | assumption | exact setG_same _ _ _ | (refine Eq.trans (setG_ne _ _ (by first | assumption | exact Ne.symm (by assumption))) ?_; first | assumption | exact setG_same _ _ _ | (refine Eq.trans (setG_ne _ _ (by first | assumption | exact Ne.symm (by assumption))) ?_; first | assumption | exact setG_same _ _ _)))) ?_; conv => whnf) | (refine (nthK_iff _ _).2 ⟨_, (by assumption), ?_⟩; conv => whnf) | (refine Exists.intro _ (And.intro (And.intro (by omega) (by assumption)) ?_); conv => whnf) | (refine And.intro (by first | decide | omega) ?_; conv => whnf) | fail)
      exact ⟨_, fun _ _ h => h, rfl, rfl⟩
    | none =>
      repeat' (first | (refine BS_t (by assumption) ?_; conv => whnf) | (refine BS_f (by assumption) ?_; conv => whnf) | (refine atG (by first | assumption | exact setG_same _ _ _ | (refine Eq.trans (setG_ne _ _ (by first | assumption | exact Ne.symm (by assumption))) ?_; first | assumption | exact setG_same _ _ _ | (refine Eq.trans (setG_ne _ _ (by first | assumption | exact Ne.symm (by assumption))) ?_; first | assumption | exact setG_same _ _ _ | (refine Eq.trans (setG_ne _ _ (by first | assumption | exact Ne.symm (by assumption))) ?_; first | assumption | exact setG_same _ _ _)))) ?_; conv => whnf) | (refine (nthK_iff _ _).2 ⟨_, (by assumption), ?_⟩; conv => whnf) | (refine Exists.intro _ (And.intro (And.intro (by omega) (by assumption)) ?_); conv => whnf) | (refine And.intro (by first | decide | omega) ?_; conv => whnf) | fail)
      exact ⟨_, fun _ _ h => h, rfl, rfl⟩
def fgrow (l : FiL) (k v : ByteArray) : Int := match lget l k with | some _ => 16 + v.size | none => 16 + v.size + (16 + k.size)
theorem fgrows_nil (G : Glob) (k v : ByteArray) (hk : k.size ≤ 140737488351232) (hv : v.size ≤ 140737488351232) : CallOk Try.prog TT 53 [.nilp, .str k, .str v] G (fun x G' => x = .int .i64 (16 + v.size + (16 + k.size)) ∧ G' = G) := by
  refine call_body tt_ok Try.func53 rfl (by kernel_rfl) Try.ntmps53 Try.results53 ?_; conv => whnf
  refine (ffind_nil _ k).on ?_; conv => whnf
  repeat' (first | (refine BS_t (by assumption) ?_; conv => whnf) | (refine BS_f (by assumption) ?_; conv => whnf) | (refine atG (by first | assumption | exact setG_same _ _ _ | (refine Eq.trans (setG_ne _ _ (by first | assumption | exact Ne.symm (by assumption))) ?_; first | assumption | exact setG_same _ _ _ | (refine Eq.trans (setG_ne _ _ (by first | assumption | exact Ne.symm (by assumption))) ?_; first | assumption | exact setG_same _ _ _ | (refine Eq.trans (setG_ne _ _ (by first | assumption | exact Ne.symm (by assumption))) ?_; first | assumption | exact setG_same _ _ _)))) ?_; conv => whnf) | (refine (nthK_iff _ _).2 ⟨_, (by assumption), ?_⟩; conv => whnf) | (refine Exists.intro _ (And.intro (And.intro (by omega) (by assumption)) ?_); conv => whnf) | (refine And.intro (by first | decide | omega) ?_; conv => whnf) | fail)
  refine ⟨_, fun _ _ h => h, ?_, rfl⟩
  rw [IntWalk.i64_in (16 + (v.size : Int)) (by omega), IntWalk.i64_in (16 + (k.size : Int)) (by omega), IntWalk.i64_in _ (by omega)]
theorem fgrows_ok (G : Glob) (b : Nat) (mv : AV) (n : Int) (l : FiL) (k v : ByteArray) (hk : k.size ≤ 140737488351232) (hv : v.size ≤ 140737488351232) (h : StG G b mv n (bk fav l)) : CallOk Try.prog TT 53 [.gptr b 0, .str k, .str v] G (fun x G' => x = .int .i64 (fgrow l k v) ∧ G' = G) := by
  have hg := ffind_ok G b mv n l k h
  unfold ffind at hg
  unfold fgrow
  cases hq : lget l k with
  | some w =>
    simp only [hq] at hg
    refine call_body tt_ok Try.func53 rfl (by kernel_rfl) Try.ntmps53 Try.results53 ?_; conv => whnf
    refine hg.on ?_; conv => whnf
    repeat' (first | (refine BS_t (by assumption) ?_; conv => whnf) | (refine BS_f (by assumption) ?_; conv => whnf) | (refine atG (by first | assumption | exact setG_same _ _ _ | (refine Eq.trans (setG_ne _ _ (by first | assumption | exact Ne.symm (by assumption))) ?_; first | assumption | exact setG_same _ _ _ | (refine Eq.trans (setG_ne _ _ (by first | assumption | exact Ne.symm (by assumption))) ?_; first | assumption | exact setG_same _ _ _ | (refine Eq.trans (setG_ne _ _ (by first | assumption | exact Ne.symm (by assumption))) ?_; first | assumption | exact setG_same _ _ _)))) ?_; conv => whnf) | (refine (nthK_iff _ _).2 ⟨_, (by assumption), ?_⟩; conv => whnf) | (refine Exists.intro _ (And.intro (And.intro (by omega) (by assumption)) ?_); conv => whnf) | (refine And.intro (by first | decide | omega) ?_; conv => whnf) | fail)
    refine ⟨_, fun _ _ h => h, ?_, rfl⟩
    rw [IntWalk.i64_in (16 + (v.size : Int)) (by omega)]
  | none =>
    simp only [hq] at hg
    refine call_body tt_ok Try.func53 rfl (by kernel_rfl) Try.ntmps53 Try.results53 ?_; conv => whnf
    refine hg.on ?_; conv => whnf
    repeat' (first | (refine BS_t (by assumption) ?_; conv => whnf) | (refine BS_f (by assumption) ?_; conv => whnf) | (refine atG (by first | assumption | exact setG_same _ _ _ | (refine Eq.trans (setG_ne _ _ (by first | assumption | exact Ne.symm (by assumption))) ?_; first | assumption | exact setG_same _ _ _ | (refine Eq.trans (setG_ne _ _ (by first | assumption | exact Ne.symm (by assumption))) ?_; first | assumption | exact setG_same _ _ _ | (refine Eq.trans (setG_ne _ _ (by first | assumption | exact Ne.symm (by assumption))) ?_; first | assumption | exact setG_same _ _ _)))) ?_; conv => whnf) | (refine (nthK_iff _ _).2 ⟨_, (by assumption), ?_⟩; conv => whnf) | (refine Exists.intro _ (And.intro (And.intro (by omega) (by assumption)) ?_); conv => whnf) | (refine And.intro (by first | decide | omega) ?_; conv => whnf) | fail)
    refine ⟨_, fun _ _ h => h, ?_, rfl⟩
    rw [IntWalk.i64_in (16 + (v.size : Int)) (by omega), IntWalk.i64_in (16 + (k.size : Int)) (by omega), IntWalk.i64_in _ (by omega)]
theorem fsize_ok (G : Glob) (b : Nat) (mv : AV) (n : Int) (l : FiL) (h : StG G b mv n (bk fav l)) : CallOk Try.prog TT 58 [.gptr b 0] G (fun v G' => v = .int .i64 n ∧ G' = G) := by
  obtain ⟨h1, -⟩ := h
  refine call_body tt_ok Try.func58 rfl (by kernel_rfl) Try.ntmps58 Try.results58 ?_; conv => whnf
  repeat' (first | (refine BS_t (by assumption) ?_; conv => whnf) | (refine BS_f (by assumption) ?_; conv => whnf) | (refine atG (by first | assumption | exact setG_same _ _ _ | (refine Eq.trans (setG_ne _ _ (by first | assumption | exact Ne.symm (by assumption))) ?_; first | assumption | exact setG_same _ _ _ | (refine Eq.trans (setG_ne _ _ (by first | assumption | exact Ne.symm (by assumption))) ?_; first | assumption | exact setG_same _ _ _ | (refine Eq.trans (setG_ne _ _ (by first | assumption | exact Ne.symm (by assumption))) ?_; first | assumption | exact setG_same _ _ _)))) ?_; conv => whnf) | (refine (nthK_iff _ _).2 ⟨_, (by assumption), ?_⟩; conv => whnf) | (refine Exists.intro _ (And.intro (And.intro (by omega) (by assumption)) ?_); conv => whnf) | (refine And.intro (by first | decide | omega) ?_; conv => whnf) | fail)
  exact ⟨_, fun _ _ h => h, rfl, rfl⟩
theorem fsize_nil (G : Glob) : CallOk Try.prog TT 58 [.nilp] G (fun v G' => v = .int .i64 0 ∧ G' = G) := by
  refine call_body tt_ok Try.func58 rfl (by kernel_rfl) Try.ntmps58 Try.results58 ?_; conv => whnf
  repeat' (first | (refine BS_t (by assumption) ?_; conv => whnf) | (refine BS_f (by assumption) ?_; conv => whnf) | (refine atG (by first | assumption | exact setG_same _ _ _ | (refine Eq.trans (setG_ne _ _ (by first | assumption | exact Ne.symm (by assumption))) ?_; first | assumption | exact setG_same _ _ _ | (refine Eq.trans (setG_ne _ _ (by first | assumption | exact Ne.symm (by assumption))) ?_; first | assumption | exact setG_same _ _ _ | (refine Eq.trans (setG_ne _ _ (by first | assumption | exact Ne.symm (by assumption))) ?_; first | assumption | exact setG_same _ _ _)))) ?_; conv => whnf) | (refine (nthK_iff _ _).2 ⟨_, (by assumption), ?_⟩; conv => whnf) | (refine Exists.intro _ (And.intro (And.intro (by omega) (by assumption)) ?_); conv => whnf) | (refine And.intro (by first | decide | omega) ?_; conv => whnf) | fail)
  exact ⟨_, fun _ _ h => h, rfl, rfl⟩
theorem fnames_nil (G : Glob) : CallOk Try.prog TT 61 [.nilp] G (fun v G' => v = .nils ∧ G' = G) := by
  refine call_body tt_ok Try.func61 rfl (by kernel_rfl) Try.ntmps61 Try.results61 ?_; conv => whnf
  repeat' (first | (refine BS_t (by assumption) ?_; conv => whnf) | (refine BS_f (by assumption) ?_; conv => whnf) | (refine atG (by first | assumption | exact setG_same _ _ _ | (refine Eq.trans (setG_ne _ _ (by first | assumption | exact Ne.symm (by assumption))) ?_; first | assumption | exact setG_same _ _ _ | (refine Eq.trans (setG_ne _ _ (by first | assumption | exact Ne.symm (by assumption))) ?_; first | assumption | exact setG_same _ _ _ | (refine Eq.trans (setG_ne _ _ (by first | assumption | exact Ne.symm (by assumption))) ?_; first | assumption | exact setG_same _ _ _)))) ?_; conv => whnf) | (refine (nthK_iff _ _).2 ⟨_, (by assumption), ?_⟩; conv => whnf) | (refine Exists.intro _ (And.intro (And.intro (by omega) (by assumption)) ?_); conv => whnf) | (refine And.intro (by first | decide | omega) ?_; conv => whnf) | fail)
  exact ⟨_, fun _ _ h => h, rfl, rfl⟩
theorem fpush_nil (G : Glob) (k v : ByteArray) : CallOk Try.prog TT 55 [.nilp, .str k, .str v] G (fun x G' => x = .tup [] ∧ G' = G) := by
  refine call_body tt_ok Try.func55 rfl (by kernel_rfl) Try.ntmps55 Try.results55 ?_; conv => whnf
  repeat' (first | (refine BS_t (by assumption) ?_; conv => whnf) | (refine BS_f (by assumption) ?_; conv => whnf) | (refine atG (by first | assumption | exact setG_same _ _ _ | (refine Eq.trans (setG_ne _ _ (by first | assumption | exact Ne.symm (by assumption))) ?_; first | assumption | exact setG_same _ _ _ | (refine Eq.trans (setG_ne _ _ (by first | assumption | exact Ne.symm (by assumption))) ?_; first | assumption | exact setG_same _ _ _ | (refine Eq.trans (setG_ne _ _ (by first | assumption | exact Ne.symm (by assumption))) ?_; first | assumption | exact setG_same _ _ _)))) ?_; conv => whnf) | (refine (nthK_iff _ _).2 ⟨_, (by assumption), ?_⟩; conv => whnf) | (refine Exists.intro _ (And.intro (And.intro (by omega) (by assumption)) ?_); conv => whnf) | (refine And.intro (by first | decide | omega) ?_; conv => whnf) | fail)
  exact ⟨_, fun _ _ h => h, rfl, rfl⟩
theorem fpop_nil (G : Glob) (k : ByteArray) : CallOk Try.prog TT 56 [.nilp, .str k] G (fun x G' => x = .tup [.str ⟨#[]⟩, .bool false] ∧ G' = G) := by
  refine call_body tt_ok Try.func56 rfl (by kernel_rfl) Try.ntmps56 Try.results56 ?_; conv => whnf
  refine (ffind_nil _ k).on ?_; conv => whnf
  repeat' (first | (refine BS_t (by assumption) ?_; conv => whnf) | (refine BS_f (by assumption) ?_; conv => whnf) | (refine atG (by first | assumption | exact setG_same _ _ _ | (refine Eq.trans (setG_ne _ _ (by first | assumption | exact Ne.symm (by assumption))) ?_; first | assumption | exact setG_same _ _ _ | (refine Eq.trans (setG_ne _ _ (by first | assumption | exact Ne.symm (by assumption))) ?_; first | assumption | exact setG_same _ _ _ | (refine Eq.trans (setG_ne _ _ (by first | assumption | exact Ne.symm (by assumption))) ?_; first | assumption | exact setG_same _ _ _)))) ?_; conv => whnf) | (refine (nthK_iff _ _).2 ⟨_, (by assumption), ?_⟩; conv => whnf) | (refine Exists.intro _ (And.intro (And.intro (by omega) (by assumption)) ?_); conv => whnf) | (refine And.intro (by first | decide | omega) ?_; conv => whnf) | fail)
  exact ⟨_, fun _ _ h => h, rfl, rfl⟩
theorem fwaits_nil (G : Glob) (k : ByteArray) : CallOk Try.prog TT 59 [.nilp, .str k] G (fun x G' => x = .int .i64 0 ∧ G' = G) := by
  refine call_body tt_ok Try.func59 rfl (by kernel_rfl) Try.ntmps59 Try.results59 ?_; conv => whnf
  refine (ffind_nil _ k).on ?_; conv => whnf
  repeat' (first | (refine BS_t (by assumption) ?_; conv => whnf) | (refine BS_f (by assumption) ?_; conv => whnf) | (refine atG (by first | assumption | exact setG_same _ _ _ | (refine Eq.trans (setG_ne _ _ (by first | assumption | exact Ne.symm (by assumption))) ?_; first | assumption | exact setG_same _ _ _ | (refine Eq.trans (setG_ne _ _ (by first | assumption | exact Ne.symm (by assumption))) ?_; first | assumption | exact setG_same _ _ _ | (refine Eq.trans (setG_ne _ _ (by first | assumption | exact Ne.symm (by assumption))) ?_; first | assumption | exact setG_same _ _ _)))) ?_; conv => whnf) | (refine (nthK_iff _ _).2 ⟨_, (by assumption), ?_⟩; conv => whnf) | (refine Exists.intro _ (And.intro (And.intro (by omega) (by assumption)) ?_); conv => whnf) | (refine And.intro (by first | decide | omega) ?_; conv => whnf) | fail)
  exact ⟨_, fun _ _ h => h, rfl, rfl⟩
theorem fwaits_ok (G : Glob) (b : Nat) (mv : AV) (n : Int) (l : FiL) (k : ByteArray) (h : StG G b mv n (bk fav l)) (hl : ∀ x, lget l k = some x → QueG G x) : CallOk Try.prog TT 59 [.gptr b 0, .str k] G (fun x G' => x = .int .i64 (match lget l k with | some x => (x.2.length : Int) | none => 0) ∧ G' = G) := by
  have hg := ffind_ok G b mv n l k h
  unfold ffind at hg
  cases hq : lget l k with
  | some w =>
    obtain ⟨⟨lp, h1, -⟩, -⟩ := hl w hq
    simp only [hq] at hg
    refine call_body tt_ok Try.func59 rfl (by kernel_rfl) Try.ntmps59 Try.results59 ?_; conv => whnf
    refine hg.on ?_; conv => whnf
    repeat' (first | (refine BS_t (by assumption) ?_; conv => whnf) | (refine BS_f (by assumption) ?_; conv => whnf) | (refine atG (by first | assumption | exact setG_same _ _ _ | (refine Eq.trans (setG_ne _ _ (by first | assumption | exact Ne.symm (by assumption))) ?_; first | assumption | exact setG_same _ _ _ | (refine Eq.trans (setG_ne _ _ (by first | assumption | exact Ne.symm (by assumption))) ?_; first | assumption | exact setG_same _ _ _ | (refine Eq.trans (setG_ne _ _ (by first | assumption | exact Ne.symm (by assumption))) ?_; first | assumption | exact setG_same _ _ _)))) ?_; conv => whnf) | (refine (nthK_iff _ _).2 ⟨_, (by assumption), ?_⟩; conv => whnf) | (refine Exists.intro _ (And.intro (And.intro (by omega) (by assumption)) ?_); conv => whnf) | (refine And.intro (by first | decide | omega) ?_; conv => whnf) | fail)
    exact ⟨_, fun _ _ h => h, rfl, rfl⟩
  | none =>
    simp only [hq] at hg
    refine call_body tt_ok Try.func59 rfl (by kernel_rfl) Try.ntmps59 Try.results59 ?_; conv => whnf
    refine hg.on ?_; conv => whnf
    repeat' (first | (refine BS_t (by assumption) ?_; conv => whnf) | (refine BS_f (by assumption) ?_; conv => whnf) | (refine atG (by first | assumption | exact setG_same _ _ _ | (refine Eq.trans (setG_ne _ _ (by first | assumption | exact Ne.symm (by assumption))) ?_; first | assumption | exact setG_same _ _ _ | (refine Eq.trans (setG_ne _ _ (by first | assumption | exact Ne.symm (by assumption))) ?_; first | assumption | exact setG_same _ _ _ | (refine Eq.trans (setG_ne _ _ (by first | assumption | exact Ne.symm (by assumption))) ?_; first | assumption | exact setG_same _ _ _)))) ?_; conv => whnf) | (refine (nthK_iff _ _).2 ⟨_, (by assumption), ?_⟩; conv => whnf) | (refine Exists.intro _ (And.intro (And.intro (by omega) (by assumption)) ?_); conv => whnf) | (refine And.intro (by first | decide | omega) ?_; conv => whnf) | fail)
    exact ⟨_, fun _ _ h => h, rfl, rfl⟩
theorem fpushq_nil (G : Glob) (q : Nat) (lp : AV) (s : ByteArray) (h : G q = some (.cells [.nilp, lp, .int .i64 (0 : Nat)])) :
    CallOk Try.prog TT 108 [.gptr q 0, .str s] G (fun x G' => x = .tup [] ∧ ∃ j, G j = none ∧ QueG G' (q, [(j, s)]) ∧ ∀ i y, G i = some y → i ≠ q → G' i = some y) := by
  refine call_sem tt_ok Try.func108 rfl (by kernel_rfl) Try.ntmps108 Try.results108 ?_; conv => whnf
  repeat' (first | (refine Sem.reg tt_ok ?_; conv => whnf) | refine Sem.seqS ?_ | (refine Sem.condS ?_; conv => whnf) | refine Sem.block ?_ | (refine Sem.regL tt_ok ?_; conv => whnf) | (refine Sem.skip tt_ok ?_; conv => whnf) | (refine Sem.exit tt_ok ?_; conv => whnf) | (refine Sem.ret tt_ok ?_; conv => whnf) | (refine BS_t (by assumption) ?_; conv => whnf) | (refine BS_f (by assumption) ?_; conv => whnf) | (refine atG (by first | assumption | exact setG_same _ _ _ | (refine Eq.trans (setG_ne _ _ (by first | assumption | exact Ne.symm (by assumption))) ?_; first | assumption | exact setG_same _ _ _ | (refine Eq.trans (setG_ne _ _ (by first | assumption | exact Ne.symm (by assumption))) ?_; first | assumption | exact setG_same _ _ _ | (refine Eq.trans (setG_ne _ _ (by first | assumption | exact Ne.symm (by assumption))) ?_; first | assumption | exact setG_same _ _ _)))) ?_; conv => whnf) | (refine (nthK_iff _ _).2 ⟨_, (by assumption), ?_⟩; conv => whnf) | (refine Exists.intro _ (And.intro (And.intro (by omega) (by assumption)) ?_); conv => whnf) | (refine And.intro (by first | decide | omega) ?_; conv => whnf) | fail)
  intro j hj
  conv => whnf
  have hne : j ≠ q := by rintro rfl; simp [h] at hj
  repeat' (first | (refine Sem.reg tt_ok ?_; conv => whnf) | refine Sem.seqS ?_ | (refine Sem.condS ?_; conv => whnf) | refine Sem.block ?_ | (refine Sem.regL tt_ok ?_; conv => whnf) | (refine Sem.skip tt_ok ?_; conv => whnf) | (refine Sem.exit tt_ok ?_; conv => whnf) | (refine Sem.ret tt_ok ?_; conv => whnf) | (refine BS_t (by assumption) ?_; conv => whnf) | (refine BS_f (by assumption) ?_; conv => whnf) | (refine atG (by first | assumption | exact setG_same _ _ _ | (refine Eq.trans (setG_ne _ _ (by first | assumption | exact Ne.symm (by assumption))) ?_; first | assumption | exact setG_same _ _ _ | (refine Eq.trans (setG_ne _ _ (by first | assumption | exact Ne.symm (by assumption))) ?_; first | assumption | exact setG_same _ _ _ | (refine Eq.trans (setG_ne _ _ (by first | assumption | exact Ne.symm (by assumption))) ?_; first | assumption | exact setG_same _ _ _)))) ?_; conv => whnf) | (refine (nthK_iff _ _).2 ⟨_, (by assumption), ?_⟩; conv => whnf) | (refine Exists.intro _ (And.intro (And.intro (by omega) (by assumption)) ?_); conv => whnf) | (refine And.intro (by first | decide | omega) ?_; conv => whnf) | fail)
  refine ⟨_, fun _ _ h => h, rfl, j, hj, ⟨⟨.gptr j 0, ?_, fun y hy => ?_⟩, ?_, trivial⟩, fun i y hi hq => ?_⟩
  · first | assumption | exact setG_same _ _ _ | (refine Eq.trans (setG_ne _ _ (by first | assumption | exact Ne.symm (by assumption))) ?_; first | assumption | exact setG_same _ _ _ | (refine Eq.trans (setG_ne _ _ (by first | assumption | exact Ne.symm (by assumption))) ?_; first | assumption | exact setG_same _ _ _ | (refine Eq.trans (setG_ne _ _ (by first | assumption | exact Ne.symm (by assumption))) ?_; first | assumption | exact setG_same _ _ _)))
  · cases hy; rfl
  · first | assumption | exact setG_same _ _ _ | (refine Eq.trans (setG_ne _ _ (by first | assumption | exact Ne.symm (by assumption))) ?_; first | assumption | exact setG_same _ _ _ | (refine Eq.trans (setG_ne _ _ (by first | assumption | exact Ne.symm (by assumption))) ?_; first | assumption | exact setG_same _ _ _ | (refine Eq.trans (setG_ne _ _ (by first | assumption | exact Ne.symm (by assumption))) ?_; first | assumption | exact setG_same _ _ _)))
  · have : i ≠ j := by rintro rfl; simp [hj] at hi
    simpa [setG, hq, this] using hi
theorem fpushq_ok (G : Glob) (q k i : Nat) (x : AV) (s t : ByteArray) (n : Int) (n0 : 0 ≤ n) (n1 : n ≤ 4611686018427387904) (h : G q = some (.cells [.gptr k 0, .gptr i 0, .int .i64 n])) (hi : G i = some (.cells [.str t, x])) :
    CallOk Try.prog TT 108 [.gptr q 0, .str s] G (fun x G' => x = .tup [] ∧ ∃ j, G j = none ∧ G' q = some (.cells [.gptr k 0, .gptr j 0, .int .i64 (n + 1)]) ∧ G' i = some (.cells [.str t, .gptr j 0]) ∧ G' j = some (.cells [.str s, .nilp]) ∧ ∀ z y, G z = some y → z ≠ q → z ≠ i → G' z = some y) := by
  have hqi : q ≠ i := by rintro rfl; simp [h] at hi
  refine call_sem tt_ok Try.func108 rfl (by kernel_rfl) Try.ntmps108 Try.results108 ?_; conv => whnf
  repeat' (first | (refine Sem.reg tt_ok ?_; conv => whnf) | refine Sem.seqS ?_ | (refine Sem.condS ?_; conv => whnf) | refine Sem.block ?_ | (refine Sem.regL tt_ok ?_; conv => whnf) | (refine Sem.skip tt_ok ?_; conv => whnf) | (refine Sem.exit tt_ok ?_; conv => whnf) | (refine Sem.ret tt_ok ?_; conv => whnf) | (refine BS_t (by assumption) ?_; conv => whnf) | (refine BS_f (by assumption) ?_; conv => whnf) | (refine atG (by first | assumption | exact setG_same _ _ _ | (refine Eq.trans (setG_ne _ _ (by first | assumption | exact Ne.symm (by assumption))) ?_; first | assumption | exact setG_same _ _ _ | (refine Eq.trans (setG_ne _ _ (by first | assumption | exact Ne.symm (by assumption))) ?_; first | assumption | exact setG_same _ _ _ | (refine Eq.trans (setG_ne _ _ (by first | assumption | exact Ne.symm (by assumption))) ?_; first | assumption | exact setG_same _ _ _)))) ?_; conv => whnf) | (refine (nthK_iff _ _).2 ⟨_, (by assumption), ?_⟩; conv => whnf) | (refine Exists.intro _ (And.intro (And.intro (by omega) (by assumption)) ?_); conv => whnf) | (refine And.intro (by first | decide | omega) ?_; conv => whnf) | fail)
  intro j hj
  conv => whnf
  have hne : j ≠ q := by rintro rfl; simp [h] at hj
  have hni : j ≠ i := by rintro rfl; simp [hi] at hj
  repeat' (first | (refine Sem.reg tt_ok ?_; conv => whnf) | refine Sem.seqS ?_ | (refine Sem.condS ?_; conv => whnf) | refine Sem.block ?_ | (refine Sem.regL tt_ok ?_; conv => whnf) | (refine Sem.skip tt_ok ?_; conv => whnf) | (refine Sem.exit tt_ok ?_; conv => whnf) | (refine Sem.ret tt_ok ?_; conv => whnf) | (refine BS_t (by assumption) ?_; conv => whnf) | (refine BS_f (by assumption) ?_; conv => whnf) | (refine atG (by first | assumption | exact setG_same _ _ _ | (refine Eq.trans (setG_ne _ _ (by first | assumption | exact Ne.symm (by assumption))) ?_; first | assumption | exact setG_same _ _ _ | (refine Eq.trans (setG_ne _ _ (by first | assumption | exact Ne.symm (by assumption))) ?_; first | assumption | exact setG_same _ _ _ | (refine Eq.trans (setG_ne _ _ (by first | assumption | exact Ne.symm (by assumption))) ?_; first | assumption | exact setG_same _ _ _)))) ?_; conv => whnf) | (refine (nthK_iff _ _).2 ⟨_, (by assumption), ?_⟩; conv => whnf) | (refine Exists.intro _ (And.intro (And.intro (by omega) (by assumption)) ?_); conv => whnf) | (refine And.intro (by first | decide | omega) ?_; conv => whnf) | fail)
  rw [IntWalk.i64_in (n + 1) (by omega)]
  refine ⟨_, fun _ _ h => h, rfl, j, hj, ?_, ?_, ?_, fun z y hz hq hi => ?_⟩
  · first | assumption | exact setG_same _ _ _ | (refine Eq.trans (setG_ne _ _ (by first | assumption | exact Ne.symm (by assumption))) ?_; first | assumption | exact setG_same _ _ _ | (refine Eq.trans (setG_ne _ _ (by first | assumption | exact Ne.symm (by assumption))) ?_; first | assumption | exact setG_same _ _ _ | (refine Eq.trans (setG_ne _ _ (by first | assumption | exact Ne.symm (by assumption))) ?_; first | assumption | exact setG_same _ _ _)))
  · first | assumption | exact setG_same _ _ _ | (refine Eq.trans (setG_ne _ _ (by first | assumption | exact Ne.symm (by assumption))) ?_; first | assumption | exact setG_same _ _ _ | (refine Eq.trans (setG_ne _ _ (by first | assumption | exact Ne.symm (by assumption))) ?_; first | assumption | exact setG_same _ _ _ | (refine Eq.trans (setG_ne _ _ (by first | assumption | exact Ne.symm (by assumption))) ?_; first | assumption | exact setG_same _ _ _)))
  · first | assumption | exact setG_same _ _ _ | (refine Eq.trans (setG_ne _ _ (by first | assumption | exact Ne.symm (by assumption))) ?_; first | assumption | exact setG_same _ _ _ | (refine Eq.trans (setG_ne _ _ (by first | assumption | exact Ne.symm (by assumption))) ?_; first | assumption | exact setG_same _ _ _ | (refine Eq.trans (setG_ne _ _ (by first | assumption | exact Ne.symm (by assumption))) ?_; first | assumption | exact setG_same _ _ _)))
  · have : z ≠ j := by rintro rfl; simp [hj] at hz
    simpa [setG, hq, hi, this] using hz
theorem fpopq_ok (G : Glob) (q i : Nat) (r : List (Nat × ByteArray)) (lp : AV) (t : ByteArray) (n : Int) (n0 : 1 ≤ n) (n1 : n ≤ 4611686018427387904) (h : G q = some (.cells [.gptr i 0, lp, .int .i64 n])) (hi : G i = some (.cells [.str t, nextP r])) :
    CallOk Try.prog TT 109 [.gptr q 0] G (fun v G' => v = .str t ∧ G' = setG G q (.cells [nextP r, lp, .int .i64 (n - 1)])) := by
  have hqi : q ≠ i := by rintro rfl; simp [h] at hi
  cases r with
  | nil =>
    simp only [nextP] at hi ⊢
    refine call_sem tt_ok Try.func109 rfl (by kernel_rfl) Try.ntmps109 Try.results109 ?_; conv => whnf
    repeat' (first | (refine Sem.reg tt_ok ?_; conv => whnf) | refine Sem.seqS ?_ | (refine Sem.condS ?_; conv => whnf) | refine Sem.block ?_ | (refine Sem.regL tt_ok ?_; conv => whnf) | (refine Sem.skip tt_ok ?_; conv => whnf) | (refine Sem.exit tt_ok ?_; conv => whnf) | (refine Sem.ret tt_ok ?_; conv => whnf) | (refine BS_t (by assumption) ?_; conv => whnf) | (refine BS_f (by assumption) ?_; conv => whnf) | (refine atG (by first | assumption | exact setG_same _ _ _ | (refine Eq.trans (setG_ne _ _ (by first | assumption | exact Ne.symm (by assumption))) ?_; first | assumption | exact setG_same _ _ _ | (refine Eq.trans (setG_ne _ _ (by first | assumption | exact Ne.symm (by assumption))) ?_; first | assumption | exact setG_same _ _ _ | (refine Eq.trans (setG_ne _ _ (by first | assumption | exact Ne.symm (by assumption))) ?_; first | assumption | exact setG_same _ _ _)))) ?_; conv => whnf) | (refine (nthK_iff _ _).2 ⟨_, (by assumption), ?_⟩; conv => whnf) | (refine Exists.intro _ (And.intro (And.intro (by omega) (by assumption)) ?_); conv => whnf) | (refine And.intro (by first | decide | omega) ?_; conv => whnf) | fail)
    rw [IntWalk.i64_in (n - 1) (by omega), setG_twice]
    exact ⟨_, fun _ _ h => h, rfl, rfl⟩
  | cons a r =>
    obtain ⟨j, u⟩ := a
    simp only [nextP] at hi ⊢
    refine call_sem tt_ok Try.func109 rfl (by kernel_rfl) Try.ntmps109 Try.results109 ?_; conv => whnf
    repeat' (first | (refine Sem.reg tt_ok ?_; conv => whnf) | refine Sem.seqS ?_ | (refine Sem.condS ?_; conv => whnf) | refine Sem.block ?_ | (refine Sem.regL tt_ok ?_; conv => whnf) | (refine Sem.skip tt_ok ?_; conv => whnf) | (refine Sem.exit tt_ok ?_; conv => whnf) | (refine Sem.ret tt_ok ?_; conv => whnf) | (refine BS_t (by assumption) ?_; conv => whnf) | (refine BS_f (by assumption) ?_; conv => whnf) | (refine atG (by first | assumption | exact setG_same _ _ _ | (refine Eq.trans (setG_ne _ _ (by first | assumption | exact Ne.symm (by assumption))) ?_; first | assumption | exact setG_same _ _ _ | (refine Eq.trans (setG_ne _ _ (by first | assumption | exact Ne.symm (by assumption))) ?_; first | assumption | exact setG_same _ _ _ | (refine Eq.trans (setG_ne _ _ (by first | assumption | exact Ne.symm (by assumption))) ?_; first | assumption | exact setG_same _ _ _)))) ?_; conv => whnf) | (refine (nthK_iff _ _).2 ⟨_, (by assumption), ?_⟩; conv => whnf) | (refine Exists.intro _ (And.intro (And.intro (by omega) (by assumption)) ?_); conv => whnf) | (refine And.intro (by first | decide | omega) ?_; conv => whnf) | fail)
    rw [IntWalk.i64_in (n - 1) (by omega), setG_twice]
    exact ⟨_, fun _ _ h => h, rfl, rfl⟩
theorem seg_mono {G G' : Glob} : ∀ {l : List (Nat × ByteArray)}, SegG G l → (∀ i y, i ∈ l.map (·.1) → G i = some y → G' i = some y) → SegG G' l
  | [], _, _ => trivial
  | (i, s) :: r, h, hk => ⟨hk i _ (by simp) h.1, seg_mono h.2 fun z y hz => hk z y (by simp only [List.map_cons, List.mem_cons]; exact .inr hz)⟩
theorem que_mono {G G' : Glob} {x : Qu} (h : QueG G x) (hk : ∀ i y, (i = x.1 ∨ i ∈ x.2.map (·.1)) → G i = some y → G' i = some y) : QueG G' x := by
  obtain ⟨⟨lp, h1, h2⟩, h3⟩ := h
  exact ⟨⟨lp, hk _ _ (.inl rfl) h1, h2⟩, seg_mono h3 fun i y hi => hk i y (.inr hi)⟩
theorem seg_push {G G' : Glob} {i j : Nat} {s t : ByteArray} : ∀ {pre : List (Nat × ByteArray)}, SegG G (pre ++ [(i, t)]) → G' i = some (.cells [.str t, .gptr j 0]) → G' j = some (.cells [.str s, .nilp]) → (∀ z y, z ∈ pre.map (·.1) → G z = some y → G' z = some y) → SegG G' (pre ++ [(i, t), (j, s)])
  | [], _, hi, hj, _ => ⟨hi, hj, trivial⟩
  | [(k, u)], h, hi, hj, hk => ⟨hk k _ (by simp) h.1, hi, hj, trivial⟩
  | (k, u) :: (k', u') :: r, h, hi, hj, hk => ⟨hk k _ (by simp) h.1, seg_push (pre := (k', u') :: r) h.2 hi hj fun z y hz => hk z y (by simp only [List.map_cons, List.mem_cons] at hz ⊢; exact .inr hz)⟩
theorem seg_at {G : Glob} : ∀ {pre : List (Nat × ByteArray)} {i : Nat} {t : ByteArray} {r : List (Nat × ByteArray)}, SegG G (pre ++ (i, t) :: r) → G i = some (.cells [.str t, nextP r])
  | [], _, _, _, h => h.1
  | (_, _) :: _, _, _, _, h => seg_at h.2
theorem seg_two {G : Glob} {l : List (Nat × ByteArray)} (h : SegG G l) {i : Nat} (hi : i ∈ l.map (·.1)) : ∃ t x, G i = some (.cells [.str t, x]) := by
  induction l with
  | nil => cases hi
  | cons a r ih =>
    obtain ⟨k, u⟩ := a
    rcases List.mem_cons.1 hi with rfl | hi
    · exact ⟨_, _, h.1⟩
    · exact ih h.2 hi
/-- a queue's push -/
theorem fpushQ (G : Glob) (q : Nat) (ls : List (Nat × ByteArray)) (s : ByteArray) (hn : ls.length ≤ 4611686018427387904) (hd : (ls.map (·.1)).Nodup) (h : QueG G (q, ls)) :
    CallOk Try.prog TT 108 [.gptr q 0, .str s] G (fun x G' => x = .tup [] ∧ ∃ j, G j = none ∧ QueG G' (q, ls ++ [(j, s)]) ∧ ∀ z y, G z = some y → z ≠ q → z ∉ ls.map (·.1) → G' z = some y) := by
  obtain ⟨⟨lp, h1, h2⟩, h3⟩ := h
  rcases List.eq_nil_or_concat ls with rfl | ⟨pre, ⟨i, t⟩, rfl⟩
  · refine (fpushq_nil G q lp s h1).mono fun v G' hv => ?_
    obtain ⟨rfl, j, hj, hq, hk⟩ := hv
    exact ⟨rfl, j, hj, hq, fun z y hz hzq _ => hk z y hz hzq⟩
  · rw [List.concat_eq_append] at *
    have hl := h2 (i, t) (by simp)
    have hi := seg_at (r := []) h3
    have hne : ∃ k, nextP (pre ++ [(i, t)]) = .gptr k 0 ∧ ∀ j, nextP (pre ++ [(i, t)] ++ [(j, s)]) = .gptr k 0 := by
      cases pre with
      | nil => exact ⟨i, rfl, fun _ => rfl⟩
      | cons a r => exact ⟨a.1, rfl, fun _ => rfl⟩
    obtain ⟨k, hk, hk'⟩ := hne
    simp only [hk, hl] at h1
    refine (fpushq_ok G q k i _ s t _ (by omega) (by omega) h1 hi).mono fun v G' hv => ?_
    obtain ⟨rfl, j, hj, g1, g2, g3, g4⟩ := hv
    refine ⟨rfl, j, hj, ⟨⟨.gptr j 0, ?_, fun y hy => ?_⟩, ?_⟩, fun z y hz hzq hzl => g4 z y hz hzq ?_⟩
    · simp only [hk' j]
      rw [g1]
      simp
      omega
    · simp at hy
      subst hy
      rfl
    · simp only [List.append_assoc, List.cons_append, List.nil_append]
      refine seg_push h3 g2 g3 fun z y hz hy => g4 z y hy ?_ ?_
      · rintro rfl
        have : z ∈ (pre ++ [(i, t)]).map (·.1) := by simp only [List.map_append, List.mem_append]; exact .inl hz
        obtain ⟨u, x, hx⟩ := seg_two h3 this
        simp [h1] at hx
      · rintro rfl
        simp only [List.map_append, List.map_cons, List.map_nil] at hd
        exact (List.nodup_append.1 hd).2.2 z hz z (by simp) rfl
    · rintro rfl
      exact hzl (by simp)
def HallG (G : Glob) (b : Nat) (mv : AV) (n : Int) (l : FiL) : Prop :=
  StG G b mv n (bk fav l) ∧ (l.map (·.1)).Nodup ∧ (∀ e ∈ l, e.2.2 ≠ [] ∧ QueG G e.2 ∧ (e.2.2.map (·.1)).Nodup ∧ e.2.2.length ≤ 4611686018427387904) ∧ ∀ e ∈ l, ∀ e' ∈ l, e.1 ≠ e'.1 → e.2.1 ≠ e'.2.1 ∧ ∀ z ∈ e.2.2.map (·.1), z ∉ e'.2.2.map (·.1)
theorem hall_put {G G' : Glob} {b : Nat} {mv mv' : AV} {n n' : Int} {l : FiL} {k : ByteArray} {x : Qu} (h : HallG G b mv n l) (h1 : StG G' b mv' n' (bk fav (lput l k x))) (h2 : x.2 ≠ [] ∧ QueG G' x ∧ (x.2.map (·.1)).Nodup ∧ x.2.length ≤ 4611686018427387904)
    (h3 : ∀ e ∈ l, e.1 ≠ k → QueG G' e.2) (h4 : ∀ e ∈ l, e.1 ≠ k → e.2.1 ≠ x.1 ∧ ∀ z ∈ e.2.2.map (·.1), z ∉ x.2.map (·.1)) : HallG G' b mv' n' (lput l k x) := by
  obtain ⟨-, a2, a3, a4⟩ := h
  refine ⟨h1, nodup_lput k x l a2, fun e he => ?_, fun e he e' he' hne => ?_⟩
  · rcases mem_lput l a2 he with rfl | ⟨he, hk⟩
    · exact h2
    · obtain ⟨b1, -, b3⟩ := a3 e he
      exact ⟨b1, h3 e he hk, b3⟩
  · rcases mem_lput l a2 he with rfl | ⟨he, hk⟩ <;> rcases mem_lput l a2 he' with rfl | ⟨he', hk'⟩
    · exact absurd rfl hne
    · obtain ⟨c1, c2⟩ := h4 e' he' hk'
      exact ⟨fun q => c1 q.symm, fun z hz hz' => c2 z hz' hz⟩
    · exact h4 e he hk
    · exact a4 e he e' he' hne
theorem que_box {G : Glob} {x : Qu} {i : Nat} (h : QueG G x) (hi : i = x.1 ∨ i ∈ x.2.map (·.1)) : (∃ a b c, G i = some (.cells [a, b, c])) ∨ ∃ t y, G i = some (.cells [.str t, y]) := by
  rcases hi with rfl | hi
  · obtain ⟨⟨lp, h1, -⟩, -⟩ := h
    exact .inl ⟨_, _, _, h1⟩
  · exact .inr (seg_two h.2 hi)
theorem que_some {G : Glob} {x : Qu} {i : Nat} (h : QueG G x) (hi : i = x.1 ∨ i ∈ x.2.map (·.1)) : ∃ y, G i = some y := by
  rcases que_box h hi with ⟨a, b, c, h⟩ | ⟨t, y, h⟩ <;> exact ⟨_, h⟩
theorem que_off {G : Glob} {x y : Qu} (h : QueG G x) (h' : QueG G y) : x.1 ∉ y.2.map (·.1) := by
  intro hm
  obtain ⟨⟨lp, h1, -⟩, -⟩ := h
  obtain ⟨t, u, h2⟩ := seg_two h'.2 hm
  simp [h1] at h2
theorem hall_keep {G G' : Glob} {b : Nat} {mv : AV} {n : Int} {l : FiL} {k : ByteArray} (h : HallG G b mv n l)
    (hf : ∀ i y, G i = some y → i ≠ b → mv ≠ .mp i → (∀ x, lget l k = some x → i ≠ x.1 ∧ i ∉ x.2.map (·.1)) → G' i = some y) : ∀ e ∈ l, e.1 ≠ k → QueG G' e.2 := by
  obtain ⟨⟨b1, b2⟩, a2, a3, a4⟩ := id h
  refine fun e he hk => que_mono (a3 e he).2.1 fun i y hi hy => hf i y hy ?_ ?_ fun z hz => ?_
  · rintro rfl
    rcases que_box (a3 e he).2.1 hi with ⟨_, _, _, hq⟩ | ⟨_, _, hq⟩ <;> simp [b1] at hq
    rcases b2 with ⟨rfl, -⟩ | ⟨mb, rfl, -⟩
    · cases hq.1
    · cases hq.1
  · rintro rfl
    rcases b2 with ⟨h, -⟩ | ⟨mb, h, b2⟩
    · cases h
    · cases h
      rcases que_box (a3 e he).2.1 hi with ⟨_, _, _, hq⟩ | ⟨_, _, hq⟩ <;> simp [b2] at hq
  · have hm := lget_mem hz
    have c := a4 e he _ hm hk
    rcases hi with rfl | hi
    · exact ⟨c.1, que_off (a3 e he).2.1 (a3 _ hm).2.1⟩
    · refine ⟨?_, c.2 i hi⟩
      rintro rfl
      exact que_off (a3 _ hm).2.1 (a3 e he).2.1 hi
theorem hall_del {G G' : Glob} {b : Nat} {mv mv' : AV} {n n' : Int} {l : FiL} {k : ByteArray} (h : HallG G b mv n l) (h1 : StG G' b mv' n' (bk fav (ldel l k)))
    (hf : ∀ i y, G i = some y → i ≠ b → mv ≠ .mp i → (∀ x, lget l k = some x → i ≠ x.1 ∧ i ∉ x.2.map (·.1)) → G' i = some y) : HallG G' b mv' n' (ldel l k) := by
  obtain ⟨-, a2, a3, a4⟩ := id h
  refine ⟨h1, nodup_ldel k l a2, fun e he => ?_, fun e he e' he' hne => ?_⟩
  · obtain ⟨he, hk⟩ := mem_ldel l a2 he
    obtain ⟨c1, -, c3⟩ := a3 e he
    exact ⟨c1, hall_keep h hf e he hk, c3⟩
  · exact a4 e (mem_ldel l a2 he).1 e' (mem_ldel l a2 he').1 hne
theorem hall_turn {G G' : Glob} {b : Nat} {mv mv' : AV} {n n' : Int} {l : FiL} {k : ByteArray} {x : Qu} (h : HallG G b mv n l) (h1 : StG G' b mv' n' (bk fav (lput l k x))) (h2 : x.2 ≠ [] ∧ QueG G' x ∧ (x.2.map (·.1)).Nodup ∧ x.2.length ≤ 4611686018427387904)
    (hf : ∀ i y, G i = some y → i ≠ b → mv ≠ .mp i → (∀ x, lget l k = some x → i ≠ x.1 ∧ i ∉ x.2.map (·.1)) → G' i = some y)
    (h3 : G x.1 = none ∨ ∃ y, lget l k = some y ∧ x.1 = y.1) (h4 : ∀ z ∈ x.2.map (·.1), G z = none ∨ ∃ y, lget l k = some y ∧ z ∈ y.2.map (·.1)) : HallG G' b mv' n' (lput l k x) := by
  obtain ⟨⟨b1, b2⟩, a2, a3, a4⟩ := id h
  refine hall_put h h1 h2 (hall_keep h hf) fun e he hk => ⟨?_, fun z hz hz' => ?_⟩
  · intro hq
    rcases h3 with h3 | ⟨y, hy, h3⟩
    · obtain ⟨u, hu⟩ := que_some (a3 e he).2.1 (.inl rfl)
      rw [hq, h3] at hu
      cases hu
    · exact (a4 e he _ (lget_mem hy) hk).1 (hq.trans h3)
  · rcases h4 z hz' with h4 | ⟨y, hy, h4⟩
    · obtain ⟨u, hu⟩ := que_some (a3 e he).2.1 (.inr hz)
      rw [h4] at hu
      cases hu
    · exact (a4 e he _ (lget_mem hy) hk).2 z hz h4
theorem bk_put_fav (l : FiL) (k : ByteArray) (x : Qu) (r : List (Nat × ByteArray)) (h : lget l k = some x) : bk fav l = bk fav (lput l k (x.1, r)) := by
  induction l with
  | nil => cases h
  | cons a l ih =>
    obtain ⟨z, y⟩ := a
    by_cases hz : k = z
    · subst hz
      simp only [lget, decide_true, Option.some.injEq] at h
      subst h
      simp [lput, bk, fav]
    · simp only [lget, hz, decide_false] at h
      have := ih h
      simp only [lput, hz, decide_false]
      simp only [bk, List.map_cons] at this ⊢
      rw [this]
theorem fpush_ok (G : Glob) (b : Nat) (mv : AV) (n : Int) (l : FiL) (k v : ByteArray) (hk : k.size ≤ 140737488351232) (hv : v.size ≤ 140737488351232) (n0 : 0 ≤ n) (n1 : n ≤ 4611686018427387904) (h : HallG G b mv n l) (hc : ∀ x, lget l k = some x → x.2.length < 4611686018427387904) :
    CallOk Try.prog TT 55 [.gptr b 0, .str k, .str v] G (fun x G' => x = .tup [] ∧ ∃ mv' j q, HallG G' b mv' (n + fgrow l k v) (lput l k (match lget l k with | some x => (x.1, x.2 ++ [(j, v)]) | none => (q, [(j, v)])))) := by
  have hg := fgrows_ok G b mv n l k v hk hv h.1
  have hw : IntKind.i64.wrap (n + fgrow l k v) = n + fgrow l k v := IntWalk.i64_in _ (by
    unfold fgrow
    split <;> omega)
  obtain ⟨⟨h1, h2⟩, a2, a3, a4⟩ := id h
  rcases h2 with ⟨rfl, hl⟩ | ⟨mb, rfl, h2⟩
  · cases fbk_nil hl
    refine call_sem tt_ok Try.func55 rfl (by kernel_rfl) Try.ntmps55 Try.results55 ?_; conv => whnf
    repeat' (first | (refine Sem.reg tt_ok ?_; conv => whnf) | refine Sem.seqS ?_ | (refine Sem.condS ?_; conv => whnf) | refine Sem.block ?_ | (refine Sem.regL tt_ok ?_; conv => whnf) | (refine Sem.skip tt_ok ?_; conv => whnf) | (refine Sem.exit tt_ok ?_; conv => whnf) | (refine Sem.ret tt_ok ?_; conv => whnf) | (refine BS_t (by assumption) ?_; conv => whnf) | (refine BS_f (by assumption) ?_; conv => whnf) | (refine atG (by first | assumption | exact setG_same _ _ _ | (refine Eq.trans (setG_ne _ _ (by first | assumption | exact Ne.symm (by assumption))) ?_; first | assumption | exact setG_same _ _ _ | (refine Eq.trans (setG_ne _ _ (by first | assumption | exact Ne.symm (by assumption))) ?_; first | assumption | exact setG_same _ _ _ | (refine Eq.trans (setG_ne _ _ (by first | assumption | exact Ne.symm (by assumption))) ?_; first | assumption | exact setG_same _ _ _)))) ?_; conv => whnf) | (refine (nthK_iff _ _).2 ⟨_, (by assumption), ?_⟩; conv => whnf) | (refine Exists.intro _ (And.intro (And.intro (by omega) (by assumption)) ?_); conv => whnf) | (refine And.intro (by first | decide | omega) ?_; conv => whnf) | fail)
    refine draw_sound (eff := []) tt_ok (by kernel_rfl) (by kernel_rfl) ?_; conv => whnf
    repeat' (first | (refine BS_t (by assumption) ?_; conv => whnf) | (refine BS_f (by assumption) ?_; conv => whnf) | (refine atG (by first | assumption | exact setG_same _ _ _ | (refine Eq.trans (setG_ne _ _ (by first | assumption | exact Ne.symm (by assumption))) ?_; first | assumption | exact setG_same _ _ _ | (refine Eq.trans (setG_ne _ _ (by first | assumption | exact Ne.symm (by assumption))) ?_; first | assumption | exact setG_same _ _ _ | (refine Eq.trans (setG_ne _ _ (by first | assumption | exact Ne.symm (by assumption))) ?_; first | assumption | exact setG_same _ _ _)))) ?_; conv => whnf) | (refine (nthK_iff _ _).2 ⟨_, (by assumption), ?_⟩; conv => whnf) | (refine Exists.intro _ (And.intro (And.intro (by omega) (by assumption)) ?_); conv => whnf) | (refine And.intro (by first | decide | omega) ?_; conv => whnf) | fail)
    refine ⟨_, _, hg, ?_⟩; (conv => whnf); refine And.intro rfl ?_; conv => whnf
    repeat' (first | (refine BS_t (by assumption) ?_; conv => whnf) | (refine BS_f (by assumption) ?_; conv => whnf) | (refine atG (by first | assumption | exact setG_same _ _ _ | (refine Eq.trans (setG_ne _ _ (by first | assumption | exact Ne.symm (by assumption))) ?_; first | assumption | exact setG_same _ _ _ | (refine Eq.trans (setG_ne _ _ (by first | assumption | exact Ne.symm (by assumption))) ?_; first | assumption | exact setG_same _ _ _ | (refine Eq.trans (setG_ne _ _ (by first | assumption | exact Ne.symm (by assumption))) ?_; first | assumption | exact setG_same _ _ _)))) ?_; conv => whnf) | (refine (nthK_iff _ _).2 ⟨_, (by assumption), ?_⟩; conv => whnf) | (refine Exists.intro _ (And.intro (And.intro (by omega) (by assumption)) ?_); conv => whnf) | (refine And.intro (by first | decide | omega) ?_; conv => whnf) | fail)
    rw [hw]
    repeat' (first | (refine Sem.reg tt_ok ?_; conv => whnf) | refine Sem.seqS ?_ | (refine Sem.condS ?_; conv => whnf) | refine Sem.block ?_ | (refine Sem.regL tt_ok ?_; conv => whnf) | (refine Sem.skip tt_ok ?_; conv => whnf) | (refine Sem.exit tt_ok ?_; conv => whnf) | (refine Sem.ret tt_ok ?_; conv => whnf) | (refine BS_t (by assumption) ?_; conv => whnf) | (refine BS_f (by assumption) ?_; conv => whnf) | (refine atG (by first | assumption | exact setG_same _ _ _ | (refine Eq.trans (setG_ne _ _ (by first | assumption | exact Ne.symm (by assumption))) ?_; first | assumption | exact setG_same _ _ _ | (refine Eq.trans (setG_ne _ _ (by first | assumption | exact Ne.symm (by assumption))) ?_; first | assumption | exact setG_same _ _ _ | (refine Eq.trans (setG_ne _ _ (by first | assumption | exact Ne.symm (by assumption))) ?_; first | assumption | exact setG_same _ _ _)))) ?_; conv => whnf) | (refine (nthK_iff _ _).2 ⟨_, (by assumption), ?_⟩; conv => whnf) | (refine Exists.intro _ (And.intro (And.intro (by omega) (by assumption)) ?_); conv => whnf) | (refine And.intro (by first | decide | omega) ?_; conv => whnf) | fail)
    intro mb hmb
    conv => whnf
    have hne : mb ≠ b := by rintro rfl; simp [setG_same] at hmb
    repeat' (first | (refine Sem.reg tt_ok ?_; conv => whnf) | refine Sem.seqS ?_ | (refine Sem.condS ?_; conv => whnf) | refine Sem.block ?_ | (refine Sem.regL tt_ok ?_; conv => whnf) | (refine Sem.skip tt_ok ?_; conv => whnf) | (refine Sem.exit tt_ok ?_; conv => whnf) | (refine Sem.ret tt_ok ?_; conv => whnf) | (refine BS_t (by assumption) ?_; conv => whnf) | (refine BS_f (by assumption) ?_; conv => whnf) | (refine atG (by first | assumption | exact setG_same _ _ _ | (refine Eq.trans (setG_ne _ _ (by first | assumption | exact Ne.symm (by assumption))) ?_; first | assumption | exact setG_same _ _ _ | (refine Eq.trans (setG_ne _ _ (by first | assumption | exact Ne.symm (by assumption))) ?_; first | assumption | exact setG_same _ _ _ | (refine Eq.trans (setG_ne _ _ (by first | assumption | exact Ne.symm (by assumption))) ?_; first | assumption | exact setG_same _ _ _)))) ?_; conv => whnf) | (refine (nthK_iff _ _).2 ⟨_, (by assumption), ?_⟩; conv => whnf) | (refine Exists.intro _ (And.intro (And.intro (by omega) (by assumption)) ?_); conv => whnf) | (refine And.intro (by first | decide | omega) ?_; conv => whnf) | fail)
    refine Exists.intro _ (And.intro (by first | assumption | exact setG_same _ _ _ | (refine Eq.trans (setG_ne _ _ (by first | assumption | exact Ne.symm (by assumption))) ?_; first | assumption | exact setG_same _ _ _ | (refine Eq.trans (setG_ne _ _ (by first | assumption | exact Ne.symm (by assumption))) ?_; first | assumption | exact setG_same _ _ _ | (refine Eq.trans (setG_ne _ _ (by first | assumption | exact Ne.symm (by assumption))) ?_; first | assumption | exact setG_same _ _ _)))) ?_); conv => whnf
    refine ⟨_, rfl, ?_⟩; conv => whnf
    repeat' (first | (refine Sem.reg tt_ok ?_; conv => whnf) | refine Sem.seqS ?_ | (refine Sem.condS ?_; conv => whnf) | refine Sem.block ?_ | (refine Sem.regL tt_ok ?_; conv => whnf) | (refine Sem.skip tt_ok ?_; conv => whnf) | (refine Sem.exit tt_ok ?_; conv => whnf) | (refine Sem.ret tt_ok ?_; conv => whnf) | (refine BS_t (by assumption) ?_; conv => whnf) | (refine BS_f (by assumption) ?_; conv => whnf) | (refine atG (by first | assumption | exact setG_same _ _ _ | (refine Eq.trans (setG_ne _ _ (by first | assumption | exact Ne.symm (by assumption))) ?_; first | assumption | exact setG_same _ _ _ | (refine Eq.trans (setG_ne _ _ (by first | assumption | exact Ne.symm (by assumption))) ?_; first | assumption | exact setG_same _ _ _ | (refine Eq.trans (setG_ne _ _ (by first | assumption | exact Ne.symm (by assumption))) ?_; first | assumption | exact setG_same _ _ _)))) ?_; conv => whnf) | (refine (nthK_iff _ _).2 ⟨_, (by assumption), ?_⟩; conv => whnf) | (refine Exists.intro _ (And.intro (And.intro (by omega) (by assumption)) ?_); conv => whnf) | (refine And.intro (by first | decide | omega) ?_; conv => whnf) | fail)
    intro q hq
    conv => whnf
    have hqb : q ≠ b := by rintro rfl; simp [setG_same] at hq
    have hqm : q ≠ mb := by rintro rfl; simp [setG_ne _ _ hqb, setG_same] at hq
    refine Exists.intro _ (And.intro (by first | assumption | exact setG_same _ _ _ | (refine Eq.trans (setG_ne _ _ (by first | assumption | exact Ne.symm (by assumption))) ?_; first | assumption | exact setG_same _ _ _ | (refine Eq.trans (setG_ne _ _ (by first | assumption | exact Ne.symm (by assumption))) ?_; first | assumption | exact setG_same _ _ _ | (refine Eq.trans (setG_ne _ _ (by first | assumption | exact Ne.symm (by assumption))) ?_; first | assumption | exact setG_same _ _ _)))) ?_); conv => whnf
    repeat' (first | (refine Sem.reg tt_ok ?_; conv => whnf) | refine Sem.seqS ?_ | (refine Sem.condS ?_; conv => whnf) | refine Sem.block ?_ | (refine Sem.regL tt_ok ?_; conv => whnf) | (refine Sem.skip tt_ok ?_; conv => whnf) | (refine Sem.exit tt_ok ?_; conv => whnf) | (refine Sem.ret tt_ok ?_; conv => whnf) | (refine BS_t (by assumption) ?_; conv => whnf) | (refine BS_f (by assumption) ?_; conv => whnf) | (refine atG (by first | assumption | exact setG_same _ _ _ | (refine Eq.trans (setG_ne _ _ (by first | assumption | exact Ne.symm (by assumption))) ?_; first | assumption | exact setG_same _ _ _ | (refine Eq.trans (setG_ne _ _ (by first | assumption | exact Ne.symm (by assumption))) ?_; first | assumption | exact setG_same _ _ _ | (refine Eq.trans (setG_ne _ _ (by first | assumption | exact Ne.symm (by assumption))) ?_; first | assumption | exact setG_same _ _ _)))) ?_; conv => whnf) | (refine (nthK_iff _ _).2 ⟨_, (by assumption), ?_⟩; conv => whnf) | (refine Exists.intro _ (And.intro (And.intro (by omega) (by assumption)) ?_); conv => whnf) | (refine And.intro (by first | decide | omega) ?_; conv => whnf) | fail)
    refine Exists.intro _ (And.intro (by first | assumption | exact setG_same _ _ _ | (refine Eq.trans (setG_ne _ _ (by first | assumption | exact Ne.symm (by assumption))) ?_; first | assumption | exact setG_same _ _ _ | (refine Eq.trans (setG_ne _ _ (by first | assumption | exact Ne.symm (by assumption))) ?_; first | assumption | exact setG_same _ _ _ | (refine Eq.trans (setG_ne _ _ (by first | assumption | exact Ne.symm (by assumption))) ?_; first | assumption | exact setG_same _ _ _)))) ?_); conv => whnf
    refine ⟨_, mget_put_same _ _ (keyB_str k) _, ?_⟩
    conv => whnf
    repeat' (first | (refine Sem.reg tt_ok ?_; conv => whnf) | refine Sem.seqS ?_ | (refine Sem.condS ?_; conv => whnf) | refine Sem.block ?_ | (refine Sem.regL tt_ok ?_; conv => whnf) | (refine Sem.skip tt_ok ?_; conv => whnf) | (refine Sem.exit tt_ok ?_; conv => whnf) | (refine Sem.ret tt_ok ?_; conv => whnf) | (refine BS_t (by assumption) ?_; conv => whnf) | (refine BS_f (by assumption) ?_; conv => whnf) | (refine atG (by first | assumption | exact setG_same _ _ _ | (refine Eq.trans (setG_ne _ _ (by first | assumption | exact Ne.symm (by assumption))) ?_; first | assumption | exact setG_same _ _ _ | (refine Eq.trans (setG_ne _ _ (by first | assumption | exact Ne.symm (by assumption))) ?_; first | assumption | exact setG_same _ _ _ | (refine Eq.trans (setG_ne _ _ (by first | assumption | exact Ne.symm (by assumption))) ?_; first | assumption | exact setG_same _ _ _)))) ?_; conv => whnf) | (refine (nthK_iff _ _).2 ⟨_, (by assumption), ?_⟩; conv => whnf) | (refine Exists.intro _ (And.intro (And.intro (by omega) (by assumption)) ?_); conv => whnf) | (refine And.intro (by first | decide | omega) ?_; conv => whnf) | fail)
    refine (fpushQ _ q [] v (by decide) (by simp) ⟨⟨.nilp, by first | assumption | exact setG_same _ _ _ | (refine Eq.trans (setG_ne _ _ (by first | assumption | exact Ne.symm (by assumption))) ?_; first | assumption | exact setG_same _ _ _ | (refine Eq.trans (setG_ne _ _ (by first | assumption | exact Ne.symm (by assumption))) ?_; first | assumption | exact setG_same _ _ _ | (refine Eq.trans (setG_ne _ _ (by first | assumption | exact Ne.symm (by assumption))) ?_; first | assumption | exact setG_same _ _ _))), fun y hy => by cases hy⟩, trivial⟩).mono fun v G1 hv => ?_
    obtain ⟨rfl, j, hj, hQ, hf⟩ := hv
    conv => whnf
    repeat' (first | (refine Sem.reg tt_ok ?_; conv => whnf) | refine Sem.seqS ?_ | (refine Sem.condS ?_; conv => whnf) | refine Sem.block ?_ | (refine Sem.regL tt_ok ?_; conv => whnf) | (refine Sem.skip tt_ok ?_; conv => whnf) | (refine Sem.exit tt_ok ?_; conv => whnf) | (refine Sem.ret tt_ok ?_; conv => whnf) | (refine BS_t (by assumption) ?_; conv => whnf) | (refine BS_f (by assumption) ?_; conv => whnf) | (refine atG (by first | assumption | exact setG_same _ _ _ | (refine Eq.trans (setG_ne _ _ (by first | assumption | exact Ne.symm (by assumption))) ?_; first | assumption | exact setG_same _ _ _ | (refine Eq.trans (setG_ne _ _ (by first | assumption | exact Ne.symm (by assumption))) ?_; first | assumption | exact setG_same _ _ _ | (refine Eq.trans (setG_ne _ _ (by first | assumption | exact Ne.symm (by assumption))) ?_; first | assumption | exact setG_same _ _ _)))) ?_; conv => whnf) | (refine (nthK_iff _ _).2 ⟨_, (by assumption), ?_⟩; conv => whnf) | (refine Exists.intro _ (And.intro (And.intro (by omega) (by assumption)) ?_); conv => whnf) | (refine And.intro (by first | decide | omega) ?_; conv => whnf) | fail)
    have hmb' : G mb = none := by rwa [setG_ne _ _ hne] at hmb
    have hq' : G q = none := by rwa [setG_ne _ _ hqb, setG_ne _ _ hqm, setG_ne _ _ hqb] at hq
    have hj' : j ≠ b ∧ j ≠ mb ∧ j ≠ q ∧ G j = none := by
      have e1 : j ≠ b := by rintro rfl; simp [setG, hne.symm, hqb.symm] at hj
      have e2 : j ≠ mb := by rintro rfl; simp [setG] at hj
      have e3 : j ≠ q := by rintro rfl; simp [setG, hqm] at hj
      exact ⟨e1, e2, e3, by simpa [setG, e1, e2, e3] using hj⟩
    refine ⟨G1, fun _ _ h => h, rfl, .mp mb, j, q, hall_turn (x := (q, [(j, v)])) h ⟨hf b _ (by first | assumption | exact setG_same _ _ _ | (refine Eq.trans (setG_ne _ _ (by first | assumption | exact Ne.symm (by assumption))) ?_; first | assumption | exact setG_same _ _ _ | (refine Eq.trans (setG_ne _ _ (by first | assumption | exact Ne.symm (by assumption))) ?_; first | assumption | exact setG_same _ _ _ | (refine Eq.trans (setG_ne _ _ (by first | assumption | exact Ne.symm (by assumption))) ?_; first | assumption | exact setG_same _ _ _)))) hqb.symm (by simp), .inr ⟨mb, rfl, hf mb _ (by first | assumption | exact setG_same _ _ _ | (refine Eq.trans (setG_ne _ _ (by first | assumption | exact Ne.symm (by assumption))) ?_; first | assumption | exact setG_same _ _ _ | (refine Eq.trans (setG_ne _ _ (by first | assumption | exact Ne.symm (by assumption))) ?_; first | assumption | exact setG_same _ _ _ | (refine Eq.trans (setG_ne _ _ (by first | assumption | exact Ne.symm (by assumption))) ?_; first | assumption | exact setG_same _ _ _)))) hqm.symm (by simp)⟩⟩ ⟨by simp, hQ, by simp, by simp⟩ (fun i y hi hb hm _ => hf i y ?_ ?_ (by simp)) (.inl hq') fun z hz => .inl ?_⟩
    · have e2 : i ≠ mb := by rintro rfl; simp [hmb'] at hi
      have e3 : i ≠ q := by rintro rfl; simp [hq'] at hi
      simpa [setG, hb, e2, e3] using hi
    · rintro rfl; simp [hq'] at hi
    · simp at hz; subst hz; exact hj'.2.2.2
  · have hne : mb ≠ b := by rintro rfl; simp [h1] at h2
    refine call_sem tt_ok Try.func55 rfl (by kernel_rfl) Try.ntmps55 Try.results55 ?_; conv => whnf
    repeat' (first | (refine Sem.reg tt_ok ?_; conv => whnf) | refine Sem.seqS ?_ | (refine Sem.condS ?_; conv => whnf) | refine Sem.block ?_ | (refine Sem.regL tt_ok ?_; conv => whnf) | (refine Sem.skip tt_ok ?_; conv => whnf) | (refine Sem.exit tt_ok ?_; conv => whnf) | (refine Sem.ret tt_ok ?_; conv => whnf) | (refine BS_t (by assumption) ?_; conv => whnf) | (refine BS_f (by assumption) ?_; conv => whnf) | (refine atG (by first | assumption | exact setG_same _ _ _ | (refine Eq.trans (setG_ne _ _ (by first | assumption | exact Ne.symm (by assumption))) ?_; first | assumption | exact setG_same _ _ _ | (refine Eq.trans (setG_ne _ _ (by first | assumption | exact Ne.symm (by assumption))) ?_; first | assumption | exact setG_same _ _ _ | (refine Eq.trans (setG_ne _ _ (by first | assumption | exact Ne.symm (by assumption))) ?_; first | assumption | exact setG_same _ _ _)))) ?_; conv => whnf) | (refine (nthK_iff _ _).2 ⟨_, (by assumption), ?_⟩; conv => whnf) | (refine Exists.intro _ (And.intro (And.intro (by omega) (by assumption)) ?_); conv => whnf) | (refine And.intro (by first | decide | omega) ?_; conv => whnf) | fail)
    refine draw_sound (eff := []) tt_ok (by kernel_rfl) (by kernel_rfl) ?_; conv => whnf
    repeat' (first | (refine BS_t (by assumption) ?_; conv => whnf) | (refine BS_f (by assumption) ?_; conv => whnf) | (refine atG (by first | assumption | exact setG_same _ _ _ | (refine Eq.trans (setG_ne _ _ (by first | assumption | exact Ne.symm (by assumption))) ?_; first | assumption | exact setG_same _ _ _ | (refine Eq.trans (setG_ne _ _ (by first | assumption | exact Ne.symm (by assumption))) ?_; first | assumption | exact setG_same _ _ _ | (refine Eq.trans (setG_ne _ _ (by first | assumption | exact Ne.symm (by assumption))) ?_; first | assumption | exact setG_same _ _ _)))) ?_; conv => whnf) | (refine (nthK_iff _ _).2 ⟨_, (by assumption), ?_⟩; conv => whnf) | (refine Exists.intro _ (And.intro (And.intro (by omega) (by assumption)) ?_); conv => whnf) | (refine And.intro (by first | decide | omega) ?_; conv => whnf) | fail)
    refine ⟨_, _, hg, ?_⟩; (conv => whnf); refine And.intro rfl ?_; conv => whnf
    repeat' (first | (refine BS_t (by assumption) ?_; conv => whnf) | (refine BS_f (by assumption) ?_; conv => whnf) | (refine atG (by first | assumption | exact setG_same _ _ _ | (refine Eq.trans (setG_ne _ _ (by first | assumption | exact Ne.symm (by assumption))) ?_; first | assumption | exact setG_same _ _ _ | (refine Eq.trans (setG_ne _ _ (by first | assumption | exact Ne.symm (by assumption))) ?_; first | assumption | exact setG_same _ _ _ | (refine Eq.trans (setG_ne _ _ (by first | assumption | exact Ne.symm (by assumption))) ?_; first | assumption | exact setG_same _ _ _)))) ?_; conv => whnf) | (refine (nthK_iff _ _).2 ⟨_, (by assumption), ?_⟩; conv => whnf) | (refine Exists.intro _ (And.intro (And.intro (by omega) (by assumption)) ?_); conv => whnf) | (refine And.intro (by first | decide | omega) ?_; conv => whnf) | fail)
    rw [hw]
    repeat' (first | (refine Sem.reg tt_ok ?_; conv => whnf) | refine Sem.seqS ?_ | (refine Sem.condS ?_; conv => whnf) | refine Sem.block ?_ | (refine Sem.regL tt_ok ?_; conv => whnf) | (refine Sem.skip tt_ok ?_; conv => whnf) | (refine Sem.exit tt_ok ?_; conv => whnf) | (refine Sem.ret tt_ok ?_; conv => whnf) | (refine BS_t (by assumption) ?_; conv => whnf) | (refine BS_f (by assumption) ?_; conv => whnf) | (refine atG (by first | assumption | exact setG_same _ _ _ | (refine Eq.trans (setG_ne _ _ (by first | assumption | exact Ne.symm (by assumption))) ?_; first | assumption | exact setG_same _ _ _ | (refine Eq.trans (setG_ne _ _ (by first | assumption | exact Ne.symm (by assumption))) ?_; first | assumption | exact setG_same _ _ _ | (refine Eq.trans (setG_ne _ _ (by first | assumption | exact Ne.symm (by assumption))) ?_; first | assumption | exact setG_same _ _ _)))) ?_; conv => whnf) | (refine (nthK_iff _ _).2 ⟨_, (by assumption), ?_⟩; conv => whnf) | (refine Exists.intro _ (And.intro (And.intro (by omega) (by assumption)) ?_); conv => whnf) | (refine And.intro (by first | decide | omega) ?_; conv => whnf) | fail)
    refine ⟨_, (setG_ne _ _ hne).trans h2, _, bk_get fav k l, ?_⟩
    cases hq : lget l k with
    | some x =>
      repeat' (first | (refine Sem.reg tt_ok ?_; conv => whnf) | refine Sem.seqS ?_ | (refine Sem.condS ?_; conv => whnf) | refine Sem.block ?_ | (refine Sem.regL tt_ok ?_; conv => whnf) | (refine Sem.skip tt_ok ?_; conv => whnf) | (refine Sem.exit tt_ok ?_; conv => whnf) | (refine Sem.ret tt_ok ?_; conv => whnf) | (refine BS_t (by assumption) ?_; conv => whnf) | (refine BS_f (by assumption) ?_; conv => whnf) | (refine atG (by first | assumption | exact setG_same _ _ _ | (refine Eq.trans (setG_ne _ _ (by first | assumption | exact Ne.symm (by assumption))) ?_; first | assumption | exact setG_same _ _ _ | (refine Eq.trans (setG_ne _ _ (by first | assumption | exact Ne.symm (by assumption))) ?_; first | assumption | exact setG_same _ _ _ | (refine Eq.trans (setG_ne _ _ (by first | assumption | exact Ne.symm (by assumption))) ?_; first | assumption | exact setG_same _ _ _)))) ?_; conv => whnf) | (refine (nthK_iff _ _).2 ⟨_, (by assumption), ?_⟩; conv => whnf) | (refine Exists.intro _ (And.intro (And.intro (by omega) (by assumption)) ?_); conv => whnf) | (refine And.intro (by first | decide | omega) ?_; conv => whnf) | fail)
      refine Exists.intro _ (And.intro (by first | assumption | exact setG_same _ _ _ | (refine Eq.trans (setG_ne _ _ (by first | assumption | exact Ne.symm (by assumption))) ?_; first | assumption | exact setG_same _ _ _ | (refine Eq.trans (setG_ne _ _ (by first | assumption | exact Ne.symm (by assumption))) ?_; first | assumption | exact setG_same _ _ _ | (refine Eq.trans (setG_ne _ _ (by first | assumption | exact Ne.symm (by assumption))) ?_; first | assumption | exact setG_same _ _ _)))) ?_); conv => whnf
      refine ⟨_, (bk_get fav k l).trans (congrArg _ hq), ?_⟩
      conv => whnf
      repeat' (first | (refine Sem.reg tt_ok ?_; conv => whnf) | refine Sem.seqS ?_ | (refine Sem.condS ?_; conv => whnf) | refine Sem.block ?_ | (refine Sem.regL tt_ok ?_; conv => whnf) | (refine Sem.skip tt_ok ?_; conv => whnf) | (refine Sem.exit tt_ok ?_; conv => whnf) | (refine Sem.ret tt_ok ?_; conv => whnf) | (refine BS_t (by assumption) ?_; conv => whnf) | (refine BS_f (by assumption) ?_; conv => whnf) | (refine atG (by first | assumption | exact setG_same _ _ _ | (refine Eq.trans (setG_ne _ _ (by first | assumption | exact Ne.symm (by assumption))) ?_; first | assumption | exact setG_same _ _ _ | (refine Eq.trans (setG_ne _ _ (by first | assumption | exact Ne.symm (by assumption))) ?_; first | assumption | exact setG_same _ _ _ | (refine Eq.trans (setG_ne _ _ (by first | assumption | exact Ne.symm (by assumption))) ?_; first | assumption | exact setG_same _ _ _)))) ?_; conv => whnf) | (refine (nthK_iff _ _).2 ⟨_, (by assumption), ?_⟩; conv => whnf) | (refine Exists.intro _ (And.intro (And.intro (by omega) (by assumption)) ?_); conv => whnf) | (refine And.intro (by first | decide | omega) ?_; conv => whnf) | fail)
      have hx := a3 _ (lget_mem hq)
      have hm := lget_mem hq
      have xb : ∀ i, (i = x.1 ∨ i ∈ x.2.map (·.1)) → i ≠ b ∧ i ≠ mb := fun i hi => by
        rcases que_box hx.2.1 hi with ⟨_, _, _, e⟩ | ⟨_, _, e⟩
        · exact ⟨fun z => by subst z; simp [h1] at e, fun z => by subst z; simp [h2] at e⟩
        · exact ⟨fun z => by subst z; simp [h1] at e, fun z => by subst z; simp [h2] at e⟩
      refine (fpushQ _ x.1 x.2 v (Nat.le_of_lt (hc x hq)) hx.2.2.1 (que_mono hx.2.1 fun i y hi hy => (setG_ne _ _ (xb i hi).1).trans hy)).mono fun v G1 hv => ?_; obtain ⟨rfl, j, hj, hQ, hf⟩ := hv; conv => whnf
      repeat' (first | (refine Sem.reg tt_ok ?_; conv => whnf) | refine Sem.seqS ?_ | (refine Sem.condS ?_; conv => whnf) | refine Sem.block ?_ | (refine Sem.regL tt_ok ?_; conv => whnf) | (refine Sem.skip tt_ok ?_; conv => whnf) | (refine Sem.exit tt_ok ?_; conv => whnf) | (refine Sem.ret tt_ok ?_; conv => whnf) | (refine BS_t (by assumption) ?_; conv => whnf) | (refine BS_f (by assumption) ?_; conv => whnf) | (refine atG (by first | assumption | exact setG_same _ _ _ | (refine Eq.trans (setG_ne _ _ (by first | assumption | exact Ne.symm (by assumption))) ?_; first | assumption | exact setG_same _ _ _ | (refine Eq.trans (setG_ne _ _ (by first | assumption | exact Ne.symm (by assumption))) ?_; first | assumption | exact setG_same _ _ _ | (refine Eq.trans (setG_ne _ _ (by first | assumption | exact Ne.symm (by assumption))) ?_; first | assumption | exact setG_same _ _ _)))) ?_; conv => whnf) | (refine (nthK_iff _ _).2 ⟨_, (by assumption), ?_⟩; conv => whnf) | (refine Exists.intro _ (And.intro (And.intro (by omega) (by assumption)) ?_); conv => whnf) | (refine And.intro (by first | decide | omega) ?_; conv => whnf) | fail)
      have hjb : j ≠ b := by rintro rfl; simp [setG_same] at hj
      have hj' : G j = none := by rwa [setG_ne _ _ hjb] at hj
      have hxb : b ∉ x.2.map (·.1) := fun hi => (xb b (.inr hi)).1 rfl
      have hxm : mb ∉ x.2.map (·.1) := fun hi => (xb mb (.inr hi)).2 rfl
      refine ⟨G1, fun _ _ h => h, rfl, .mp mb, j, x.1, hall_turn (x := (x.1, x.2 ++ [(j, v)])) h ⟨hf b _ (by first | assumption | exact setG_same _ _ _ | (refine Eq.trans (setG_ne _ _ (by first | assumption | exact Ne.symm (by assumption))) ?_; first | assumption | exact setG_same _ _ _ | (refine Eq.trans (setG_ne _ _ (by first | assumption | exact Ne.symm (by assumption))) ?_; first | assumption | exact setG_same _ _ _ | (refine Eq.trans (setG_ne _ _ (by first | assumption | exact Ne.symm (by assumption))) ?_; first | assumption | exact setG_same _ _ _)))) (xb _ (.inl rfl)).1.symm hxb, .inr ⟨mb, rfl, ?_⟩⟩ ⟨by simp, hQ, ?_, ?_⟩ (fun i y hi hb hm hx => ?_) (.inr ⟨x, hq, rfl⟩) fun z hz => ?_⟩
      · rw [hf mb _ ((setG_ne _ _ hne).trans h2) (xb _ (.inl rfl)).2.symm hxm]
        rw [bk_put_fav l k x _ hq]
      · rw [List.map_append, List.nodup_append]
        refine ⟨hx.2.2.1, by simp, fun a ha c hc' => ?_⟩
        simp at hc'
        subst hc'
        rintro rfl
        obtain ⟨t, y, hy⟩ := seg_two hx.2.1.2 ha
        simp [hj'] at hy
      · simp; have := hc x hq; omega
      · obtain ⟨c1, c2⟩ := hx x hq
        exact hf i y ((setG_ne _ _ hb).trans hi) c1 c2
      · simp only [List.map_append, List.mem_append] at hz
        rcases hz with hz | hz
        · exact .inr ⟨x, hq, hz⟩
        · simp at hz; subst hz; exact .inl hj'
    | none =>
      repeat' (first | (refine Sem.reg tt_ok ?_; conv => whnf) | refine Sem.seqS ?_ | (refine Sem.condS ?_; conv => whnf) | refine Sem.block ?_ | (refine Sem.regL tt_ok ?_; conv => whnf) | (refine Sem.skip tt_ok ?_; conv => whnf) | (refine Sem.exit tt_ok ?_; conv => whnf) | (refine Sem.ret tt_ok ?_; conv => whnf) | (refine BS_t (by assumption) ?_; conv => whnf) | (refine BS_f (by assumption) ?_; conv => whnf) | (refine atG (by first | assumption | exact setG_same _ _ _ | (refine Eq.trans (setG_ne _ _ (by first | assumption | exact Ne.symm (by assumption))) ?_; first | assumption | exact setG_same _ _ _ | (refine Eq.trans (setG_ne _ _ (by first | assumption | exact Ne.symm (by assumption))) ?_; first | assumption | exact setG_same _ _ _ | (refine Eq.trans (setG_ne _ _ (by first | assumption | exact Ne.symm (by assumption))) ?_; first | assumption | exact setG_same _ _ _)))) ?_; conv => whnf) | (refine (nthK_iff _ _).2 ⟨_, (by assumption), ?_⟩; conv => whnf) | (refine Exists.intro _ (And.intro (And.intro (by omega) (by assumption)) ?_); conv => whnf) | (refine And.intro (by first | decide | omega) ?_; conv => whnf) | fail)
      intro q hq0
      conv => whnf
      have hqb : q ≠ b := by rintro rfl; simp [setG_same] at hq0
      have hqm : q ≠ mb := by rintro rfl; simp [setG_ne _ _ hqb, h2] at hq0
      repeat' (first | (refine Sem.reg tt_ok ?_; conv => whnf) | refine Sem.seqS ?_ | (refine Sem.condS ?_; conv => whnf) | refine Sem.block ?_ | (refine Sem.regL tt_ok ?_; conv => whnf) | (refine Sem.skip tt_ok ?_; conv => whnf) | (refine Sem.exit tt_ok ?_; conv => whnf) | (refine Sem.ret tt_ok ?_; conv => whnf) | (refine BS_t (by assumption) ?_; conv => whnf) | (refine BS_f (by assumption) ?_; conv => whnf) | (refine atG (by first | assumption | exact setG_same _ _ _ | (refine Eq.trans (setG_ne _ _ (by first | assumption | exact Ne.symm (by assumption))) ?_; first | assumption | exact setG_same _ _ _ | (refine Eq.trans (setG_ne _ _ (by first | assumption | exact Ne.symm (by assumption))) ?_; first | assumption | exact setG_same _ _ _ | (refine Eq.trans (setG_ne _ _ (by first | assumption | exact Ne.symm (by assumption))) ?_; first | assumption | exact setG_same _ _ _)))) ?_; conv => whnf) | (refine (nthK_iff _ _).2 ⟨_, (by assumption), ?_⟩; conv => whnf) | (refine Exists.intro _ (And.intro (And.intro (by omega) (by assumption)) ?_); conv => whnf) | (refine And.intro (by first | decide | omega) ?_; conv => whnf) | fail)
      refine Exists.intro _ (And.intro (by first | assumption | exact setG_same _ _ _ | (refine Eq.trans (setG_ne _ _ (by first | assumption | exact Ne.symm (by assumption))) ?_; first | assumption | exact setG_same _ _ _ | (refine Eq.trans (setG_ne _ _ (by first | assumption | exact Ne.symm (by assumption))) ?_; first | assumption | exact setG_same _ _ _ | (refine Eq.trans (setG_ne _ _ (by first | assumption | exact Ne.symm (by assumption))) ?_; first | assumption | exact setG_same _ _ _)))) ?_); conv => whnf
      repeat' (first | (refine Sem.reg tt_ok ?_; conv => whnf) | refine Sem.seqS ?_ | (refine Sem.condS ?_; conv => whnf) | refine Sem.block ?_ | (refine Sem.regL tt_ok ?_; conv => whnf) | (refine Sem.skip tt_ok ?_; conv => whnf) | (refine Sem.exit tt_ok ?_; conv => whnf) | (refine Sem.ret tt_ok ?_; conv => whnf) | (refine BS_t (by assumption) ?_; conv => whnf) | (refine BS_f (by assumption) ?_; conv => whnf) | (refine atG (by first | assumption | exact setG_same _ _ _ | (refine Eq.trans (setG_ne _ _ (by first | assumption | exact Ne.symm (by assumption))) ?_; first | assumption | exact setG_same _ _ _ | (refine Eq.trans (setG_ne _ _ (by first | assumption | exact Ne.symm (by assumption))) ?_; first | assumption | exact setG_same _ _ _ | (refine Eq.trans (setG_ne _ _ (by first | assumption | exact Ne.symm (by assumption))) ?_; first | assumption | exact setG_same _ _ _)))) ?_; conv => whnf) | (refine (nthK_iff _ _).2 ⟨_, (by assumption), ?_⟩; conv => whnf) | (refine Exists.intro _ (And.intro (And.intro (by omega) (by assumption)) ?_); conv => whnf) | (refine And.intro (by first | decide | omega) ?_; conv => whnf) | fail)
      refine Exists.intro _ (And.intro (by first | assumption | exact setG_same _ _ _ | (refine Eq.trans (setG_ne _ _ (by first | assumption | exact Ne.symm (by assumption))) ?_; first | assumption | exact setG_same _ _ _ | (refine Eq.trans (setG_ne _ _ (by first | assumption | exact Ne.symm (by assumption))) ?_; first | assumption | exact setG_same _ _ _ | (refine Eq.trans (setG_ne _ _ (by first | assumption | exact Ne.symm (by assumption))) ?_; first | assumption | exact setG_same _ _ _)))) ?_); conv => whnf
      refine ⟨_, mget_put_same _ _ (keyB_str k) _, ?_⟩
      conv => whnf
      repeat' (first | (refine Sem.reg tt_ok ?_; conv => whnf) | refine Sem.seqS ?_ | (refine Sem.condS ?_; conv => whnf) | refine Sem.block ?_ | (refine Sem.regL tt_ok ?_; conv => whnf) | (refine Sem.skip tt_ok ?_; conv => whnf) | (refine Sem.exit tt_ok ?_; conv => whnf) | (refine Sem.ret tt_ok ?_; conv => whnf) | (refine BS_t (by assumption) ?_; conv => whnf) | (refine BS_f (by assumption) ?_; conv => whnf) | (refine atG (by first | assumption | exact setG_same _ _ _ | (refine Eq.trans (setG_ne _ _ (by first | assumption | exact Ne.symm (by assumption))) ?_; first | assumption | exact setG_same _ _ _ | (refine Eq.trans (setG_ne _ _ (by first | assumption | exact Ne.symm (by assumption))) ?_; first | assumption | exact setG_same _ _ _ | (refine Eq.trans (setG_ne _ _ (by first | assumption | exact Ne.symm (by assumption))) ?_; first | assumption | exact setG_same _ _ _)))) ?_; conv => whnf) | (refine (nthK_iff _ _).2 ⟨_, (by assumption), ?_⟩; conv => whnf) | (refine Exists.intro _ (And.intro (And.intro (by omega) (by assumption)) ?_); conv => whnf) | (refine And.intro (by first | decide | omega) ?_; conv => whnf) | fail)
      refine (fpushQ _ q [] v (by decide) (by simp) ⟨⟨.nilp, by first | assumption | exact setG_same _ _ _ | (refine Eq.trans (setG_ne _ _ (by first | assumption | exact Ne.symm (by assumption))) ?_; first | assumption | exact setG_same _ _ _ | (refine Eq.trans (setG_ne _ _ (by first | assumption | exact Ne.symm (by assumption))) ?_; first | assumption | exact setG_same _ _ _ | (refine Eq.trans (setG_ne _ _ (by first | assumption | exact Ne.symm (by assumption))) ?_; first | assumption | exact setG_same _ _ _))), fun y hy => by cases hy⟩, trivial⟩).mono fun v G1 hv => ?_
      obtain ⟨rfl, j, hj, hQ, hf⟩ := hv
      conv => whnf
      repeat' (first | (refine Sem.reg tt_ok ?_; conv => whnf) | refine Sem.seqS ?_ | (refine Sem.condS ?_; conv => whnf) | refine Sem.block ?_ | (refine Sem.regL tt_ok ?_; conv => whnf) | (refine Sem.skip tt_ok ?_; conv => whnf) | (refine Sem.exit tt_ok ?_; conv => whnf) | (refine Sem.ret tt_ok ?_; conv => whnf) | (refine BS_t (by assumption) ?_; conv => whnf) | (refine BS_f (by assumption) ?_; conv => whnf) | (refine atG (by first | assumption | exact setG_same _ _ _ | (refine Eq.trans (setG_ne _ _ (by first | assumption | exact Ne.symm (by assumption))) ?_; first | assumption | exact setG_same _ _ _ | (refine Eq.trans (setG_ne _ _ (by first | assumption | exact Ne.symm (by assumption))) ?_; first | assumption | exact setG_same _ _ _ | (refine Eq.trans (setG_ne _ _ (by first | assumption | exact Ne.symm (by assumption))) ?_; first | assumption | exact setG_same _ _ _)))) ?_; conv => whnf) | (refine (nthK_iff _ _).2 ⟨_, (by assumption), ?_⟩; conv => whnf) | (refine Exists.intro _ (And.intro (And.intro (by omega) (by assumption)) ?_); conv => whnf) | (refine And.intro (by first | decide | omega) ?_; conv => whnf) | fail)
      have hq' : G q = none := by rwa [setG_ne _ _ hqb] at hq0
      have hj' : j ≠ b ∧ j ≠ mb ∧ j ≠ q ∧ G j = none := by
        have e1 : j ≠ b := by rintro rfl; simp [setG, hne.symm, hqb.symm] at hj
        have e2 : j ≠ mb := by rintro rfl; simp [setG] at hj
        have e3 : j ≠ q := by rintro rfl; simp [setG, hqm] at hj
        exact ⟨e1, e2, e3, by simpa [setG, e1, e2, e3] using hj⟩
      refine ⟨G1, fun _ _ h => h, rfl, .mp mb, j, q, hall_turn (x := (q, [(j, v)])) h ⟨hf b _ (by first | assumption | exact setG_same _ _ _ | (refine Eq.trans (setG_ne _ _ (by first | assumption | exact Ne.symm (by assumption))) ?_; first | assumption | exact setG_same _ _ _ | (refine Eq.trans (setG_ne _ _ (by first | assumption | exact Ne.symm (by assumption))) ?_; first | assumption | exact setG_same _ _ _ | (refine Eq.trans (setG_ne _ _ (by first | assumption | exact Ne.symm (by assumption))) ?_; first | assumption | exact setG_same _ _ _)))) hqb.symm (by simp), .inr ⟨mb, rfl, ?_⟩⟩ ⟨by simp, hQ, by simp, by simp⟩ (fun i y hi hb hm _ => hf i y ?_ ?_ (by simp)) (.inl hq') fun z hz => .inl ?_⟩
      · rw [hf mb _ (setG_same _ _ _) hqm.symm (by simp)]
        exact congrArg (fun z => some (GB.map none z)) (bk_put fav k (q, [(j, v)]) l)
      · have e2 : i ≠ mb := by rintro rfl; exact hm rfl
        have e3 : i ≠ q := by rintro rfl; simp [hq'] at hi
        simpa [setG, hb, e2, e3] using hi
      · rintro rfl; simp [hq'] at hi
      · simp at hz; subst hz; exact hj'.2.2.2
theorem lget_del {α : Type} {k : ByteArray} : ∀ {l : List (ByteArray × α)}, (l.map (·.1)).Nodup → lget (ldel l k) k = none
  | [], _ => rfl
  | (z, y) :: r, hn => by
    simp only [List.map_cons, List.nodup_cons] at hn
    by_cases hz : k = z
    · subst hz
      simp only [ldel, decide_true]
      cases h : lget r k with
      | none => rfl
      | some x => exact absurd (List.mem_map.2 ⟨_, lget_mem h, rfl⟩) hn.1
    · simp only [ldel, hz, decide_false, lget]
      exact lget_del hn.2
theorem fpop_none (G : Glob) (b : Nat) (mv : AV) (n : Int) (l : FiL) (k : ByteArray) (h : StG G b mv n (bk fav l)) (hq : lget l k = none) : CallOk Try.prog TT 56 [.gptr b 0, .str k] G (fun x G' => x = .tup [.str ⟨#[]⟩, .bool false] ∧ G' = G) := by
  have hg := ffind_ok G b mv n l k h
  unfold ffind at hg
  simp only [hq] at hg
  refine call_body tt_ok Try.func56 rfl (by kernel_rfl) Try.ntmps56 Try.results56 ?_; conv => whnf
  refine hg.on ?_; conv => whnf
  repeat' (first | (refine BS_t (by assumption) ?_; conv => whnf) | (refine BS_f (by assumption) ?_; conv => whnf) | (refine atG (by first | assumption | exact setG_same _ _ _ | (refine Eq.trans (setG_ne _ _ (by first | assumption | exact Ne.symm (by assumption))) ?_; first | assumption | exact setG_same _ _ _ | (refine Eq.trans (setG_ne _ _ (by first | assumption | exact Ne.symm (by assumption))) ?_; first | assumption | exact setG_same _ _ _ | (refine Eq.trans (setG_ne _ _ (by first | assumption | exact Ne.symm (by assumption))) ?_; first | assumption | exact setG_same _ _ _)))) ?_; conv => whnf) | (refine (nthK_iff _ _).2 ⟨_, (by assumption), ?_⟩; conv => whnf) | (refine Exists.intro _ (And.intro (And.intro (by omega) (by assumption)) ?_); conv => whnf) | (refine And.intro (by first | decide | omega) ?_; conv => whnf) | fail)
  exact ⟨_, fun _ _ h => h, rfl, rfl⟩
theorem fpop_ok (G : Glob) (b : Nat) (mv : AV) (n : Int) (l : FiL) (k t : ByteArray) (q i : Nat) (r : List (Nat × ByteArray)) (hk : k.size ≤ 140737488351232) (ht : t.size ≤ 140737488351232) (n0 : 0 ≤ n) (n1 : n ≤ 4611686018427387904) (h : HallG G b mv n l) (hq : lget l k = some (q, (i, t) :: r)) :
    CallOk Try.prog TT 56 [.gptr b 0, .str k] G (fun x G' => x = .tup [.str t, .bool true] ∧ ∃ l', l' = (match r with | [] => ldel l k | _ => lput l k (q, r)) ∧ HallG G' b mv (n - fgrow l' k t) l') := by
  have hg := ffind_ok G b mv n l k h.1
  unfold ffind at hg
  simp only [hq] at hg
  have hm := lget_mem hq
  obtain ⟨⟨h1, h2⟩, a2, a3, a4⟩ := id h
  rcases h2 with ⟨rfl, hl⟩ | ⟨mb, rfl, h2⟩
  · cases fbk_nil hl
    cases hq
  obtain ⟨-, hQ, hnd, hlen⟩ := a3 _ hm
  have hQ' := id hQ
  obtain ⟨⟨lp, g1, g2⟩, g3, g4⟩ := hQ'
  simp only [nextP] at g1
  simp only [List.length_cons] at g1 hlen
  have hne : mb ≠ b := by rintro rfl; simp [h1] at h2
  have hqb : q ≠ b := by rintro rfl; simp [h1] at g1
  have hqm : q ≠ mb := by rintro rfl; simp [h2] at g1
  refine call_sem tt_ok Try.func56 rfl (by kernel_rfl) Try.ntmps56 Try.results56 ?_; conv => whnf
  repeat' (first | (refine Sem.reg tt_ok ?_; conv => whnf) | refine Sem.seqS ?_ | (refine Sem.condS ?_; conv => whnf) | refine Sem.block ?_ | (refine Sem.regL tt_ok ?_; conv => whnf) | (refine Sem.skip tt_ok ?_; conv => whnf) | (refine Sem.exit tt_ok ?_; conv => whnf) | (refine Sem.ret tt_ok ?_; conv => whnf) | (refine BS_t (by assumption) ?_; conv => whnf) | (refine BS_f (by assumption) ?_; conv => whnf) | (refine atG (by first | assumption | exact setG_same _ _ _ | (refine Eq.trans (setG_ne _ _ (by first | assumption | exact Ne.symm (by assumption))) ?_; first | assumption | exact setG_same _ _ _ | (refine Eq.trans (setG_ne _ _ (by first | assumption | exact Ne.symm (by assumption))) ?_; first | assumption | exact setG_same _ _ _ | (refine Eq.trans (setG_ne _ _ (by first | assumption | exact Ne.symm (by assumption))) ?_; first | assumption | exact setG_same _ _ _)))) ?_; conv => whnf) | (refine (nthK_iff _ _).2 ⟨_, (by assumption), ?_⟩; conv => whnf) | (refine Exists.intro _ (And.intro (And.intro (by omega) (by assumption)) ?_); conv => whnf) | (refine And.intro (by first | decide | omega) ?_; conv => whnf) | fail)
  refine hg.on ?_; conv => whnf
  repeat' (first | (refine Sem.reg tt_ok ?_; conv => whnf) | refine Sem.seqS ?_ | (refine Sem.condS ?_; conv => whnf) | refine Sem.block ?_ | (refine Sem.regL tt_ok ?_; conv => whnf) | (refine Sem.skip tt_ok ?_; conv => whnf) | (refine Sem.exit tt_ok ?_; conv => whnf) | (refine Sem.ret tt_ok ?_; conv => whnf) | (refine BS_t (by assumption) ?_; conv => whnf) | (refine BS_f (by assumption) ?_; conv => whnf) | (refine atG (by first | assumption | exact setG_same _ _ _ | (refine Eq.trans (setG_ne _ _ (by first | assumption | exact Ne.symm (by assumption))) ?_; first | assumption | exact setG_same _ _ _ | (refine Eq.trans (setG_ne _ _ (by first | assumption | exact Ne.symm (by assumption))) ?_; first | assumption | exact setG_same _ _ _ | (refine Eq.trans (setG_ne _ _ (by first | assumption | exact Ne.symm (by assumption))) ?_; first | assumption | exact setG_same _ _ _)))) ?_; conv => whnf) | (refine (nthK_iff _ _).2 ⟨_, (by assumption), ?_⟩; conv => whnf) | (refine Exists.intro _ (And.intro (And.intro (by omega) (by assumption)) ?_); conv => whnf) | (refine And.intro (by first | decide | omega) ?_; conv => whnf) | fail)
  refine (fpopq_ok G q i r lp t _ (by omega) (by omega) g1 g3).mono fun v G1 hv => ?_; obtain ⟨rfl, rfl⟩ := hv; conv => whnf
  repeat' (first | (refine Sem.reg tt_ok ?_; conv => whnf) | refine Sem.seqS ?_ | (refine Sem.condS ?_; conv => whnf) | refine Sem.block ?_ | (refine Sem.regL tt_ok ?_; conv => whnf) | (refine Sem.skip tt_ok ?_; conv => whnf) | (refine Sem.exit tt_ok ?_; conv => whnf) | (refine Sem.ret tt_ok ?_; conv => whnf) | (refine BS_t (by assumption) ?_; conv => whnf) | (refine BS_f (by assumption) ?_; conv => whnf) | (refine atG (by first | assumption | exact setG_same _ _ _ | (refine Eq.trans (setG_ne _ _ (by first | assumption | exact Ne.symm (by assumption))) ?_; first | assumption | exact setG_same _ _ _ | (refine Eq.trans (setG_ne _ _ (by first | assumption | exact Ne.symm (by assumption))) ?_; first | assumption | exact setG_same _ _ _ | (refine Eq.trans (setG_ne _ _ (by first | assumption | exact Ne.symm (by assumption))) ?_; first | assumption | exact setG_same _ _ _)))) ?_; conv => whnf) | (refine (nthK_iff _ _).2 ⟨_, (by assumption), ?_⟩; conv => whnf) | (refine Exists.intro _ (And.intro (And.intro (by omega) (by assumption)) ?_); conv => whnf) | (refine And.intro (by first | decide | omega) ?_; conv => whnf) | fail)
  have hxb : ∀ z, z = q ∨ z = i ∨ z ∈ r.map (·.1) → z ≠ b ∧ z ≠ mb := fun z hz => by
    rcases que_box hQ (i := z) (by simpa using hz) with ⟨_, _, _, e⟩ | ⟨_, _, e⟩
    · exact ⟨fun y => by subst y; simp [h1] at e, fun y => by subst y; simp [h2] at e⟩
    · exact ⟨fun y => by subst y; simp [h1] at e, fun y => by subst y; simp [h2] at e⟩
  cases r with
  | nil =>
    have d : (((([] : List (Nat × ByteArray)).length + 1 : Nat) : Int) - 1 == 0) = true := rfl
    rw [d]
    conv => whnf
    repeat' (first | (refine Sem.reg tt_ok ?_; conv => whnf) | refine Sem.seqS ?_ | (refine Sem.condS ?_; conv => whnf) | refine Sem.block ?_ | (refine Sem.regL tt_ok ?_; conv => whnf) | (refine Sem.skip tt_ok ?_; conv => whnf) | (refine Sem.exit tt_ok ?_; conv => whnf) | (refine Sem.ret tt_ok ?_; conv => whnf) | (refine BS_t (by assumption) ?_; conv => whnf) | (refine BS_f (by assumption) ?_; conv => whnf) | (refine atG (by first | assumption | exact setG_same _ _ _ | (refine Eq.trans (setG_ne _ _ (by first | assumption | exact Ne.symm (by assumption))) ?_; first | assumption | exact setG_same _ _ _ | (refine Eq.trans (setG_ne _ _ (by first | assumption | exact Ne.symm (by assumption))) ?_; first | assumption | exact setG_same _ _ _ | (refine Eq.trans (setG_ne _ _ (by first | assumption | exact Ne.symm (by assumption))) ?_; first | assumption | exact setG_same _ _ _)))) ?_; conv => whnf) | (refine (nthK_iff _ _).2 ⟨_, (by assumption), ?_⟩; conv => whnf) | (refine Exists.intro _ (And.intro (And.intro (by omega) (by assumption)) ?_); conv => whnf) | (refine And.intro (by first | decide | omega) ?_; conv => whnf) | fail)
    refine Exists.intro _ (And.intro (by first | assumption | exact setG_same _ _ _ | (refine Eq.trans (setG_ne _ _ (by first | assumption | exact Ne.symm (by assumption))) ?_; first | assumption | exact setG_same _ _ _ | (refine Eq.trans (setG_ne _ _ (by first | assumption | exact Ne.symm (by assumption))) ?_; first | assumption | exact setG_same _ _ _ | (refine Eq.trans (setG_ne _ _ (by first | assumption | exact Ne.symm (by assumption))) ?_; first | assumption | exact setG_same _ _ _)))) ?_); conv => whnf
    repeat' (first | (refine Sem.reg tt_ok ?_; conv => whnf) | refine Sem.seqS ?_ | (refine Sem.condS ?_; conv => whnf) | refine Sem.block ?_ | (refine Sem.regL tt_ok ?_; conv => whnf) | (refine Sem.skip tt_ok ?_; conv => whnf) | (refine Sem.exit tt_ok ?_; conv => whnf) | (refine Sem.ret tt_ok ?_; conv => whnf) | (refine BS_t (by assumption) ?_; conv => whnf) | (refine BS_f (by assumption) ?_; conv => whnf) | (refine atG (by first | assumption | exact setG_same _ _ _ | (refine Eq.trans (setG_ne _ _ (by first | assumption | exact Ne.symm (by assumption))) ?_; first | assumption | exact setG_same _ _ _ | (refine Eq.trans (setG_ne _ _ (by first | assumption | exact Ne.symm (by assumption))) ?_; first | assumption | exact setG_same _ _ _ | (refine Eq.trans (setG_ne _ _ (by first | assumption | exact Ne.symm (by assumption))) ?_; first | assumption | exact setG_same _ _ _)))) ?_; conv => whnf) | (refine (nthK_iff _ _).2 ⟨_, (by assumption), ?_⟩; conv => whnf) | (refine Exists.intro _ (And.intro (And.intro (by omega) (by assumption)) ?_); conv => whnf) | (refine And.intro (by first | decide | omega) ?_; conv => whnf) | fail)
    have s2 : StG (setG (setG G q (.cells [nextP [], lp, .int .i64 ((([] : List (Nat × ByteArray)).length + 1 : Nat) - 1)])) mb (.map none (mdel (bk fav l) (.str k)))) b (.mp mb) n (bk fav (ldel l k)) :=
      ⟨by first | assumption | exact setG_same _ _ _ | (refine Eq.trans (setG_ne _ _ (by first | assumption | exact Ne.symm (by assumption))) ?_; first | assumption | exact setG_same _ _ _ | (refine Eq.trans (setG_ne _ _ (by first | assumption | exact Ne.symm (by assumption))) ?_; first | assumption | exact setG_same _ _ _ | (refine Eq.trans (setG_ne _ _ (by first | assumption | exact Ne.symm (by assumption))) ?_; first | assumption | exact setG_same _ _ _))), .inr ⟨mb, rfl, (setG_same _ _ _).trans (congrArg (fun z => some (GB.map none z)) (bk_del fav k l))⟩⟩
    have hg2 := fgrows_ok _ b (.mp mb) n (ldel l k) k t hk ht s2
    have hw : IntKind.i64.wrap (n - fgrow (ldel l k) k t) = n - fgrow (ldel l k) k t := IntWalk.i64_in _ (by unfold fgrow; split <;> omega)
    refine draw_sound (eff := []) tt_ok (by kernel_rfl) (by kernel_rfl) ?_; conv => whnf
    repeat' (first | (refine BS_t (by assumption) ?_; conv => whnf) | (refine BS_f (by assumption) ?_; conv => whnf) | (refine atG (by first | assumption | exact setG_same _ _ _ | (refine Eq.trans (setG_ne _ _ (by first | assumption | exact Ne.symm (by assumption))) ?_; first | assumption | exact setG_same _ _ _ | (refine Eq.trans (setG_ne _ _ (by first | assumption | exact Ne.symm (by assumption))) ?_; first | assumption | exact setG_same _ _ _ | (refine Eq.trans (setG_ne _ _ (by first | assumption | exact Ne.symm (by assumption))) ?_; first | assumption | exact setG_same _ _ _)))) ?_; conv => whnf) | (refine (nthK_iff _ _).2 ⟨_, (by assumption), ?_⟩; conv => whnf) | (refine Exists.intro _ (And.intro (And.intro (by omega) (by assumption)) ?_); conv => whnf) | (refine And.intro (by first | decide | omega) ?_; conv => whnf) | fail)
    refine ⟨_, _, hg2, ?_⟩; (conv => whnf); refine And.intro rfl ?_; conv => whnf
    repeat' (first | (refine BS_t (by assumption) ?_; conv => whnf) | (refine BS_f (by assumption) ?_; conv => whnf) | (refine atG (by first | assumption | exact setG_same _ _ _ | (refine Eq.trans (setG_ne _ _ (by first | assumption | exact Ne.symm (by assumption))) ?_; first | assumption | exact setG_same _ _ _ | (refine Eq.trans (setG_ne _ _ (by first | assumption | exact Ne.symm (by assumption))) ?_; first | assumption | exact setG_same _ _ _ | (refine Eq.trans (setG_ne _ _ (by first | assumption | exact Ne.symm (by assumption))) ?_; first | assumption | exact setG_same _ _ _)))) ?_; conv => whnf) | (refine (nthK_iff _ _).2 ⟨_, (by assumption), ?_⟩; conv => whnf) | (refine Exists.intro _ (And.intro (And.intro (by omega) (by assumption)) ?_); conv => whnf) | (refine And.intro (by first | decide | omega) ?_; conv => whnf) | fail)
    rw [hw]
    repeat' (first | (refine Sem.reg tt_ok ?_; conv => whnf) | refine Sem.seqS ?_ | (refine Sem.condS ?_; conv => whnf) | refine Sem.block ?_ | (refine Sem.regL tt_ok ?_; conv => whnf) | (refine Sem.skip tt_ok ?_; conv => whnf) | (refine Sem.exit tt_ok ?_; conv => whnf) | (refine Sem.ret tt_ok ?_; conv => whnf) | (refine BS_t (by assumption) ?_; conv => whnf) | (refine BS_f (by assumption) ?_; conv => whnf) | (refine atG (by first | assumption | exact setG_same _ _ _ | (refine Eq.trans (setG_ne _ _ (by first | assumption | exact Ne.symm (by assumption))) ?_; first | assumption | exact setG_same _ _ _ | (refine Eq.trans (setG_ne _ _ (by first | assumption | exact Ne.symm (by assumption))) ?_; first | assumption | exact setG_same _ _ _ | (refine Eq.trans (setG_ne _ _ (by first | assumption | exact Ne.symm (by assumption))) ?_; first | assumption | exact setG_same _ _ _)))) ?_; conv => whnf) | (refine (nthK_iff _ _).2 ⟨_, (by assumption), ?_⟩; conv => whnf) | (refine Exists.intro _ (And.intro (And.intro (by omega) (by assumption)) ?_); conv => whnf) | (refine And.intro (by first | decide | omega) ?_; conv => whnf) | fail)
    refine ⟨_, fun _ _ h => h, rfl, _, rfl, hall_del h ⟨setG_same _ _ _, .inr ⟨mb, rfl, (setG_ne _ _ hne).trans ((setG_same _ _ _).trans (congrArg (fun z => some (GB.map none z)) (bk_del fav k l)))⟩⟩ fun z y hz hb hmz hx => ?_⟩
    have c1 : z ≠ q := (hx _ hq).1
    have c2 : z ≠ mb := by rintro rfl; exact hmz rfl
    simpa [setG, hb, c1, c2] using hz
  | cons a r =>
    have d : ((((a :: r).length + 1 : Nat) : Int) - 1 == 0) = false := by rw [beq_eq_false_iff_ne]; simp only [List.length_cons]; omega
    rw [d]
    conv => whnf
    repeat' (first | (refine Sem.reg tt_ok ?_; conv => whnf) | refine Sem.seqS ?_ | (refine Sem.condS ?_; conv => whnf) | refine Sem.block ?_ | (refine Sem.regL tt_ok ?_; conv => whnf) | (refine Sem.skip tt_ok ?_; conv => whnf) | (refine Sem.exit tt_ok ?_; conv => whnf) | (refine Sem.ret tt_ok ?_; conv => whnf) | (refine BS_t (by assumption) ?_; conv => whnf) | (refine BS_f (by assumption) ?_; conv => whnf) | (refine atG (by first | assumption | exact setG_same _ _ _ | (refine Eq.trans (setG_ne _ _ (by first | assumption | exact Ne.symm (by assumption))) ?_; first | assumption | exact setG_same _ _ _ | (refine Eq.trans (setG_ne _ _ (by first | assumption | exact Ne.symm (by assumption))) ?_; first | assumption | exact setG_same _ _ _ | (refine Eq.trans (setG_ne _ _ (by first | assumption | exact Ne.symm (by assumption))) ?_; first | assumption | exact setG_same _ _ _)))) ?_; conv => whnf) | (refine (nthK_iff _ _).2 ⟨_, (by assumption), ?_⟩; conv => whnf) | (refine Exists.intro _ (And.intro (And.intro (by omega) (by assumption)) ?_); conv => whnf) | (refine And.intro (by first | decide | omega) ?_; conv => whnf) | fail)
    have s2 : StG (setG G q (.cells [nextP (a :: r), lp, .int .i64 (((a :: r).length + 1 : Nat) - 1)])) b (.mp mb) n (bk fav (lput l k (q, a :: r))) :=
      ⟨by first | assumption | exact setG_same _ _ _ | (refine Eq.trans (setG_ne _ _ (by first | assumption | exact Ne.symm (by assumption))) ?_; first | assumption | exact setG_same _ _ _ | (refine Eq.trans (setG_ne _ _ (by first | assumption | exact Ne.symm (by assumption))) ?_; first | assumption | exact setG_same _ _ _ | (refine Eq.trans (setG_ne _ _ (by first | assumption | exact Ne.symm (by assumption))) ?_; first | assumption | exact setG_same _ _ _))), .inr ⟨mb, rfl, by rw [← bk_put_fav l k _ (a :: r) hq]; first | assumption | exact setG_same _ _ _ | (refine Eq.trans (setG_ne _ _ (by first | assumption | exact Ne.symm (by assumption))) ?_; first | assumption | exact setG_same _ _ _ | (refine Eq.trans (setG_ne _ _ (by first | assumption | exact Ne.symm (by assumption))) ?_; first | assumption | exact setG_same _ _ _ | (refine Eq.trans (setG_ne _ _ (by first | assumption | exact Ne.symm (by assumption))) ?_; first | assumption | exact setG_same _ _ _)))⟩⟩
    have hg2 := fgrows_ok _ b (.mp mb) n (lput l k (q, a :: r)) k t hk ht s2
    have hw : IntKind.i64.wrap (n - fgrow (lput l k (q, a :: r)) k t) = n - fgrow (lput l k (q, a :: r)) k t := IntWalk.i64_in _ (by unfold fgrow; split <;> omega)
    refine draw_sound (eff := []) tt_ok (by kernel_rfl) (by kernel_rfl) ?_; conv => whnf
    repeat' (first | (refine BS_t (by assumption) ?_; conv => whnf) | (refine BS_f (by assumption) ?_; conv => whnf) | (refine atG (by first | assumption | exact setG_same _ _ _ | (refine Eq.trans (setG_ne _ _ (by first | assumption | exact Ne.symm (by assumption))) ?_; first | assumption | exact setG_same _ _ _ | (refine Eq.trans (setG_ne _ _ (by first | assumption | exact Ne.symm (by assumption))) ?_; first | assumption | exact setG_same _ _ _ | (refine Eq.trans (setG_ne _ _ (by first | assumption | exact Ne.symm (by assumption))) ?_; first | assumption | exact setG_same _ _ _)))) ?_; conv => whnf) | (refine (nthK_iff _ _).2 ⟨_, (by assumption), ?_⟩; conv => whnf) | (refine Exists.intro _ (And.intro (And.intro (by omega) (by assumption)) ?_); conv => whnf) | (refine And.intro (by first | decide | omega) ?_; conv => whnf) | fail)
    refine ⟨_, _, hg2, ?_⟩; (conv => whnf); refine And.intro rfl ?_; conv => whnf
    repeat' (first | (refine BS_t (by assumption) ?_; conv => whnf) | (refine BS_f (by assumption) ?_; conv => whnf) | (refine atG (by first | assumption | exact setG_same _ _ _ | (refine Eq.trans (setG_ne _ _ (by first | assumption | exact Ne.symm (by assumption))) ?_; first | assumption | exact setG_same _ _ _ | (refine Eq.trans (setG_ne _ _ (by first | assumption | exact Ne.symm (by assumption))) ?_; first | assumption | exact setG_same _ _ _ | (refine Eq.trans (setG_ne _ _ (by first | assumption | exact Ne.symm (by assumption))) ?_; first | assumption | exact setG_same _ _ _)))) ?_; conv => whnf) | (refine (nthK_iff _ _).2 ⟨_, (by assumption), ?_⟩; conv => whnf) | (refine Exists.intro _ (And.intro (And.intro (by omega) (by assumption)) ?_); conv => whnf) | (refine And.intro (by first | decide | omega) ?_; conv => whnf) | fail)
    rw [hw]
    repeat' (first | (refine Sem.reg tt_ok ?_; conv => whnf) | refine Sem.seqS ?_ | (refine Sem.condS ?_; conv => whnf) | refine Sem.block ?_ | (refine Sem.regL tt_ok ?_; conv => whnf) | (refine Sem.skip tt_ok ?_; conv => whnf) | (refine Sem.exit tt_ok ?_; conv => whnf) | (refine Sem.ret tt_ok ?_; conv => whnf) | (refine BS_t (by assumption) ?_; conv => whnf) | (refine BS_f (by assumption) ?_; conv => whnf) | (refine atG (by first | assumption | exact setG_same _ _ _ | (refine Eq.trans (setG_ne _ _ (by first | assumption | exact Ne.symm (by assumption))) ?_; first | assumption | exact setG_same _ _ _ | (refine Eq.trans (setG_ne _ _ (by first | assumption | exact Ne.symm (by assumption))) ?_; first | assumption | exact setG_same _ _ _ | (refine Eq.trans (setG_ne _ _ (by first | assumption | exact Ne.symm (by assumption))) ?_; first | assumption | exact setG_same _ _ _)))) ?_; conv => whnf) | (refine (nthK_iff _ _).2 ⟨_, (by assumption), ?_⟩; conv => whnf) | (refine Exists.intro _ (And.intro (And.intro (by omega) (by assumption)) ?_); conv => whnf) | (refine And.intro (by first | decide | omega) ?_; conv => whnf) | fail)
    have hqi : q ∉ (a :: r).map (·.1) := fun hz => que_off hQ hQ (by simp only [List.map_cons, List.mem_cons] at hz ⊢; exact .inr hz)
    refine ⟨_, fun _ _ h => h, rfl, _, rfl, hall_turn (x := (q, a :: r)) h ⟨setG_same _ _ _, .inr ⟨mb, rfl, ?_⟩⟩ ⟨by simp, ⟨⟨lp, ?_, fun y hy => g2 y ?_⟩, seg_mono g4 fun z y hz hy => ?_⟩, ?_, ?_⟩ (fun z y hz hb hmz hx => ?_) (.inr ⟨_, hq, rfl⟩) fun z hz => .inr ⟨_, hq, ?_⟩⟩
    · dsimp only
      rw [setG_ne _ _ hne, setG_ne _ _ hqm.symm, ← bk_put_fav l k _ (a :: r) hq]
      exact h2
    · dsimp only
      rw [setG_ne _ _ hqb, setG_same]
      simp
    · simp only [List.getLast?_cons_cons]
      exact hy
    · have c := hxb z (.inr (.inr hz))
      have c1 : z ≠ q := by rintro rfl; exact hqi hz
      simpa [setG, c.1, c1] using hy
    · simp only [List.map_cons, List.nodup_cons] at hnd ⊢
      exact hnd.2
    · simp only [List.length_cons] at hlen ⊢; omega
    · have c1 : z ≠ q := (hx _ hq).1
      simpa [setG, hb, c1] using hz
    · simp only [List.map_cons, List.mem_cons] at hz ⊢; exact .inr hz
theorem fawake_ok (G : Glob) : CallOk Try.prog TT 51 [] G (fun v _ => v = .bool true) := by
  refine call_sem tt_ok Try.func51 rfl (by kernel_rfl) Try.ntmps51 Try.results51 ?_; conv => whnf
  repeat' (first | (refine Sem.reg tt_ok ?_; conv => whnf) | refine Sem.seqS ?_ | (refine Sem.condS ?_; conv => whnf) | refine Sem.block ?_ | (refine Sem.regL tt_ok ?_; conv => whnf) | (refine Sem.skip tt_ok ?_; conv => whnf) | (refine Sem.exit tt_ok ?_; conv => whnf) | (refine Sem.ret tt_ok ?_; conv => whnf) | (refine BS_t (by assumption) ?_; conv => whnf) | (refine BS_f (by assumption) ?_; conv => whnf) | (refine atG (by first | assumption | exact setG_same _ _ _ | (refine Eq.trans (setG_ne _ _ (by first | assumption | exact Ne.symm (by assumption))) ?_; first | assumption | exact setG_same _ _ _ | (refine Eq.trans (setG_ne _ _ (by first | assumption | exact Ne.symm (by assumption))) ?_; first | assumption | exact setG_same _ _ _ | (refine Eq.trans (setG_ne _ _ (by first | assumption | exact Ne.symm (by assumption))) ?_; first | assumption | exact setG_same _ _ _)))) ?_; conv => whnf) | (refine (nthK_iff _ _).2 ⟨_, (by assumption), ?_⟩; conv => whnf) | (refine Exists.intro _ (And.intro (And.intro (by omega) (by assumption)) ?_); conv => whnf) | (refine And.intro (by first | decide | omega) ?_; conv => whnf) | fail)
  refine (fnew_ok _).mono fun v G1 hv => ?_; obtain ⟨b, hb, rfl, rfl⟩ := hv; conv => whnf
  repeat' (first | (refine Sem.reg tt_ok ?_; conv => whnf) | refine Sem.seqS ?_ | (refine Sem.condS ?_; conv => whnf) | refine Sem.block ?_ | (refine Sem.regL tt_ok ?_; conv => whnf) | (refine Sem.skip tt_ok ?_; conv => whnf) | (refine Sem.exit tt_ok ?_; conv => whnf) | (refine Sem.ret tt_ok ?_; conv => whnf) | (refine BS_t (by assumption) ?_; conv => whnf) | (refine BS_f (by assumption) ?_; conv => whnf) | (refine atG (by first | assumption | exact setG_same _ _ _ | (refine Eq.trans (setG_ne _ _ (by first | assumption | exact Ne.symm (by assumption))) ?_; first | assumption | exact setG_same _ _ _ | (refine Eq.trans (setG_ne _ _ (by first | assumption | exact Ne.symm (by assumption))) ?_; first | assumption | exact setG_same _ _ _ | (refine Eq.trans (setG_ne _ _ (by first | assumption | exact Ne.symm (by assumption))) ?_; first | assumption | exact setG_same _ _ _)))) ?_; conv => whnf) | (refine (nthK_iff _ _).2 ⟨_, (by assumption), ?_⟩; conv => whnf) | (refine Exists.intro _ (And.intro (And.intro (by omega) (by assumption)) ?_); conv => whnf) | (refine And.intro (by first | decide | omega) ?_; conv => whnf) | fail)
  have h0 : HallG (setG G b (.cells [.nilm, .int .i64 0])) b .nilm 0 [] := ⟨⟨setG_same _ _ _, .inl ⟨rfl, rfl⟩⟩, by simp, (fun e he => by cases he), (fun e he => by cases he)⟩
  refine (fpush_ok _ b .nilm 0 [] ⟨#[113]⟩ ⟨#[97]⟩ (by decide) (by decide) (by decide) (by decide) h0 (fun x h => by cases h)).mono fun v G1 hv => ?_; obtain ⟨rfl, mv1, j1, q1, h1⟩ := hv; conv => whnf
  simp only [lget, lput] at h1
  rw [show (0 : Int) + fgrow [] ⟨#[113]⟩ ⟨#[97]⟩ = 34 from rfl] at h1
  repeat' (first | (refine Sem.reg tt_ok ?_; conv => whnf) | refine Sem.seqS ?_ | (refine Sem.condS ?_; conv => whnf) | refine Sem.block ?_ | (refine Sem.regL tt_ok ?_; conv => whnf) | (refine Sem.skip tt_ok ?_; conv => whnf) | (refine Sem.exit tt_ok ?_; conv => whnf) | (refine Sem.ret tt_ok ?_; conv => whnf) | (refine BS_t (by assumption) ?_; conv => whnf) | (refine BS_f (by assumption) ?_; conv => whnf) | (refine atG (by first | assumption | exact setG_same _ _ _ | (refine Eq.trans (setG_ne _ _ (by first | assumption | exact Ne.symm (by assumption))) ?_; first | assumption | exact setG_same _ _ _ | (refine Eq.trans (setG_ne _ _ (by first | assumption | exact Ne.symm (by assumption))) ?_; first | assumption | exact setG_same _ _ _ | (refine Eq.trans (setG_ne _ _ (by first | assumption | exact Ne.symm (by assumption))) ?_; first | assumption | exact setG_same _ _ _)))) ?_; conv => whnf) | (refine (nthK_iff _ _).2 ⟨_, (by assumption), ?_⟩; conv => whnf) | (refine Exists.intro _ (And.intro (And.intro (by omega) (by assumption)) ?_); conv => whnf) | (refine And.intro (by first | decide | omega) ?_; conv => whnf) | fail)
  refine (fpush_ok _ b mv1 _ _ ⟨#[113]⟩ ⟨#[98]⟩ (by decide) (by decide) (by decide) (by decide) h1 (fun x h => by simp [lget] at h; subst h; simp)).mono fun v G1 hv => ?_; obtain ⟨rfl, mv2, j2, q2, h2⟩ := hv; conv => whnf
  simp only [lget, lput, decide_true, List.cons_append, List.nil_append] at h2
  rw [show (34 : Int) + fgrow [(⟨#[113]⟩, q1, [(j1, ⟨#[97]⟩)])] ⟨#[113]⟩ ⟨#[98]⟩ = 51 from rfl] at h2
  repeat' (first | (refine Sem.reg tt_ok ?_; conv => whnf) | refine Sem.seqS ?_ | (refine Sem.condS ?_; conv => whnf) | refine Sem.block ?_ | (refine Sem.regL tt_ok ?_; conv => whnf) | (refine Sem.skip tt_ok ?_; conv => whnf) | (refine Sem.exit tt_ok ?_; conv => whnf) | (refine Sem.ret tt_ok ?_; conv => whnf) | (refine BS_t (by assumption) ?_; conv => whnf) | (refine BS_f (by assumption) ?_; conv => whnf) | (refine atG (by first | assumption | exact setG_same _ _ _ | (refine Eq.trans (setG_ne _ _ (by first | assumption | exact Ne.symm (by assumption))) ?_; first | assumption | exact setG_same _ _ _ | (refine Eq.trans (setG_ne _ _ (by first | assumption | exact Ne.symm (by assumption))) ?_; first | assumption | exact setG_same _ _ _ | (refine Eq.trans (setG_ne _ _ (by first | assumption | exact Ne.symm (by assumption))) ?_; first | assumption | exact setG_same _ _ _)))) ?_; conv => whnf) | (refine (nthK_iff _ _).2 ⟨_, (by assumption), ?_⟩; conv => whnf) | (refine Exists.intro _ (And.intro (And.intro (by omega) (by assumption)) ?_); conv => whnf) | (refine And.intro (by first | decide | omega) ?_; conv => whnf) | fail)
  refine (fpop_ok _ b mv2 _ _ ⟨#[113]⟩ ⟨#[97]⟩ q1 j1 [(j2, ⟨#[98]⟩)] (by decide) (by decide) (by decide) (by decide) h2 (by simp [lget])).mono fun v G1 hv => ?_; obtain ⟨rfl, l3, hl3, h3⟩ := hv; conv => whnf
  simp only [lget, lput, decide_true] at hl3
  subst hl3
  repeat' (first | (refine Sem.reg tt_ok ?_; conv => whnf) | refine Sem.seqS ?_ | (refine Sem.condS ?_; conv => whnf) | refine Sem.block ?_ | (refine Sem.regL tt_ok ?_; conv => whnf) | (refine Sem.skip tt_ok ?_; conv => whnf) | (refine Sem.exit tt_ok ?_; conv => whnf) | (refine Sem.ret tt_ok ?_; conv => whnf) | (refine BS_t (by assumption) ?_; conv => whnf) | (refine BS_f (by assumption) ?_; conv => whnf) | (refine atG (by first | assumption | exact setG_same _ _ _ | (refine Eq.trans (setG_ne _ _ (by first | assumption | exact Ne.symm (by assumption))) ?_; first | assumption | exact setG_same _ _ _ | (refine Eq.trans (setG_ne _ _ (by first | assumption | exact Ne.symm (by assumption))) ?_; first | assumption | exact setG_same _ _ _ | (refine Eq.trans (setG_ne _ _ (by first | assumption | exact Ne.symm (by assumption))) ?_; first | assumption | exact setG_same _ _ _)))) ?_; conv => whnf) | (refine (nthK_iff _ _).2 ⟨_, (by assumption), ?_⟩; conv => whnf) | (refine Exists.intro _ (And.intro (And.intro (by omega) (by assumption)) ?_); conv => whnf) | (refine And.intro (by first | decide | omega) ?_; conv => whnf) | fail)
  have e1 : ((⟨#[97]⟩ : ByteArray).toList == (⟨#[97]⟩ : ByteArray).toList) = true := beq_self_eq_true _
  rw [e1]
  conv => whnf
  repeat' (first | (refine Sem.reg tt_ok ?_; conv => whnf) | refine Sem.seqS ?_ | (refine Sem.condS ?_; conv => whnf) | refine Sem.block ?_ | (refine Sem.regL tt_ok ?_; conv => whnf) | (refine Sem.skip tt_ok ?_; conv => whnf) | (refine Sem.exit tt_ok ?_; conv => whnf) | (refine Sem.ret tt_ok ?_; conv => whnf) | (refine BS_t (by assumption) ?_; conv => whnf) | (refine BS_f (by assumption) ?_; conv => whnf) | (refine atG (by first | assumption | exact setG_same _ _ _ | (refine Eq.trans (setG_ne _ _ (by first | assumption | exact Ne.symm (by assumption))) ?_; first | assumption | exact setG_same _ _ _ | (refine Eq.trans (setG_ne _ _ (by first | assumption | exact Ne.symm (by assumption))) ?_; first | assumption | exact setG_same _ _ _ | (refine Eq.trans (setG_ne _ _ (by first | assumption | exact Ne.symm (by assumption))) ?_; first | assumption | exact setG_same _ _ _)))) ?_; conv => whnf) | (refine (nthK_iff _ _).2 ⟨_, (by assumption), ?_⟩; conv => whnf) | (refine Exists.intro _ (And.intro (And.intro (by omega) (by assumption)) ?_); conv => whnf) | (refine And.intro (by first | decide | omega) ?_; conv => whnf) | fail)
  refine (fwaits_ok _ b mv2 _ _ ⟨#[113]⟩ h3.1 (fun x h => (h3.2.2.1 _ (lget_mem h)).2.1)).mono fun v G1 hv => ?_; obtain ⟨rfl, rfl⟩ := hv; conv => whnf
  simp only [lget, decide_true]
  repeat' (first | (refine Sem.reg tt_ok ?_; conv => whnf) | refine Sem.seqS ?_ | (refine Sem.condS ?_; conv => whnf) | refine Sem.block ?_ | (refine Sem.regL tt_ok ?_; conv => whnf) | (refine Sem.skip tt_ok ?_; conv => whnf) | (refine Sem.exit tt_ok ?_; conv => whnf) | (refine Sem.ret tt_ok ?_; conv => whnf) | (refine BS_t (by assumption) ?_; conv => whnf) | (refine BS_f (by assumption) ?_; conv => whnf) | (refine atG (by first | assumption | exact setG_same _ _ _ | (refine Eq.trans (setG_ne _ _ (by first | assumption | exact Ne.symm (by assumption))) ?_; first | assumption | exact setG_same _ _ _ | (refine Eq.trans (setG_ne _ _ (by first | assumption | exact Ne.symm (by assumption))) ?_; first | assumption | exact setG_same _ _ _ | (refine Eq.trans (setG_ne _ _ (by first | assumption | exact Ne.symm (by assumption))) ?_; first | assumption | exact setG_same _ _ _)))) ?_; conv => whnf) | (refine (nthK_iff _ _).2 ⟨_, (by assumption), ?_⟩; conv => whnf) | (refine Exists.intro _ (And.intro (And.intro (by omega) (by assumption)) ?_); conv => whnf) | (refine And.intro (by first | decide | omega) ?_; conv => whnf) | fail)
  exact ⟨_, fun _ _ h => h, rfl⟩
end Go.Proofs.Ytpnlhnhjedopgaa
