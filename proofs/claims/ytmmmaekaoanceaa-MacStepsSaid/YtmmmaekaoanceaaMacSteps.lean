/- 'MacSteps': whatever steps: a table does what the document's rows tell, and knows what they know: the law hands back true. Conditions: none. -/
import Derived.Test.YtmmmaekaoanceaaMacR
set_option maxRecDepth 100000
namespace Go.Proofs.Ytmmmaekaoanceaa
open Go Go.RowKit Go.ChangeShapes Go.WideShapes Go.ChangeAt Go.Proofs
open Go.ChangeMaps (open_string shut_string)

structure MStp where
  kind : Int
  owner : Int
  n : Int
  has : Bool
def MStp.av (x : MStp) : List AV := [.int .i64 x.kind, .int .i64 x.owner, .int .u64 x.n, .bool x.has]
theorem qawake21_ok (G : Glob) : CallOk Try.prog TT 19 [] G (fun v G' => v = .bool true ∧ G' = G) :=
  CallOk.of_gives ⟨_, Try.func19, by decide, rfl⟩ fun g us w hu hd => by
    obtain ⟨us⟩ := us
    match us, hu with
    | [], _ => exact ⟨_, .bool _, awake21_any w⟩
/-- the table, the dice -/
def GG (b d : Nat) (ct cd : List AV) : Glob := fun i => if i = b then some (.cells ct) else if i = d then some (.cells cd) else none
theorem GG_b (b d : Nat) (ct cd : List AV) : GG b d ct cd b = some (.cells ct) := if_pos rfl
theorem GG_d {b d : Nat} (h : b ≠ d) (ct cd : List AV) : GG b d ct cd d = some (.cells cd) := by unfold GG; rw [if_neg (Ne.symm h), if_pos rfl]
theorem GG_set1 (b d : Nat) (ct cd ct' : List AV) : setG (GG b d ct cd) b (.cells ct') = GG b d ct' cd := by funext i; simp only [setG, GG]; split <;> rfl
theorem GG_set2 {b d : Nat} (h : b ≠ d) (ct cd cd' : List AV) : setG (GG b d ct cd) d (.cells cd') = GG b d ct cd' := by
  funext i; simp only [setG, GG]
  by_cases h1 : i = d
  · subst h1; rw [if_pos rfl, if_neg (Ne.symm h), if_pos rfl]
  · rw [if_neg h1]; simp only [if_neg h1]
theorem GG_of {b d : Nat} (h : b ≠ d) (ct cd : List AV) : setG (setG (fun _ => none) b (.cells ct)) d (.cells cd) = GG b d ct cd := by
  funext i; simp only [setG, GG]
  by_cases h1 : i = d
  · subst h1; simp [Ne.symm h]
  · simp only [if_neg h1]
/-- how far it is -/
structure MI (n : Nat) where
  k : Nat
  l : List MRow
  t : Tab
  ct : List AV
  cd : List AV
  hk : k ≤ n
  hl : l.length ≤ k
  ht : TabOf l t
  hc : IsTab t ct
  hd : IsDice [] cd
structure MJ (k : Nat) where
  l : List MRow
  t : Tab
  ct : List AV
  cd : List AV
  hl : l.length ≤ k + 1
  ht : TabOf l t
  hc : IsTab t ct
  hd : IsDice [] cd
theorem qmacSteps_ok (sl : List MStp) (hok : ∀ x ∈ sl, (-9223372036854775808 ≤ x.kind ∧ x.kind ≤ 9223372036854775807) ∧ (-9223372036854775808 ≤ x.owner ∧ x.owner ≤ 9223372036854775807) ∧ (0 ≤ x.n ∧ x.n ≤ 18446744073709551615) ∧ True ∧ True) :
    CallOk Try.prog TT 3 [.slc 31 (sl.map MStp.av)] (fun _ => none) (fun v _ => v = .bool true) := by
  refine call_sem tt_ok Try.func3 rfl (by kernel_rfl) Try.ntmps3 Try.results3 ?_; conv => whnf
  refine Sem.seq tt_ok ?_; conv => whnf
  refine Sem.seq tt_ok ?_; conv => whnf
  refine BS_intro (fun h => ?_) (fun h => ?_) <;> conv => whnf
  · refine (qawake21_ok _).on ?_; conv => whnf
    exact ⟨_, fun _ _ h => h, rfl⟩
  have hlen : sl.length ≤ 300 := by simp at h; omega
  clear h
  refine Sem.seq tt_ok ?_; conv => whnf
  refine (tabnew_ok _).mono fun v G' hv => ?_
  obtain ⟨b, cells, hb, rfl, rfl, ht⟩ := hv
  conv => whnf
  refine Sem.seq tt_ok ?_; conv => whnf
  refine (dicenew_ok _).mono fun v G' hv => ?_
  obtain ⟨d, cd, hd, rfl, rfl, hi⟩ := hv
  have hbd : b ≠ d := fun h => by subst h; rw [setG_same] at hd; cases hd
  conv => whnf
  refine Sem.seq tt_ok ?_; conv => whnf
  refine Sem.seqS ?_
  refine Sem.seq tt_ok ?_; conv => whnf
  refine Sem.block ?_
  refine Sem.loop (ι := MI sl.length) (fun x => ⟨(.slc 31 (sl.map MStp.av) :: .top :: .bool false :: .gptr b 0 :: .gptr d 0 :: .slc 40 (x.l.map MRow.av) :: .int .i64 (x.k : Nat) :: .top :: .top :: .top :: .top :: .top :: .top :: .top :: .top :: .top :: .top :: .top :: .top :: .top :: .top :: .top :: .top :: .top :: .top :: .top :: .top :: .top :: .top :: .top :: .top :: .top :: .top :: .top :: .top :: .top :: .top :: .top :: .top :: .top :: .top :: .top :: .top :: .top :: .top :: .top :: .top :: .top :: .top :: .top :: .top :: .top :: .top :: .top :: .top :: .top :: .top :: .top :: .top :: .top :: .top :: .top :: .top :: .top :: .top :: .top :: .top :: .top :: .top :: .top :: .top :: .top :: .top :: .top :: .top :: .top :: .top :: .top :: .top :: .top :: .top :: .top :: .top :: .top :: .top :: .top :: .top :: .top :: .top :: .top :: .top :: .top :: .top :: .top :: .top :: .top :: .top :: .top :: .top :: .top :: .top :: .top :: .top :: .top :: .top :: .top :: .top :: .top :: .top :: .top :: .top :: .top :: .top :: .top :: .top :: .top :: .top :: .top :: .top :: .top :: .top :: .top :: .top :: .top :: .top :: .top :: .top :: .top :: .top :: .top :: .top :: .top :: .top :: .top :: .top :: .top :: .top :: .top :: .top :: .top :: .top :: .top :: .top :: .top :: .top :: .top :: .top :: .top :: .top :: .top :: .top :: .top :: .top :: .top :: .top :: .top :: .top :: .top :: .top :: .top :: .top :: .top :: .top :: .top :: .top :: .top :: .top :: .top :: .top :: .top :: .top :: .top :: .top :: .top :: .top :: .top :: .top :: .top :: .top :: .top :: .top :: .top :: .top :: .top :: .top :: .top :: .top :: .top :: .top :: .top :: .top :: .top :: .top :: .top :: .top :: .top :: .top :: .top :: .top :: .top :: .top :: .top :: .top :: .top :: .top :: .top :: .top :: .top :: .top :: .top :: .top :: .top :: .top :: .top :: .top :: .top :: .top :: .top :: .top :: .top :: .top :: .top :: .top :: .top :: .top :: .top :: .top :: []), [], 0, 0, GG b d x.ct x.cd⟩) (fun x => sl.length - x.k) ⟨0, [], Tab.none, cells, cd, Nat.zero_le _, Nat.le_refl _, tabOf_start, ht, hi⟩ ?_ fun x => ?_
  · refine weak_by [] ?_; (conv => whnf); repeat (first | (refine And.intro rfl ?_; conv => whnf) | fail)
    exact ⟨fun i x hx => by rw [GG_of hbd]; exact hx, rfl, Nat.le_refl _, rfl, rfl⟩
  refine Sem.seq tt_ok ?_; conv => whnf
  refine BS_intro (fun hk => ?_) (fun hk => ?_) <;> conv => whnf
  · have hks : x.k < sl.length := by simp at hk; omega
    clear hk
    obtain ⟨⟨kind, owner, n, has⟩, hs⟩ : ∃ s, sl[x.k]? = some s := ⟨_, List.getElem?_eq_getElem hks⟩
    have hsm : (sl.map MStp.av)[((x.k : Nat) : Int).toNat]? = some [.int .i64 kind, .int .i64 owner, .int .u64 n, .bool has] := by rw [Int.toNat_natCast, List.getElem?_map, hs]; rfl
    have hsok := hok _ (List.mem_of_getElem? hs)
    simp only at hsok
    obtain ⟨m, hm⟩ : ∃ m, m = decide (0 ≤ owner ∧ owner ≤ 8) := ⟨_, rfl⟩
    refine Sem.seqS ?_
    refine Sem.block ?_
    refine Sem.seq tt_ok ?_; conv => whnf
    repeat' (first | (refine BS_t (by assumption) ?_; conv => whnf) | (refine BS_f (by assumption) ?_; conv => whnf) | (refine atG (by first | assumption | exact setG_same _ _ _) ?_; conv => whnf) | (refine (nthK_iff _ _).2 ⟨_, (by assumption), ?_⟩; conv => whnf) | (refine Exists.intro _ (And.intro (And.intro (by omega) (by assumption)) ?_); conv => whnf) | (refine And.intro (by first | decide | omega) ?_; conv => whnf) | fail)
    refine Sem.cut tt_ok (ι := Unit) (fun _ => ⟨(.slc 31 (sl.map MStp.av) :: .top :: .bool false :: .gptr b 0 :: .gptr d 0 :: .slc 40 (x.l.map MRow.av) :: .int .i64 (x.k : Nat) :: .lptr 0 0 :: .bool m :: .top :: .top :: .top :: .top :: .top :: .top :: .top :: .top :: .top :: .top :: .top :: .top :: .top :: .top :: .top :: .top :: .top :: .top :: .top :: .top :: .top :: .top :: .top :: .top :: .top :: .top :: .top :: .top :: .top :: .top :: .top :: .top :: .top :: .top :: .top :: .top :: .top :: .top :: .top :: .top :: .top :: .top :: .top :: .top :: .top :: .top :: .top :: .top :: .top :: .top :: .top :: .top :: .top :: .top :: .top :: .top :: .top :: .top :: .top :: .top :: .top :: .top :: .top :: .top :: .top :: .top :: .top :: .top :: .top :: .top :: .top :: .top :: .top :: .top :: .top :: .top :: .top :: .top :: .top :: .top :: .top :: .top :: .top :: .top :: .top :: .top :: .top :: .top :: .top :: .top :: .top :: .top :: .top :: .top :: .top :: .top :: .top :: .top :: .top :: .top :: .top :: .top :: .top :: .top :: .top :: .top :: .top :: .top :: .top :: .top :: .top :: .top :: .top :: .top :: .top :: .top :: .top :: .top :: .top :: .top :: .top :: .top :: .top :: .top :: .top :: .top :: .top :: .top :: .top :: .top :: .top :: .top :: .top :: .top :: .top :: .top :: .top :: .top :: .top :: .top :: .top :: .top :: .top :: .top :: .top :: .top :: .top :: .top :: .top :: .top :: .top :: .top :: .top :: .top :: .top :: .top :: .top :: .top :: .top :: .top :: .top :: .top :: .top :: .top :: .top :: .top :: .top :: .top :: .top :: .top :: .top :: .top :: .top :: .top :: .top :: .top :: .top :: .top :: .top :: .top :: .top :: .top :: .top :: .top :: .top :: .top :: .top :: .top :: .top :: .top :: .top :: .top :: .top :: .top :: .top :: .top :: .top :: .top :: .top :: .top :: .top :: .top :: .top :: .top :: .top :: .top :: .top :: .top :: .top :: .top :: .top :: .top :: .top :: .top :: .top :: .top :: .top :: .top :: []), [.live none [.int .i64 kind, .int .i64 owner, .int .u64 n, .bool has]], 1, 0, GG b d x.ct x.cd⟩) (fun _ => ?_) (by
      conv => whnf
      repeat' (first | (refine BS_t (by assumption) ?_; conv => whnf) | (refine BS_f (by assumption) ?_; conv => whnf) | (refine BS_intro (fun _ => ?_) (fun _ => ?_) <;> conv => whnf))
      all_goals refine ⟨(), ?_⟩
      all_goals refine weak_by [] ?_; (conv => whnf); repeat (first | (refine And.intro rfl ?_; conv => whnf) | fail)
      all_goals (refine And.intro ?_ ?_; focus (first | (simp_all; done) | (simp_all; omega)))
      all_goals conv => whnf
      all_goals (repeat (first | (refine And.intro rfl ?_; conv => whnf) | fail))
      all_goals exact ⟨fun _ _ h => h, rfl, Nat.le_refl _, rfl, rfl⟩)
    refine Sem.cutS (ι := MJ x.k) (fun y => ⟨(.slc 31 (sl.map MStp.av) :: .top :: .bool false :: .gptr b 0 :: .gptr d 0 :: .slc 40 (y.l.map MRow.av) :: .int .i64 (x.k : Nat) :: .top :: .top :: .top :: .top :: .top :: .top :: .top :: .top :: .top :: .top :: .top :: .top :: .top :: .top :: .top :: .top :: .top :: .top :: .top :: .top :: .top :: .top :: .top :: .top :: .top :: .top :: .top :: .top :: .top :: .top :: .top :: .top :: .top :: .top :: .top :: .top :: .top :: .top :: .top :: .top :: .top :: .top :: .top :: .top :: .top :: .top :: .top :: .top :: .top :: .top :: .top :: .top :: .top :: .top :: .top :: .top :: .top :: .top :: .top :: .top :: .top :: .top :: .top :: .top :: .top :: .top :: .top :: .top :: .top :: .top :: .top :: .top :: .top :: .top :: .top :: .top :: .top :: .top :: .top :: .top :: .top :: .top :: .top :: .top :: .top :: .top :: .top :: .top :: .top :: .top :: .top :: .top :: .top :: .top :: .top :: .top :: .top :: .top :: .top :: .top :: .top :: .top :: .top :: .top :: .top :: .top :: .top :: .top :: .top :: .top :: .top :: .top :: .top :: .top :: .top :: .top :: .top :: .top :: .top :: .top :: .top :: .top :: .top :: .top :: .top :: .top :: .top :: .top :: .top :: .top :: .top :: .top :: .top :: .top :: .top :: .top :: .top :: .top :: .top :: .top :: .top :: .top :: .top :: .top :: .top :: .top :: .top :: .top :: .top :: .top :: .top :: .top :: .top :: .top :: .top :: .top :: .top :: .top :: .top :: .top :: .top :: .top :: .top :: .top :: .top :: .top :: .top :: .top :: .top :: .top :: .top :: .top :: .top :: .top :: .top :: .top :: .top :: .top :: .top :: .top :: .top :: .top :: .top :: .top :: .top :: .top :: .top :: .top :: .top :: .top :: .top :: .top :: .top :: .top :: .top :: .top :: .top :: .top :: .top :: .top :: .top :: .top :: .top :: .top :: .top :: .top :: .top :: .top :: .top :: .top :: .top :: .top :: .top :: .top :: .top :: .top :: .top :: .top :: .top :: .top :: []), [], 0, 0, GG b d y.ct y.cd⟩) (fun y => ?_) ?_
    · refine Sem.seq tt_ok ?_; conv => whnf
      refine Sem.block ?_
      refine Sem.loop (ι := {j : Nat // j ≤ y.l.length}) (fun j => ⟨(.slc 31 (sl.map MStp.av) :: .top :: .bool false :: .gptr b 0 :: .gptr d 0 :: .slc 40 (y.l.map MRow.av) :: .int .i64 (x.k : Nat) :: .top :: .top :: .top :: .top :: .top :: .top :: .top :: .top :: .top :: .int .i64 (j.1 : Nat) :: .top :: .top :: .top :: .top :: .top :: .top :: .top :: .top :: .top :: .top :: .top :: .top :: .top :: .top :: .top :: .top :: .top :: .top :: .top :: .top :: .top :: .top :: .top :: .top :: .top :: .top :: .top :: .top :: .top :: .top :: .top :: .top :: .top :: .top :: .top :: .top :: .top :: .top :: .top :: .top :: .top :: .top :: .top :: .top :: .top :: .top :: .top :: .top :: .top :: .top :: .top :: .top :: .top :: .top :: .top :: .top :: .top :: .top :: .top :: .top :: .top :: .top :: .top :: .top :: .top :: .top :: .top :: .top :: .top :: .top :: .top :: .top :: .top :: .top :: .top :: .top :: .top :: .top :: .top :: .top :: .top :: .top :: .top :: .top :: .top :: .top :: .top :: .top :: .top :: .top :: .top :: .top :: .top :: .top :: .top :: .top :: .top :: .top :: .top :: .top :: .top :: .top :: .top :: .top :: .top :: .top :: .top :: .top :: .top :: .top :: .top :: .top :: .top :: .top :: .top :: .top :: .top :: .top :: .top :: .top :: .top :: .top :: .top :: .top :: .top :: .top :: .top :: .top :: .top :: .top :: .top :: .top :: .top :: .top :: .top :: .top :: .top :: .top :: .top :: .top :: .top :: .top :: .top :: .top :: .top :: .top :: .top :: .top :: .top :: .top :: .top :: .top :: .top :: .top :: .top :: .top :: .top :: .top :: .top :: .top :: .top :: .top :: .top :: .top :: .top :: .top :: .top :: .top :: .top :: .top :: .top :: .top :: .top :: .top :: .top :: .top :: .top :: .top :: .top :: .top :: .top :: .top :: .top :: .top :: .top :: .top :: .top :: .top :: .top :: .top :: .top :: .top :: .top :: .top :: .top :: .top :: .top :: .top :: .top :: .top :: .top :: .top :: .top :: .top :: .top :: .top :: .top :: .top :: .top :: .top :: []), [], 0, 0, GG b d y.ct y.cd⟩) (fun j => y.l.length - j.1) ⟨0, Nat.zero_le _⟩ ?_ (fun j => ?_)
      · refine weak_by [] ?_; (conv => whnf); repeat (first | (refine And.intro rfl ?_; conv => whnf) | fail)
        exact ⟨fun _ _ h => h, rfl, Nat.le_refl _, rfl, rfl⟩
      obtain ⟨j, hj⟩ := j
      refine Sem.seq tt_ok ?_; conv => whnf
      refine BS_intro (fun hk => ?_) (fun hk => ?_) <;> conv => whnf
      · have hjs : j < y.l.length := by simp at hk; omega
        clear hk
        obtain ⟨r, hr⟩ : ∃ r, y.l[j]? = some r := ⟨_, List.getElem?_eq_getElem hjs⟩
        have hrm : (y.l.map MRow.av)[((j : Nat) : Int).toNat]? = some r.av := by rw [Int.toNat_natCast, List.getElem?_map, hr]; rfl
        refine Sem.run tt_ok ?_; conv => whnf
        refine draw_sound (eff := []) tt_ok (by kernel_rfl) (by kernel_rfl) ?_; conv => whnf
        repeat' (first | (refine BS_t (by assumption) ?_; conv => whnf) | (refine BS_f (by assumption) ?_; conv => whnf) | (refine atG (by first | assumption | exact setG_same _ _ _) ?_; conv => whnf) | (refine (nthK_iff _ _).2 ⟨_, (by assumption), ?_⟩; conv => whnf) | (refine Exists.intro _ (And.intro (And.intro (by omega) (by assumption)) ?_); conv => whnf) | (refine And.intro (by first | decide | omega) ?_; conv => whnf) | fail)
        refine ⟨_, _, knows_ok r.owner r.epoch r.tag b y.t y.ct _ (GG_b b d y.ct y.cd) y.hc, ?_⟩; (conv => whnf); refine And.intro rfl ?_; conv => whnf
        repeat' (first | (refine BS_t (by assumption) ?_; conv => whnf) | (refine BS_f (by assumption) ?_; conv => whnf) | (refine atG (by first | assumption | exact setG_same _ _ _) ?_; conv => whnf) | (refine (nthK_iff _ _).2 ⟨_, (by assumption), ?_⟩; conv => whnf) | (refine Exists.intro _ (And.intro (And.intro (by omega) (by assumption)) ?_); conv => whnf) | (refine And.intro (by first | decide | omega) ?_; conv => whnf) | fail)
        refine ⟨_, _, qrefknows_ok y.l r.owner r.epoch r.tag _, ?_⟩; (conv => whnf); refine And.intro rfl ?_; conv => whnf
        have hne : (knowsT y.t r.owner r.epoch r.tag != knowsL y.l r.owner r.epoch r.tag) = false := by rw [y.ht.kn]; simp
        repeat' (first | (refine BS_t (by assumption) ?_; conv => whnf) | (refine BS_f (by assumption) ?_; conv => whnf) | (refine atG (by first | assumption | exact setG_same _ _ _) ?_; conv => whnf) | (refine (nthK_iff _ _).2 ⟨_, (by assumption), ?_⟩; conv => whnf) | (refine Exists.intro _ (And.intro (And.intro (by omega) (by assumption)) ?_); conv => whnf) | (refine And.intro (by first | decide | omega) ?_; conv => whnf) | fail)
        refine ⟨⟨j + 1, by omega⟩, by show y.l.length - (j + 1) < y.l.length - j; omega, ?_⟩
        refine weak_by [] ?_; (conv => whnf); repeat (first | (refine And.intro rfl ?_; conv => whnf) | fail)
        have hw : IntKind.i64.wrap ((j : Int) + 1) = ((j + 1 : Nat) : Int) := by have := y.hl; rw [IntWalk.i64_in _ (by omega)]; omega
        refine And.intro hw ?_
        conv => whnf
        exact ⟨fun _ _ h => h, rfl, Nat.le_refl _, rfl, rfl⟩
      · refine Sem.run tt_ok ?_; conv => whnf
        have hl := y.hl
        refine ⟨⟨x.k + 1, y.l, y.t, y.ct, y.cd, by omega, by omega, y.ht, y.hc, y.hd⟩, by show sl.length - (x.k + 1) < _; omega, ?_⟩
        refine weak_by [] ?_; (conv => whnf); repeat (first | (refine And.intro rfl ?_; conv => whnf) | fail)
        have hw : IntKind.i64.wrap ((x.k : Int) + 1) = ((x.k + 1 : Nat) : Int) := by rw [IntWalk.i64_in _ (by omega)]; omega
        refine And.intro hw ?_
        conv => whnf
        exact ⟨fun _ _ h => h, rfl, Nat.le_refl _, rfl, rfl⟩
    · have GB' := GG_b b d x.ct x.cd
      have GD' := GG_d hbd x.ct x.cd
      have hxl := x.hl
      have hwk : IntKind.i64.wrap ((x.k : Int) + 1) = ((x.k + 1 : Nat) : Int) := by rw [IntWalk.i64_in _ (by omega)]; omega
      repeat' (first | (refine Sem.reg tt_ok ?_; conv => whnf) | refine Sem.seqS ?_ | (refine Sem.condS ?_; conv => whnf) | refine Sem.block ?_ | (refine Sem.regL tt_ok ?_; conv => whnf) | (refine Sem.skip tt_ok ?_; conv => whnf) | (refine Sem.exit tt_ok ?_; conv => whnf) | (refine Sem.ret tt_ok ?_; conv => whnf) | (refine BS_t (by assumption) ?_; conv => whnf) | (refine BS_f (by assumption) ?_; conv => whnf) | (refine atG (by first | assumption | exact setG_same _ _ _) ?_; conv => whnf) | (refine (nthK_iff _ _).2 ⟨_, (by assumption), ?_⟩; conv => whnf) | (refine Exists.intro _ (And.intro (And.intro (by omega) (by assumption)) ?_); conv => whnf) | (refine And.intro (by first | decide | omega) ?_; conv => whnf) | fail)
      by_cases h1 : kind = 1
      · have b1 : (kind == 1) = true := by simp [h1]
        repeat' (first | (refine Sem.reg tt_ok ?_; conv => whnf) | refine Sem.seqS ?_ | (refine Sem.condS ?_; conv => whnf) | refine Sem.block ?_ | (refine Sem.regL tt_ok ?_; conv => whnf) | (refine Sem.skip tt_ok ?_; conv => whnf) | (refine Sem.exit tt_ok ?_; conv => whnf) | (refine Sem.ret tt_ok ?_; conv => whnf) | (refine BS_t (by assumption) ?_; conv => whnf) | (refine BS_f (by assumption) ?_; conv => whnf) | (refine atG (by first | assumption | exact setG_same _ _ _) ?_; conv => whnf) | (refine (nthK_iff _ _).2 ⟨_, (by assumption), ?_⟩; conv => whnf) | (refine Exists.intro _ (And.intro (And.intro (by omega) (by assumption)) ?_); conv => whnf) | (refine And.intro (by first | decide | omega) ?_; conv => whnf) | fail)
        cases has with
        | true =>
          conv => whnf
          repeat' (first | (refine Sem.reg tt_ok ?_; conv => whnf) | refine Sem.seqS ?_ | (refine Sem.condS ?_; conv => whnf) | refine Sem.block ?_ | (refine Sem.regL tt_ok ?_; conv => whnf) | (refine Sem.skip tt_ok ?_; conv => whnf) | (refine Sem.exit tt_ok ?_; conv => whnf) | (refine Sem.ret tt_ok ?_; conv => whnf) | (refine BS_t (by assumption) ?_; conv => whnf) | (refine BS_f (by assumption) ?_; conv => whnf) | (refine atG (by first | assumption | exact setG_same _ _ _) ?_; conv => whnf) | (refine (nthK_iff _ _).2 ⟨_, (by assumption), ?_⟩; conv => whnf) | (refine Exists.intro _ (And.intro (And.intro (by omega) (by assumption)) ?_); conv => whnf) | (refine And.intro (by first | decide | omega) ?_; conv => whnf) | fail)
          refine (diceput_ok n d [] x.cd _ GD' x.hd (by decide)).mono fun v G' hv => ?_
          obtain ⟨rfl, cd1, rfl, hd1⟩ := hv
          rw [GG_set2 hbd]
          conv => whnf
          repeat' (first | (refine Sem.reg tt_ok ?_; conv => whnf) | refine Sem.seqS ?_ | (refine Sem.condS ?_; conv => whnf) | refine Sem.block ?_ | (refine Sem.regL tt_ok ?_; conv => whnf) | (refine Sem.skip tt_ok ?_; conv => whnf) | (refine Sem.exit tt_ok ?_; conv => whnf) | (refine Sem.ret tt_ok ?_; conv => whnf) | (refine BS_t (by assumption) ?_; conv => whnf) | (refine BS_f (by assumption) ?_; conv => whnf) | (refine atG (by first | assumption | exact setG_same _ _ _) ?_; conv => whnf) | (refine (nthK_iff _ _).2 ⟨_, (by assumption), ?_⟩; conv => whnf) | (refine Exists.intro _ (And.intro (And.intro (by omega) (by assumption)) ?_); conv => whnf) | (refine And.intro (by first | decide | omega) ?_; conv => whnf) | fail)
          cases m with
          | true =>
            have ho := of_decide_eq_true hm.symm
            obtain ⟨n, rfl⟩ := Int.eq_ofNat_of_zero_le hsok.2.2.1.1
            have hep := x.ht.ep owner.toNat (by omega)
            have hep2 := epochL_le x.l (owner.toNat : Nat)
            have hI := issue_okq owner n b d x.t [] x.ct cd1 _ (GG_b _ _ _ _) x.hc (GG_d hbd _ _) hd1 hbd ho (by omega) (by omega)
            have hil : (issueL x.l owner.toNat n).length = x.l.length + 1 := by simp [issueL, revokeL]
            have hat : ((issueL x.l owner.toNat n).map MRow.av)[((x.l.length : Nat) : Int).toNat]? = some [.int .i64 owner, .int .i64 ((x.t.es owner.toNat + 1 : Nat) : Int), .int .u64 (tagN n (x.t.es owner.toNat + 1) owner.toNat : Nat), .bool true] := by
              rw [Int.toNat_natCast, List.getElem?_map]
              have : (issueL x.l owner.toNat n)[x.l.length]? = some ⟨owner.toNat, (epochL x.l owner.toNat + 1 : Nat), tagN n (epochL x.l owner.toNat + 1) owner.toNat, true⟩ := by
                unfold issueL
                rw [List.getElem?_append_right (by simp [revokeL])]
                simp [revokeL]
              rw [this, hep]
              simp only [Option.map_some, MRow.av]
              rw [show ((owner.toNat : Nat) : Int) = owner by omega]
            generalize tagN n (x.t.es owner.toNat + 1) owner.toNat = tg at hI hat
            refine hI.mono fun v G' hv => ?_
            obtain ⟨rfl, ct2, cd2, rfl, hc2, hd2⟩ := hv
            rw [GG_set2 hbd, GG_set1]
            conv => whnf
            repeat' (first | (refine Sem.reg tt_ok ?_; conv => whnf) | refine Sem.seqS ?_ | (refine Sem.condS ?_; conv => whnf) | refine Sem.block ?_ | (refine Sem.regL tt_ok ?_; conv => whnf) | (refine Sem.skip tt_ok ?_; conv => whnf) | (refine Sem.exit tt_ok ?_; conv => whnf) | (refine Sem.ret tt_ok ?_; conv => whnf) | (refine BS_t (by assumption) ?_; conv => whnf) | (refine BS_f (by assumption) ?_; conv => whnf) | (refine atG (by first | assumption | exact setG_same _ _ _) ?_; conv => whnf) | (refine (nthK_iff _ _).2 ⟨_, (by assumption), ?_⟩; conv => whnf) | (refine Exists.intro _ (And.intro (And.intro (by omega) (by assumption)) ?_); conv => whnf) | (refine And.intro (by first | decide | omega) ?_; conv => whnf) | fail)
            repeat' (first | (refine Sem.reg tt_ok ?_; conv => whnf) | refine Sem.seqS ?_ | (refine Sem.condS ?_; conv => whnf) | refine Sem.block ?_ | (refine Sem.regL tt_ok ?_; conv => whnf) | (refine Sem.skip tt_ok ?_; conv => whnf) | (refine Sem.exit tt_ok ?_; conv => whnf) | (refine Sem.ret tt_ok ?_; conv => whnf) | (refine BS_t (by assumption) ?_; conv => whnf) | (refine BS_f (by assumption) ?_; conv => whnf) | (refine atG (by first | assumption | exact setG_same _ _ _) ?_; conv => whnf) | (refine (nthK_iff _ _).2 ⟨_, (by assumption), ?_⟩; conv => whnf) | (refine Exists.intro _ (And.intro (And.intro (by omega) (by assumption)) ?_); conv => whnf) | (refine And.intro (by first | decide | omega) ?_; conv => whnf) | fail)
            refine (qrefissue_ok x.l owner n _ (by omega) ho.1 ho.2 (by omega)).on ?_; conv => whnf
            repeat' (first | (refine Sem.reg tt_ok ?_; conv => whnf) | refine Sem.seqS ?_ | (refine Sem.condS ?_; conv => whnf) | refine Sem.block ?_ | (refine Sem.regL tt_ok ?_; conv => whnf) | (refine Sem.skip tt_ok ?_; conv => whnf) | (refine Sem.exit tt_ok ?_; conv => whnf) | (refine Sem.ret tt_ok ?_; conv => whnf) | (refine BS_t (by assumption) ?_; conv => whnf) | (refine BS_f (by assumption) ?_; conv => whnf) | (refine atG (by first | assumption | exact setG_same _ _ _) ?_; conv => whnf) | (refine (nthK_iff _ _).2 ⟨_, (by assumption), ?_⟩; conv => whnf) | (refine Exists.intro _ (And.intro (And.intro (by omega) (by assumption)) ?_); conv => whnf) | (refine And.intro (by first | decide | omega) ?_; conv => whnf) | fail)
            have hw : IntKind.i64.wrap ((((issueL x.l owner.toNat n).map MRow.av).length : Nat) - 1) = ((x.l.length : Nat) : Int) := by rw [List.length_map, hil, IntWalk.i64_in _ (by omega)]; omega
            rw [hw]
            repeat' (first | (refine Sem.reg tt_ok ?_; conv => whnf) | refine Sem.seqS ?_ | (refine Sem.condS ?_; conv => whnf) | refine Sem.block ?_ | (refine Sem.regL tt_ok ?_; conv => whnf) | (refine Sem.skip tt_ok ?_; conv => whnf) | (refine Sem.exit tt_ok ?_; conv => whnf) | (refine Sem.ret tt_ok ?_; conv => whnf) | (refine BS_t (by assumption) ?_; conv => whnf) | (refine BS_f (by assumption) ?_; conv => whnf) | (refine atG (by first | assumption | exact setG_same _ _ _) ?_; conv => whnf) | (refine (nthK_iff _ _).2 ⟨_, (by assumption), ?_⟩; conv => whnf) | (refine Exists.intro _ (And.intro (And.intro (by omega) (by assumption)) ?_); conv => whnf) | (refine And.intro (by first | decide | omega) ?_; conv => whnf) | fail)
            have e0 : ∀ a : Int, (a != a) = false := fun a => by simp
            repeat (first | (refine BS_f (e0 _) ?_; conv => whnf) | fail)
            refine Sem.cond_f rfl (e0 _) ?_
            refine Sem.skip tt_ok ?_
            conv => whnf
            refine ⟨⟨issueL x.l owner.toNat n, x.t.issue owner.toNat n, ct2, cd2, by omega, x.ht.issue n (by omega), hc2, hd2⟩, ?_⟩
            refine weak_by [] ?_; (conv => whnf); repeat (first | (refine And.intro rfl ?_; conv => whnf) | fail)
            exact ⟨fun _ _ h => h, rfl, by decide, rfl, rfl⟩
          | false =>
            have ho : ¬ (0 ≤ owner ∧ owner ≤ 8) := of_decide_eq_false hm.symm
            refine (issue_formq owner b d _ ho).on ?_; conv => whnf
            repeat' (first | (refine Sem.reg tt_ok ?_; conv => whnf) | refine Sem.seqS ?_ | (refine Sem.condS ?_; conv => whnf) | refine Sem.block ?_ | (refine Sem.regL tt_ok ?_; conv => whnf) | (refine Sem.skip tt_ok ?_; conv => whnf) | (refine Sem.exit tt_ok ?_; conv => whnf) | (refine Sem.ret tt_ok ?_; conv => whnf) | (refine BS_t (by assumption) ?_; conv => whnf) | (refine BS_f (by assumption) ?_; conv => whnf) | (refine atG (by first | assumption | exact setG_same _ _ _) ?_; conv => whnf) | (refine (nthK_iff _ _).2 ⟨_, (by assumption), ?_⟩; conv => whnf) | (refine Exists.intro _ (And.intro (And.intro (by omega) (by assumption)) ?_); conv => whnf) | (refine And.intro (by first | decide | omega) ?_; conv => whnf) | fail)
            refine (dicetake_ok n d [] cd1 _ (GG_d hbd _ _) hd1).mono fun v G' hv => ?_
            obtain ⟨rfl, cd2, rfl, hd2⟩ := hv
            rw [GG_set2 hbd]
            conv => whnf
            repeat' (first | (refine Sem.reg tt_ok ?_; conv => whnf) | refine Sem.seqS ?_ | (refine Sem.condS ?_; conv => whnf) | refine Sem.block ?_ | (refine Sem.regL tt_ok ?_; conv => whnf) | (refine Sem.skip tt_ok ?_; conv => whnf) | (refine Sem.exit tt_ok ?_; conv => whnf) | (refine Sem.ret tt_ok ?_; conv => whnf) | (refine BS_t (by assumption) ?_; conv => whnf) | (refine BS_f (by assumption) ?_; conv => whnf) | (refine atG (by first | assumption | exact setG_same _ _ _) ?_; conv => whnf) | (refine (nthK_iff _ _).2 ⟨_, (by assumption), ?_⟩; conv => whnf) | (refine Exists.intro _ (And.intro (And.intro (by omega) (by assumption)) ?_); conv => whnf) | (refine And.intro (by first | decide | omega) ?_; conv => whnf) | fail)
            refine ⟨⟨x.k + 1, x.l, x.t, x.ct, cd2, by omega, by omega, x.ht, x.hc, hd2⟩, by show sl.length - (x.k + 1) < _; omega, ?_⟩
            refine weak_by [] ?_; (conv => whnf); repeat (first | (refine And.intro rfl ?_; conv => whnf) | fail)
            refine And.intro hwk ?_
            conv => whnf
            exact ⟨fun _ _ h => h, rfl, by decide, rfl, rfl⟩
        | false =>
          conv => whnf
          repeat' (first | (refine Sem.reg tt_ok ?_; conv => whnf) | refine Sem.seqS ?_ | (refine Sem.condS ?_; conv => whnf) | refine Sem.block ?_ | (refine Sem.regL tt_ok ?_; conv => whnf) | (refine Sem.skip tt_ok ?_; conv => whnf) | (refine Sem.exit tt_ok ?_; conv => whnf) | (refine Sem.ret tt_ok ?_; conv => whnf) | (refine BS_t (by assumption) ?_; conv => whnf) | (refine BS_f (by assumption) ?_; conv => whnf) | (refine atG (by first | assumption | exact setG_same _ _ _) ?_; conv => whnf) | (refine (nthK_iff _ _).2 ⟨_, (by assumption), ?_⟩; conv => whnf) | (refine Exists.intro _ (And.intro (And.intro (by omega) (by assumption)) ?_); conv => whnf) | (refine And.intro (by first | decide | omega) ?_; conv => whnf) | fail)
          cases m with
          | true =>
            have ho := of_decide_eq_true hm.symm
            refine (issue_noneq owner b d x.cd _ ho GD' x.hd).on ?_; conv => whnf
            repeat' (first | (refine Sem.reg tt_ok ?_; conv => whnf) | refine Sem.seqS ?_ | (refine Sem.condS ?_; conv => whnf) | refine Sem.block ?_ | (refine Sem.regL tt_ok ?_; conv => whnf) | (refine Sem.skip tt_ok ?_; conv => whnf) | (refine Sem.exit tt_ok ?_; conv => whnf) | (refine Sem.ret tt_ok ?_; conv => whnf) | (refine BS_t (by assumption) ?_; conv => whnf) | (refine BS_f (by assumption) ?_; conv => whnf) | (refine atG (by first | assumption | exact setG_same _ _ _) ?_; conv => whnf) | (refine (nthK_iff _ _).2 ⟨_, (by assumption), ?_⟩; conv => whnf) | (refine Exists.intro _ (And.intro (And.intro (by omega) (by assumption)) ?_); conv => whnf) | (refine And.intro (by first | decide | omega) ?_; conv => whnf) | fail)
            repeat' (first | (refine Sem.reg tt_ok ?_; conv => whnf) | refine Sem.seqS ?_ | (refine Sem.condS ?_; conv => whnf) | refine Sem.block ?_ | (refine Sem.regL tt_ok ?_; conv => whnf) | (refine Sem.skip tt_ok ?_; conv => whnf) | (refine Sem.exit tt_ok ?_; conv => whnf) | (refine Sem.ret tt_ok ?_; conv => whnf) | (refine BS_t (by assumption) ?_; conv => whnf) | (refine BS_f (by assumption) ?_; conv => whnf) | (refine atG (by first | assumption | exact setG_same _ _ _) ?_; conv => whnf) | (refine (nthK_iff _ _).2 ⟨_, (by assumption), ?_⟩; conv => whnf) | (refine Exists.intro _ (And.intro (And.intro (by omega) (by assumption)) ?_); conv => whnf) | (refine And.intro (by first | decide | omega) ?_; conv => whnf) | fail)
            refine ⟨⟨x.k + 1, x.l, x.t, x.ct, x.cd, by omega, by omega, x.ht, x.hc, x.hd⟩, by show sl.length - (x.k + 1) < _; omega, ?_⟩
            refine weak_by [] ?_; (conv => whnf); repeat (first | (refine And.intro rfl ?_; conv => whnf) | fail)
            refine And.intro hwk ?_
            conv => whnf
            exact ⟨fun _ _ h => h, rfl, by decide, rfl, rfl⟩
          | false =>
            have ho : ¬ (0 ≤ owner ∧ owner ≤ 8) := of_decide_eq_false hm.symm
            refine (issue_formq owner b d _ ho).on ?_; conv => whnf
            repeat' (first | (refine Sem.reg tt_ok ?_; conv => whnf) | refine Sem.seqS ?_ | (refine Sem.condS ?_; conv => whnf) | refine Sem.block ?_ | (refine Sem.regL tt_ok ?_; conv => whnf) | (refine Sem.skip tt_ok ?_; conv => whnf) | (refine Sem.exit tt_ok ?_; conv => whnf) | (refine Sem.ret tt_ok ?_; conv => whnf) | (refine BS_t (by assumption) ?_; conv => whnf) | (refine BS_f (by assumption) ?_; conv => whnf) | (refine atG (by first | assumption | exact setG_same _ _ _) ?_; conv => whnf) | (refine (nthK_iff _ _).2 ⟨_, (by assumption), ?_⟩; conv => whnf) | (refine Exists.intro _ (And.intro (And.intro (by omega) (by assumption)) ?_); conv => whnf) | (refine And.intro (by first | decide | omega) ?_; conv => whnf) | fail)
            refine (dicenone_ok d x.cd _ GD' x.hd).on ?_; conv => whnf
            repeat' (first | (refine Sem.reg tt_ok ?_; conv => whnf) | refine Sem.seqS ?_ | (refine Sem.condS ?_; conv => whnf) | refine Sem.block ?_ | (refine Sem.regL tt_ok ?_; conv => whnf) | (refine Sem.skip tt_ok ?_; conv => whnf) | (refine Sem.exit tt_ok ?_; conv => whnf) | (refine Sem.ret tt_ok ?_; conv => whnf) | (refine BS_t (by assumption) ?_; conv => whnf) | (refine BS_f (by assumption) ?_; conv => whnf) | (refine atG (by first | assumption | exact setG_same _ _ _) ?_; conv => whnf) | (refine (nthK_iff _ _).2 ⟨_, (by assumption), ?_⟩; conv => whnf) | (refine Exists.intro _ (And.intro (And.intro (by omega) (by assumption)) ?_); conv => whnf) | (refine And.intro (by first | decide | omega) ?_; conv => whnf) | fail)
            refine ⟨⟨x.k + 1, x.l, x.t, x.ct, x.cd, by omega, by omega, x.ht, x.hc, x.hd⟩, by show sl.length - (x.k + 1) < _; omega, ?_⟩
            refine weak_by [] ?_; (conv => whnf); repeat (first | (refine And.intro rfl ?_; conv => whnf) | fail)
            refine And.intro hwk ?_
            conv => whnf
            exact ⟨fun _ _ h => h, rfl, by decide, rfl, rfl⟩
      · have b1 : (kind == 1) = false := by simp [h1]
        repeat' (first | (refine Sem.reg tt_ok ?_; conv => whnf) | refine Sem.seqS ?_ | (refine Sem.condS ?_; conv => whnf) | refine Sem.block ?_ | (refine Sem.regL tt_ok ?_; conv => whnf) | (refine Sem.skip tt_ok ?_; conv => whnf) | (refine Sem.exit tt_ok ?_; conv => whnf) | (refine Sem.ret tt_ok ?_; conv => whnf) | (refine BS_t (by assumption) ?_; conv => whnf) | (refine BS_f (by assumption) ?_; conv => whnf) | (refine atG (by first | assumption | exact setG_same _ _ _) ?_; conv => whnf) | (refine (nthK_iff _ _).2 ⟨_, (by assumption), ?_⟩; conv => whnf) | (refine Exists.intro _ (And.intro (And.intro (by omega) (by assumption)) ?_); conv => whnf) | (refine And.intro (by first | decide | omega) ?_; conv => whnf) | fail)
        by_cases h2 : kind = 2
        · have b2 : (kind == 2) = true := by simp [h2]
          repeat' (first | (refine Sem.reg tt_ok ?_; conv => whnf) | refine Sem.seqS ?_ | (refine Sem.condS ?_; conv => whnf) | refine Sem.block ?_ | (refine Sem.regL tt_ok ?_; conv => whnf) | (refine Sem.skip tt_ok ?_; conv => whnf) | (refine Sem.exit tt_ok ?_; conv => whnf) | (refine Sem.ret tt_ok ?_; conv => whnf) | (refine BS_t (by assumption) ?_; conv => whnf) | (refine BS_f (by assumption) ?_; conv => whnf) | (refine atG (by first | assumption | exact setG_same _ _ _) ?_; conv => whnf) | (refine (nthK_iff _ _).2 ⟨_, (by assumption), ?_⟩; conv => whnf) | (refine Exists.intro _ (And.intro (And.intro (by omega) (by assumption)) ?_); conv => whnf) | (refine And.intro (by first | decide | omega) ?_; conv => whnf) | fail)
          cases m with
          | true =>
            have ho := of_decide_eq_true hm.symm
            have hR := mrevoke_ok owner b x.t x.ct _ GB' x.hc ho
            have hV := qrefrevoke_ok x.l owner
            have hrl : (revokeL x.l owner).length = x.l.length := by simp [revokeL]
            have hwas := x.ht.was (o := owner.toNat) (by omega)
            have hrv := x.ht.revoke owner.toNat
            rw [show ((owner.toNat : Nat) : Int) = owner by omega] at hwas hrv
            by_cases hz : x.t.bs owner.toNat = (0, 0)
            · have hr : revE x.t owner.toNat = 12 := by simp [revE, hz]
              have hw : wasL x.l owner = false := by rw [hwas]; simp [hz]
              rw [hr] at hR
              simp only [hw] at hV
              refine hR.mono fun v G' hv => ?_
              obtain ⟨rfl, ct2, rfl, hc2⟩ := hv
              rw [GG_set1]
              conv => whnf
              repeat' (first | (refine Sem.reg tt_ok ?_; conv => whnf) | refine Sem.seqS ?_ | (refine Sem.condS ?_; conv => whnf) | refine Sem.block ?_ | (refine Sem.regL tt_ok ?_; conv => whnf) | (refine Sem.skip tt_ok ?_; conv => whnf) | (refine Sem.exit tt_ok ?_; conv => whnf) | (refine Sem.ret tt_ok ?_; conv => whnf) | (refine BS_t (by assumption) ?_; conv => whnf) | (refine BS_f (by assumption) ?_; conv => whnf) | (refine atG (by first | assumption | exact setG_same _ _ _) ?_; conv => whnf) | (refine (nthK_iff _ _).2 ⟨_, (by assumption), ?_⟩; conv => whnf) | (refine Exists.intro _ (And.intro (And.intro (by omega) (by assumption)) ?_); conv => whnf) | (refine And.intro (by first | decide | omega) ?_; conv => whnf) | fail)
              refine (hV _ (by omega)).on ?_; conv => whnf
              repeat' (first | (refine Sem.reg tt_ok ?_; conv => whnf) | refine Sem.seqS ?_ | (refine Sem.condS ?_; conv => whnf) | refine Sem.block ?_ | (refine Sem.regL tt_ok ?_; conv => whnf) | (refine Sem.skip tt_ok ?_; conv => whnf) | (refine Sem.exit tt_ok ?_; conv => whnf) | (refine Sem.ret tt_ok ?_; conv => whnf) | (refine BS_t (by assumption) ?_; conv => whnf) | (refine BS_f (by assumption) ?_; conv => whnf) | (refine atG (by first | assumption | exact setG_same _ _ _) ?_; conv => whnf) | (refine (nthK_iff _ _).2 ⟨_, (by assumption), ?_⟩; conv => whnf) | (refine Exists.intro _ (And.intro (And.intro (by omega) (by assumption)) ?_); conv => whnf) | (refine And.intro (by first | decide | omega) ?_; conv => whnf) | fail)
              refine ⟨⟨revokeL x.l owner, x.t.clear owner.toNat, ct2, x.cd, by omega, hrv, hc2, x.hd⟩, ?_⟩
              refine weak_by [] ?_; (conv => whnf); repeat (first | (refine And.intro rfl ?_; conv => whnf) | fail)
              exact ⟨fun _ _ h => h, rfl, by decide, rfl, rfl⟩
            · have hr : revE x.t owner.toNat = 0 := by simp [revE, hz]
              have hw : wasL x.l owner = true := by rw [hwas]; simp [hz]
              rw [hr] at hR
              simp only [hw] at hV
              refine hR.mono fun v G' hv => ?_
              obtain ⟨rfl, ct2, rfl, hc2⟩ := hv
              rw [GG_set1]
              conv => whnf
              repeat' (first | (refine Sem.reg tt_ok ?_; conv => whnf) | refine Sem.seqS ?_ | (refine Sem.condS ?_; conv => whnf) | refine Sem.block ?_ | (refine Sem.regL tt_ok ?_; conv => whnf) | (refine Sem.skip tt_ok ?_; conv => whnf) | (refine Sem.exit tt_ok ?_; conv => whnf) | (refine Sem.ret tt_ok ?_; conv => whnf) | (refine BS_t (by assumption) ?_; conv => whnf) | (refine BS_f (by assumption) ?_; conv => whnf) | (refine atG (by first | assumption | exact setG_same _ _ _) ?_; conv => whnf) | (refine (nthK_iff _ _).2 ⟨_, (by assumption), ?_⟩; conv => whnf) | (refine Exists.intro _ (And.intro (And.intro (by omega) (by assumption)) ?_); conv => whnf) | (refine And.intro (by first | decide | omega) ?_; conv => whnf) | fail)
              refine (hV _ (by omega)).on ?_; conv => whnf
              repeat' (first | (refine Sem.reg tt_ok ?_; conv => whnf) | refine Sem.seqS ?_ | (refine Sem.condS ?_; conv => whnf) | refine Sem.block ?_ | (refine Sem.regL tt_ok ?_; conv => whnf) | (refine Sem.skip tt_ok ?_; conv => whnf) | (refine Sem.exit tt_ok ?_; conv => whnf) | (refine Sem.ret tt_ok ?_; conv => whnf) | (refine BS_t (by assumption) ?_; conv => whnf) | (refine BS_f (by assumption) ?_; conv => whnf) | (refine atG (by first | assumption | exact setG_same _ _ _) ?_; conv => whnf) | (refine (nthK_iff _ _).2 ⟨_, (by assumption), ?_⟩; conv => whnf) | (refine Exists.intro _ (And.intro (And.intro (by omega) (by assumption)) ?_); conv => whnf) | (refine And.intro (by first | decide | omega) ?_; conv => whnf) | fail)
              refine ⟨⟨revokeL x.l owner, x.t.clear owner.toNat, ct2, x.cd, by omega, hrv, hc2, x.hd⟩, ?_⟩
              refine weak_by [] ?_; (conv => whnf); repeat (first | (refine And.intro rfl ?_; conv => whnf) | fail)
              exact ⟨fun _ _ h => h, rfl, by decide, rfl, rfl⟩
          | false =>
            have ho : ¬ (0 ≤ owner ∧ owner ≤ 8) := of_decide_eq_false hm.symm
            refine (mrevoke_form owner b _ ho).on ?_; conv => whnf
            repeat' (first | (refine Sem.reg tt_ok ?_; conv => whnf) | refine Sem.seqS ?_ | (refine Sem.condS ?_; conv => whnf) | refine Sem.block ?_ | (refine Sem.regL tt_ok ?_; conv => whnf) | (refine Sem.skip tt_ok ?_; conv => whnf) | (refine Sem.exit tt_ok ?_; conv => whnf) | (refine Sem.ret tt_ok ?_; conv => whnf) | (refine BS_t (by assumption) ?_; conv => whnf) | (refine BS_f (by assumption) ?_; conv => whnf) | (refine atG (by first | assumption | exact setG_same _ _ _) ?_; conv => whnf) | (refine (nthK_iff _ _).2 ⟨_, (by assumption), ?_⟩; conv => whnf) | (refine Exists.intro _ (And.intro (And.intro (by omega) (by assumption)) ?_); conv => whnf) | (refine And.intro (by first | decide | omega) ?_; conv => whnf) | fail)
            refine (qrefrevoke_ok x.l owner _ (by omega)).on ?_; conv => whnf
            repeat' (first | (refine Sem.reg tt_ok ?_; conv => whnf) | refine Sem.seqS ?_ | (refine Sem.condS ?_; conv => whnf) | refine Sem.block ?_ | (refine Sem.regL tt_ok ?_; conv => whnf) | (refine Sem.skip tt_ok ?_; conv => whnf) | (refine Sem.exit tt_ok ?_; conv => whnf) | (refine Sem.ret tt_ok ?_; conv => whnf) | (refine BS_t (by assumption) ?_; conv => whnf) | (refine BS_f (by assumption) ?_; conv => whnf) | (refine atG (by first | assumption | exact setG_same _ _ _) ?_; conv => whnf) | (refine (nthK_iff _ _).2 ⟨_, (by assumption), ?_⟩; conv => whnf) | (refine Exists.intro _ (And.intro (And.intro (by omega) (by assumption)) ?_); conv => whnf) | (refine And.intro (by first | decide | omega) ?_; conv => whnf) | fail)
            refine ⟨⟨revokeL x.l owner, x.t, x.ct, x.cd, by rw [(revoke_out x.ht ho).1]; omega, by rw [(revoke_out x.ht ho).1]; exact x.ht, x.hc, x.hd⟩, ?_⟩
            refine weak_by [] ?_; (conv => whnf); repeat (first | (refine And.intro rfl ?_; conv => whnf) | fail)
            exact ⟨fun _ _ h => h, rfl, by decide, rfl, rfl⟩
        · have b2 : (kind == 2) = false := by simp [h2]
          obtain ⟨n, rfl⟩ := Int.eq_ofNat_of_zero_le hsok.2.2.1.1
          have e0 : ∀ a : Int, (a != a) = false := fun a => by simp
          have e3 : ∀ a : Bool, (a != a) = false := fun a => by simp
          have hE := epoch_ok owner b x.t x.ct _ GB' x.hc
          have hF := qrefepoch_ok x.l owner (GG b d x.ct x.cd) (by omega)
          have hee : (if 0 ≤ owner ∧ owner ≤ 8 then ((x.t.es owner.toNat : Nat) : Int) else 0) = ((epochL x.l owner : Nat) : Int) := by
            by_cases ho : 0 ≤ owner ∧ owner ≤ 8
            · have := x.ht.ep owner.toNat (by omega)
              rw [show ((owner.toNat : Nat) : Int) = owner by omega] at this
              simp [ho, this]
            · simp [ho, epoch_out x.ht ho]
          rw [hee] at hE
          generalize epochL x.l owner = ep at hE hF
          have hK := knows_ok owner ep n b x.t x.ct _ GB' x.hc
          have hL := qrefknows_ok x.l owner ep n (GG b d x.ct x.cd)
          rw [x.ht.kn] at hL
          generalize knowsT x.t owner ep n = kk at hK hL
          repeat' (first | (refine Sem.reg tt_ok ?_; conv => whnf) | refine Sem.seqS ?_ | (refine Sem.condS ?_; conv => whnf) | refine Sem.block ?_ | (refine Sem.regL tt_ok ?_; conv => whnf) | (refine Sem.skip tt_ok ?_; conv => whnf) | (refine Sem.exit tt_ok ?_; conv => whnf) | (refine Sem.ret tt_ok ?_; conv => whnf) | (refine BS_t (by assumption) ?_; conv => whnf) | (refine BS_f (by assumption) ?_; conv => whnf) | (refine atG (by first | assumption | exact setG_same _ _ _) ?_; conv => whnf) | (refine (nthK_iff _ _).2 ⟨_, (by assumption), ?_⟩; conv => whnf) | (refine Exists.intro _ (And.intro (And.intro (by omega) (by assumption)) ?_); conv => whnf) | (refine And.intro (by first | decide | omega) ?_; conv => whnf) | fail)
          refine draw_sound (eff := []) tt_ok (by kernel_rfl) (by kernel_rfl) ?_; conv => whnf
          repeat (first | (refine BS_f (e0 _) ?_; conv => whnf) | (refine ⟨_, _, hE, ?_⟩; (conv => whnf); refine And.intro rfl ?_; conv => whnf) | (refine ⟨_, _, hF, ?_⟩; (conv => whnf); refine And.intro rfl ?_; conv => whnf) | (refine ⟨_, _, hK, ?_⟩; (conv => whnf); refine And.intro rfl ?_; conv => whnf) | (refine ⟨_, _, hL, ?_⟩; (conv => whnf); refine And.intro rfl ?_; conv => whnf) | fail)
          refine Sem.cond_f rfl (e3 _) ?_
          refine Sem.skip tt_ok ?_
          conv => whnf
          refine ⟨⟨x.l, x.t, x.ct, x.cd, by omega, x.ht, x.hc, x.hd⟩, ?_⟩
          refine weak_by [] ?_; (conv => whnf); repeat (first | (refine And.intro rfl ?_; conv => whnf) | fail)
          exact ⟨fun _ _ h => h, rfl, by decide, rfl, rfl⟩
  · refine Sem.run tt_ok ?_; conv => whnf
    refine (qawake21_ok _).on ?_; conv => whnf
    exact ⟨_, fun _ _ h => h, rfl⟩
theorem macSteps_walk (v : Value) (sl : List MStp) {w0 : World} (hr0 : Row w0 v sl 4 (fun x => [.int .i64 x.kind, .int .i64 x.owner, .int .u64 x.n, .bool x.has])) (hok0 : ∀ x ∈ sl, (-9223372036854775808 ≤ x.kind ∧ x.kind ≤ 9223372036854775807) ∧ (-9223372036854775808 ≤ x.owner ∧ x.owner ≤ 9223372036854775807) ∧ (0 ≤ x.n ∧ x.n ≤ 18446744073709551615) ∧ True ∧ True) (_ : World) :
    Calls Try.prog 3 #[v] w0 (Gives w0 (.bool true)) := by
  refine law_of (qmacSteps_ok sl hok0) (fun v G h => h) rfl fun i a u ha hu => ?_
  match i with
  | 0 =>
    simp at ha hu
    subst ha hu
    refine row_dz hr0 MStp.av rfl fun x _ => ⟨rfl, rfl, fun j c u hc hu => ?_⟩
    match j with
    | 0 => simp [MStp.av] at hc hu; subst hc hu; exact ⟨rfl, .int _ _⟩
    | 1 => simp [MStp.av] at hc hu; subst hc hu; exact ⟨rfl, .int _ _⟩
    | 2 => simp [MStp.av] at hc hu; subst hc hu; exact ⟨rfl, .int _ _⟩
    | 3 => simp [MStp.av] at hc hu; subst hc hu; exact ⟨rfl, .bool _⟩
    | j + 4 => simp [MStp.av] at hc
  | i + 1 => simp at ha

set_option linter.unusedVariables false in
set_option maxRecDepth 100000 in
theorem macSteps_contract (H : Type) (enc : TypeId × Value → H) (W : World) (base : Nat) (args : Array Value) (ds gs : List (DataW H)) (before : List MemPlace)
    (hval : ∀ (j : Nat) t v, Try.f3.params[j]? = some t → args[j]? = some v → Value.okWide Try.prog W .any base t v)
    (hW : DataW.Whole enc Try.prog Try.f3.params.toList Rows.macStepsSpec.vars false W args.toList ds gs before)
    (hsz : (DataW.weightsEach Try.prog (Try.f3.params.toList ++ (Rows.macStepsSpec).plain.varTypes Try.prog) (ds ++ gs)).all (· ≤ reachBytes) = true) :
    Calls Try.prog 3 args W fun e W' => ∃ v, e = .returned v ∧ Rows.macStepsSpec.post enc Try.prog Try.f3 false true false false W args v W' := by
  have hW' := hW
  obtain ⟨p, q, hA0, hV, rfl, hfz, hnd⟩ := hW
  have hA : DataW.TrodAll enc Try.prog W 0 (fun _ => true) true Try.f3.params.toList args.toList ds p := hA0
  rw [Try.params3] at hA hval hsz
  obtain ⟨v0, vs0, d0, ds0, p0, q0, hargs, rfl, rfl, h0, r0⟩ := trodAll_cons hA
  obtain ⟨rfl, rfl, rfl⟩ := trodAll_nil r0
  obtain rfl : args = #[v0] := by cases args; simp_all
  obtain ⟨rfl, rfl⟩ := trodVars_none hV
  clear hA0
  have elem0 : ∀ (n : Nat) (cs : List Value) (y : DataW H × List MemPlace), cs.length = 4 → DataW.trod enc Try.prog W 0 (fun _ => true) true n 31 cs = some y → ∃ x : MStp, cs = (fun x : MStp => [.int .i64 x.kind, .int .i64 x.owner, .int .u64 x.n, .bool x.has]) x ∧ (fun (x : MStp) y => y = .agg [.lit (.int .i64 x.kind), .lit (.int .i64 x.owner), .lit (.int .u64 x.n), .lit (.bool x.has)] ∧ (Lit.int .i64 x.kind).wf = true ∧ (Lit.int .i64 x.owner).wf = true ∧ (Lit.int .u64 x.n).wf = true ∧ True ∧ True) x y.1 := by
    intro n cs y hl h
    obtain ⟨ys, m, _, h2, h3, h4⟩ := struct_cells Try.underlying31 (by kernel_rfl) (by kernel_rfl) h
    obtain ⟨c0, c1, c2, c3, rfl⟩ := list4 hl
    obtain ⟨y0, y1, y2, y3, rfl⟩ := list4 h2
    obtain ⟨a0, rfl, rfl, w0⟩ := int_field Try.underlying3 (h4 0 _ _ rfl rfl)
    obtain ⟨a1, rfl, rfl, w1⟩ := int_field Try.underlying3 (h4 1 _ _ rfl rfl)
    obtain ⟨a2, rfl, rfl, w2⟩ := int_field Try.underlying29 (h4 2 _ _ rfl rfl)
    obtain ⟨a3, rfl, rfl⟩ := bool_field Try.underlying4 (h4 3 _ _ rfl rfl)
    subst h3
    exact ⟨⟨a0, a1, a2, a3⟩, rfl, rfl, w0, w1, w2, trivial, trivial⟩
  obtain ⟨l0, hr0, hd0⟩ := row_arg (cells := fun x : MStp => [.int .i64 x.kind, .int .i64 x.owner, .int .u64 x.n, .bool x.has]) (R := fun (x : MStp) y => y = .agg [.lit (.int .i64 x.kind), .lit (.int .i64 x.owner), .lit (.int .u64 x.n), .lit (.bool x.has)] ∧ (Lit.int .i64 x.kind).wf = true ∧ (Lit.int .i64 x.owner).wf = true ∧ (Lit.int .u64 x.n).wf = true ∧ True ∧ True) Try.underlying22 (by kernel_rfl) (by decide) elem0 (hval 0 22 v0 rfl rfl) h0
  have hb0 := row_all hd0 (fun x y (h : (fun (x : MStp) y => y = .agg [.lit (.int .i64 x.kind), .lit (.int .i64 x.owner), .lit (.int .u64 x.n), .lit (.bool x.has)] ∧ (Lit.int .i64 x.kind).wf = true ∧ (Lit.int .i64 x.owner).wf = true ∧ (Lit.int .u64 x.n).wf = true ∧ True ∧ True) x y) => And.intro (bounds_i64 h.2.1) <| And.intro (bounds_i64 h.2.2.1) <| And.intro (bounds_u64 h.2.2.2.1) <| And.intro (h.2.2.2.2.1) <| trivial)
  refine (macSteps_walk v0 l0 hr0 hb0 W).mono fun e W' ⟨he, hu⟩ => ?_
  subst he
  exact ⟨_, rfl, post_true laidOut (by kernel_rfl) Try.underlying4 rfl rfl hW' rfl hu⟩

theorem macSteps_closed : joinedFacts Try.prog 3 Try.f3 Rows.macStepsSpec Rows.macStepsRow = true := by
  unfold joinedFacts
  rw [fact_mayEnter, fact_lifted, fact_make]
  kernel_rfl

set_option maxRecDepth 100000 in
theorem macSteps_lifted (os : Os) (started : os.Started) (H : Type) (enc : TypeId × Value → H) :
    ReturnsInHanded {} Try.checked os 3 .any (Rows.macStepsSpec.pre6 enc Try.prog Try.f3 Rows.macStepsRow.domain false) (Rows.macStepsSpec.post enc Try.prog Try.f3 false true false false) := by
  refine returnsInHanded_of_change_sized (C := Try.checked) own started (by kernel_rfl) Try.func3
    (ChangeSpec.witness6 (enc := enc) (C := Try.checked) false ⟨#[], #[.slice none 0 0], []⟩ 8 (by kernel_rfl) (by kernel_rfl) (by kernel_rfl) (by kernel_rfl)) ?_
  intro W base args ds gs before hval hW _ hsz _
  exact macSteps_contract H enc W base args ds gs before hval hW hsz

theorem macSteps_holds : Rows.MacStepsSaid :=
  OpenClaim.holds_of_wide 3 Try.f3 rfl rfl rfl rfl rfl rfl rfl ⟨rfl, rfl, rfl, rfl, rfl⟩ rfl rfl rfl rfl rfl (by kernel_rfl) Try.func3 macSteps_closed
    (of_decide_eq_true (by kernel_rfl)) (by unfold Func.isWrapper; rw [if_neg (by decide +kernel)]; exact ⟨rfl, rfl⟩)
    (fun os started H enc _ => macSteps_lifted os started H enc)
end Go.Proofs.Ytmmmaekaoanceaa
