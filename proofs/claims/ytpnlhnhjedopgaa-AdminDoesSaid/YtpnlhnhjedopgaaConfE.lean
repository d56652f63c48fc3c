/- conf.Check, List, Of in the abstract run. -/
import Derived.Test.YtpnlhnhjedopgaaGf
import Derived.Test.YtpnlhnhjedopgaaShr
set_option maxRecDepth 100000
set_option linter.unusedSimpArgs false
namespace Go.Proofs.Ytpnlhnhjedopgaa
open Go Go.RowKit Go.Proofs

def Cnf.av (c : Cnf) : AV := .agg [.int .i64 c.n0, .int .i64 c.n1, .int .i64 c.n2, .int .i64 c.n3, .int .i64 c.n4, .int .i64 c.n5, .int .i64 c.n6, .int .i64 c.n7, .int .i64 c.n8]
theorem cnf_in {g : Gh} {w : World} {c : Cnf} {u : Value} (h : Dz TT g w c.av u) : u = .agg c.arr := by
  cases h with
  | agg cs us hl h1 h =>
    obtain ⟨us⟩ := us
    match us, hl with
    | [u0, u1, u2, u3, u4, u5, u6, u7, u8], _ =>
      have a0 := h 0 _ _ rfl rfl
      have a1 := h 1 _ _ rfl rfl
      have a2 := h 2 _ _ rfl rfl
      have a3 := h 3 _ _ rfl rfl
      have a4 := h 4 _ _ rfl rfl
      have a5 := h 5 _ _ rfl rfl
      have a6 := h 6 _ _ rfl rfl
      have a7 := h 7 _ _ rfl rfl
      have a8 := h 8 _ _ rfl rfl
      cases a0; cases a1; cases a2; cases a3; cases a4; cases a5; cases a6; cases a7; cases a8
      rfl
theorem cnf_dz {g : Gh} {w : World} (c : Cnf) : Dz TT g w c.av (.agg c.arr) := by
  refine .agg _ _ rfl (fun u hu => ?_) fun i x u hx hu => ?_
  · simp [Cnf.arr] at hu
    rcases hu with rfl | rfl | rfl | rfl | rfl | rfl | rfl | rfl | rfl <;> rfl
  · match i with
    | 0 => simp [Cnf.arr] at hx hu; subst hx hu; exact .int _ _
    | 1 => simp [Cnf.arr] at hx hu; subst hx hu; exact .int _ _
    | 2 => simp [Cnf.arr] at hx hu; subst hx hu; exact .int _ _
    | 3 => simp [Cnf.arr] at hx hu; subst hx hu; exact .int _ _
    | 4 => simp [Cnf.arr] at hx hu; subst hx hu; exact .int _ _
    | 5 => simp [Cnf.arr] at hx hu; subst hx hu; exact .int _ _
    | 6 => simp [Cnf.arr] at hx hu; subst hx hu; exact .int _ _
    | 7 => simp [Cnf.arr] at hx hu; subst hx hu; exact .int _ _
    | 8 => simp [Cnf.arr] at hx hu; subst hx hu; exact .int _ _
    | i + 9 => simp at hx
theorem check_ok (c : Cnf) (G : Glob) : CallOk Try.prog TT 120 [c.av] G (fun v G' => v = .int .i64 (if goodC c then 0 else 1) ∧ G' = G) := by
  refine CallOk.of_gives ⟨_, Try.func120, by decide, rfl⟩ fun g us w hl hd => ?_
  obtain ⟨us⟩ := us
  match us, hl with
  | [u0], _ =>
    have := cnf_in (hd 0 _ _ rfl rfl)
    subst this
    exact ⟨_, .int _ _, confcheck_any c w⟩
theorem conflist_ok (c : Cnf) (G : Glob) : CallOk Try.prog TT 121 [c.av] G (fun v G' => v = .slc 3 (c.l.map fun n => [AV.int .i64 n]) ∧ G' = G) := by
  refine CallOk.of_up ⟨_, Try.func121, by decide, rfl⟩ fun g us w hl hd => ?_
  obtain ⟨us⟩ := us
  match us, hl with
  | [u0], _ =>
    have := cnf_in (hd 0 _ _ rfl rfl)
    subst this
    refine (conflist_any c w).mono fun e w' he => ?_
    obtain ⟨u, rfl, h1, h2⟩ := he
    refine ⟨u, rfl, h2, own_dz h1 rfl rfl fun i cells hi => ?_⟩
    rw [List.getElem?_map] at hi
    obtain ⟨n, hn, rfl⟩ := Option.map_eq_some_iff.1 hi
    refine ⟨rfl, fun j x hj => ?_⟩
    match j with
    | 0 =>
      simp at hj
      subst hj
      exact ⟨.int .i64 n, by simp [hn], rfl, .int _ _⟩
    | j + 1 => simp at hj
def cnfOf : List Int → Cnf
  | [a, b, c, d, e, f, g, h, i] => ⟨a, b, c, d, e, f, g, h, i⟩
  | _ => zeroC
theorem cnfOf_l {l : List Int} (h : l.length = 9) : (cnfOf l).l = l := by
  match l, h with
  | [a, b, c, d, e, f, g, h, i], _ => rfl
theorem cnfOf_of (c : Cnf) : cnfOf c.l = c := rfl
/-- the configuration of numbers, if they have one -/
def goodL (l : List Int) : Bool := decide (l.length = 9) && goodC (cnfOf l)
def ofV (l : List Int) : AV := if goodL l then .tup [(cnfOf l).av, .int .i64 0] else .tup [zeroC.av, .int .i64 1]
theorem ofs_ok (l : List Int) (G : Glob) (h : l.length ≠ 9) : CallOk Try.prog TT 133 [.slc 3 (l.map fun n => [AV.int .i64 n])] G (fun v G' => v = .tup [zeroC.av, .int .i64 1] ∧ G' = G) := by
  have c0 : ((((l.map fun n => [AV.int .i64 n]).length : Nat) : Int) != 9) = true := by simp; omega
  refine call_sem tt_ok Try.func133 rfl (by kernel_rfl) Try.ntmps133 Try.results133 ?_; conv => whnf
  repeat' (first | ((first | refine Sem.reg tt_ok ?_ | refine Sem.condS ?_ | refine Sem.regL tt_ok ?_ | refine Sem.skip tt_ok ?_ | refine Sem.exit tt_ok ?_ | refine Sem.ret tt_ok ?_ | refine BS_t (by assumption) ?_ | refine BS_f (by assumption) ?_ | refine atG (by repeat (first | assumption | exact setG_same _ _ _ | refine Eq.trans (setG_ne _ _ (by first | assumption | exact Ne.symm (by assumption))) ?_)) ?_ | refine (nthK_iff _ _).2 ⟨_, (by assumption), ?_⟩ | refine ⟨_, ⟨(by omega), (by assumption)⟩, ?_⟩ | refine And.intro (by first | decide | omega) ?_ | fail); conv => whnf) | refine Sem.seqS ?_ | refine Sem.block ?_ | fail)
  exact ⟨_, fun _ _ h => h, rfl, rfl⟩
theorem confof_ok (l : List Int) (G : Glob) : CallOk Try.prog TT 133 [.slc 3 (l.map fun n => [AV.int .i64 n])] G (fun v G' => v = ofV l ∧ G' = G) := by
  by_cases h : l.length = 9
  · refine CallOk.of_gives ⟨_, Try.func133, by decide, rfl⟩ fun g us w hl hd => ?_
    obtain ⟨us⟩ := us
    match us, hl with
    | [u0], _ =>
      have h0 : Row w u0 l 1 (fun n => [.int .i64 n]) := dz_row (hd 0 _ _ rfl rfl) rfl (by decide) fun x _ => ⟨rfl, fun j c y z hc hy hz => by
        match j with
        | 0 => simp at hc hy; subst hc hy; cases hz; rfl
        | j + 1 => simp at hc⟩
      have hcl := cnfOf_l h
      rw [← hcl] at h0
      refine ⟨_, ?_, confof_any (cnfOf l) u0 w h0⟩
      unfold ofV goodL
      simp only [h, decide_true, Bool.true_and]
      split
      · refine .tup _ _ rfl fun i x u hx hu => ?_
        match i with
        | 0 => simp at hx hu; subst hx hu; exact cnf_dz _
        | 1 => simp at hx hu; subst hx hu; exact .int _ _
        | i + 2 => simp at hx
      · refine .tup _ _ rfl fun i x u hx hu => ?_
        match i with
        | 0 => simp at hx hu; subst hx hu; exact cnf_dz _
        | 1 => simp at hx hu; subst hx hu; exact .int _ _
        | i + 2 => simp at hx
  · have : ofV l = .tup [zeroC.av, .int .i64 1] := by unfold ofV goodL; simp [h]
    rw [this]
    exact ofs_ok l G h
end Go.Proofs.Ytpnlhnhjedopgaa
