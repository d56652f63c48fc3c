/- The document's book of tenants in the abstract run: New, Do. -/
import Derived.Test.YtpnlhnhjedopgaaDoC
import Derived.Test.YtpnlhnhjedopgaaDoD
import Derived.Test.YtpnlhnhjedopgaaDoE
import Derived.Test.YtpnlhnhjedopgaaOrdA
set_option maxRecDepth 100000
set_option linter.unusedSimpArgs false
namespace Go.Proofs.Ytpnlhnhjedopgaa
open Go Go.RowKit Go.Proofs

theorem ten_cells {T : TypeId → TR} {g : Gh} {w : World} (t : RTen) (j : Nat) (x : AV) (hx : t.av[j]? = some x) : ∃ y, t.cells[j]? = some y ∧ y.oneCell' = true ∧ Dz T g w x y := by
  match j with
  | 0 | 1 => simp [RTen.av] at hx; subst hx; exact ⟨_, rfl, rfl, .bool _⟩
  | 2 | 3 | 4 | 5 | 6 | 7 | 8 | 9 | 10 => simp [RTen.av] at hx; subst hx; exact ⟨_, rfl, rfl, .int _ _⟩
  | j + 11 => simp [RTen.av] at hx
theorem book_dz {g : Gh} {w w' : World} {R : List RTen} {u : Value} (hR : R.length = 9) (h : w'.ownsRow w.heap.size 181 11 u 9 (R.flatMap RTen.cells)) : Dz TT (g.still w) w' (bookV R) (.agg #[u]) := by
  have h0 : Dz TT (g.still w) w' (.slc 181 (R.map RTen.av)) u := own_dz h rfl (by rw [List.length_map, hR]) fun i cells hi => by
    rw [List.getElem?_map] at hi
    cases hr : R[i]? with
    | none => rw [hr] at hi; cases hi
    | some t =>
      rw [hr] at hi
      simp only [Option.map_some, Option.some.injEq] at hi
      subst hi
      refine ⟨rfl, fun j x hx => ?_⟩
      obtain ⟨y, h1, h2, h3⟩ := ten_cells (T := TT) (g := g.still w) (w := w') t j x hx
      exact ⟨y, flat_get R i t j y (fun _ _ => rfl) hr h1, h2, h3⟩
  refine .agg _ _ rfl (fun v hv => ?_) fun i c v hc hv => ?_
  · simp at hv
    subst hv
    obtain ⟨p, cap, rfl⟩ := slc_shape h0
    rfl
  · match i with
    | 0 => simp at hc hv; subst hc hv; exact h0
    | i + 1 => simp at hc
theorem refnew41_ok (G : Glob) : CallOk Try.prog TT 80 [] G (fun v G' => v = bookV (List.replicate 9 zeroR) ∧ G' = G) := by
  refine .of_up ⟨_, Try.func80, by decide, rfl⟩ fun g us w hl hd => ?_
  have he : us = #[] := Array.eq_empty_of_size_eq_zero (by simpa using hl)
  subst he
  refine (refnew41_any w).mono fun e w' hh => ?_
  obtain ⟨u, rfl, h1, h2⟩ := hh
  exact ⟨_, rfl, h2, book_dz (by simp) h1⟩
theorem gives_int {f : FuncId} {args : List AV} {n : Int} (h : CallOk Try.prog TT f args (fun _ => none) (fun v G' => v = .int .i64 n ∧ G' = fun _ => none)) {us : Array Value} {w : World} (hl : us.size = args.length)
    (hd : ∀ (i : Nat) (a : AV) (u : Value), args[i]? = some a → us[i]? = some u → Dz TT gh0 w a u) : Calls Try.prog f us w (Gives w (.int .i64 n)) := by
  refine (h.calls gh0 us w (fun b bx hb => by cases hb) hl hd).mono fun e w' he => ?_
  obtain ⟨u, g', G', v, rfl, ⟨rfl, rfl⟩, _, hx, hz⟩ := he
  cases hz
  exact ⟨rfl, hx.up fun _ => trivial⟩
def doR (R : List RTen) (o : Ord) : List RTen := if chkR R o = 0 then R.set o.owner.toNat (newT (ofR R o.owner) o) else R
theorem chkR_form {R : List RTen} {o : Ord} (h : chkR R o = 0) : inB o := by
  unfold chkR at h
  cases hf : formB o with
  | true => exact formB_in hf
  | false => rw [hf] at h; simp at h
theorem doR_len (R : List RTen) (o : Ord) : (doR R o).length = R.length := by unfold doR; split <;> simp
theorem ord_in {g : Gh} {w : World} {o : Ord} {u : Value} (h : Dz TT g w (.agg o.av) u) : u = .agg o.arr := by
  cases h with
  | agg _ us hl h1 h2 =>
    obtain ⟨us⟩ := us
    match us, hl with
    | [a0, a1, a2, a3, a4, a5, a6, a7, a8, a9, a10, a11], _ =>
      cases h2 0 _ a0 rfl rfl
      cases h2 1 _ a1 rfl rfl
      cases h2 2 _ a2 rfl rfl
      cases h2 3 _ a3 rfl rfl
      cases h2 4 _ a4 rfl rfl
      cases h2 5 _ a5 rfl rfl
      cases h2 6 _ a6 rfl rfl
      cases h2 7 _ a7 rfl rfl
      cases h2 8 _ a8 rfl rfl
      cases h2 9 _ a9 rfl rfl
      cases h2 10 _ a10 rfl rfl
      cases h2 11 _ a11 rfl rfl
      rfl
theorem refdo41_ok (R : List RTen) (hR : R.length = 9) (o : Ord) (G : Glob) : CallOk Try.prog TT 84 [bookV R, .agg o.av] G (fun v G' => v = .tup [bookV (doR R o), .int .i64 (chkR R o)] ∧ G' = G) := by
  by_cases hz : chkR R o = 0
  · have hin := chkR_form hz
    unfold inB at hin
    refine .of_up ⟨_, Try.func84, by decide, rfl⟩ fun g us w hl hd => ?_
    obtain ⟨us⟩ := us
    match us, hl with
    | [u0, u1], _ =>
      obtain rfl := ord_in (hd 1 _ u1 rfl rfl)
      have h0 := hd 0 _ u0 rfl rfl
      cases h0 with
      | agg _ vs hl h1 h2 =>
        obtain ⟨vs⟩ := vs
        match vs, hl with
        | [s], _ =>
          have hs := h2 0 _ s rfl rfl
          have hrow : Row w s R 11 RTen.cells := dz_row (g := g) (acells := RTen.av) hs rfl (by decide) fun x _ => ⟨rfl, fun j c y z hc hy hzz => by
            match j with
            | 0 | 1 | 2 | 3 | 4 | 5 | 6 | 7 | 8 | 9 | 10 => simp [RTen.av, RTen.cells] at hc hy; subst hc hy; cases hzz; rfl
            | j + 11 => simp [RTen.av] at hc⟩
          obtain ⟨p, cap, rfl, hlc, hm, hp⟩ := id hrow
          obtain ⟨b, off, rfl, hb, hcells⟩ := hp (by omega)
          rw [hR] at hrow ⊢
          obtain ⟨i, hi⟩ : ∃ i : Nat, o.owner = (i : Int) := ⟨o.owner.toNat, by omega⟩
          have hi9 : i < 9 := by omega
          obtain ⟨x, hx⟩ : ∃ x, R[i]? = some x := ⟨_, List.getElem?_eq_getElem (by omega)⟩
          have hof : ofR R o.owner = x := by unfold ofR; rw [hi, if_neg (by omega), Int.toNat_natCast, hx]; rfl
          have hdo : doR R o = R.set i (newT x o) := by unfold doR; rw [if_pos hz, hof, hi, Int.toNat_natCast]
          have hchk : ∀ w', Up w w' → Calls Try.prog 81 #[.agg #[.slice (some ⟨b, off, none⟩) 9 cap], .agg o.arr] w' (Gives w' (.int .i64 0)) := fun w' hu => by
            have hc := refcheck41_ok R hR o (fun _ => none)
            rw [hz] at hc
            refine gives_int hc rfl fun j a u ha hu' => ?_
            match j with
            | 0 =>
              simp at ha hu'
              subst ha hu'
              have hsl : Dz TT gh0 w' (.slc 181 (R.map RTen.av)) (.slice (some ⟨b, off, none⟩) 9 cap) := row_dz (hrow.up hu) RTen.av rfl fun x _ => ⟨rfl, rfl, fun j c u hc hu => by
                match j with
                | 0 | 1 => simp [RTen.av, RTen.cells] at hc hu; subst hc hu; exact ⟨rfl, .bool _⟩
                | 2 | 3 | 4 | 5 | 6 | 7 | 8 | 9 | 10 => simp [RTen.av, RTen.cells] at hc hu; subst hc hu; exact ⟨rfl, .int _ _⟩
                | j + 11 => simp [RTen.av] at hc⟩
              refine .agg _ _ rfl (fun v hv => by simp at hv; subst hv; rfl) fun i c v hc hv => ?_
              match i with
              | 0 => simp at hc hv; subst hc hv; exact hsl
              | i + 1 => simp at hc
            | 1 => simp at ha hu'; subst ha hu'; exact ord_dz o
            | j + 2 => simp at ha
          have fin : ∀ y, newT x o = y → ∀ (e : Ending) (w' : World), (∃ u, e = .returned (.tuple #[.agg #[u], .int .i64 0]) ∧ w'.ownsRow w.heap.size 181 11 u 9 ((R.set i y).flatMap RTen.cells) ∧ Up w w') →
              ∃ u, e = .returned u ∧ Up w w' ∧ Dz TT (g.still w) w' (.tup [bookV (doR R o), .int .i64 (chkR R o)]) u := fun y hy e w' hh => by
            obtain ⟨u, rfl, h1, h2⟩ := hh
            refine ⟨_, rfl, h2, .tup _ _ rfl fun j c v hc hv => ?_⟩
            match j with
            | 0 => simp at hc hv; subst hc hv; rw [hdo, hy]; exact book_dz (by simp [hR]) h1
            | 1 => simp at hc hv; subst hc hv; rw [hz]; exact .int _ _
            | j + 2 => simp at hc
          obtain ⟨id, op, owner, c⟩ := o
          simp only at hi hin
          subst hi
          have hop : op = 1 ∨ op = 2 ∨ op = 3 ∨ op = 4 ∨ op = 5 ∨ op = 6 := by omega
          rcases hop with rfl | rfl | rfl | rfl | rfl | rfl
          · exact (refdo41_1 b off cap R id i c w hrow hR hi9 x hx hchk).mono (fin _ rfl)
          · exact (refdo41_2 b off cap R id i c w hrow hR hi9 x hx hchk).mono (fin _ rfl)
          · exact (refdo41_3 b off cap R id i c w hrow hR hi9 x hx hchk).mono (fin _ rfl)
          · exact (refdo41_4 b off cap R id i c w hrow hR hi9 x hx hchk).mono (fin _ rfl)
          · exact (refdo41_5 b off cap R id i c w hrow hR hi9 x hx hchk).mono (fin _ rfl)
          · exact (refdo41_6 b off cap R id i c w hrow hR hi9 x hx hchk).mono (fin _ rfl)
  · have hc := refcheck41_ok R hR o G
    have c1 : (chkR R o != 0) = true := by simpa using hz
    unfold doR
    rw [if_neg hz]
    generalize chkR R o = e at *
    unfold bookV at hc ⊢
    unfold Ord.av at hc ⊢
    refine call_sem tt_ok Try.func84 rfl (by kernel_rfl) Try.ntmps84 Try.results84 ?_; conv => whnf
    repeat' (first | ((first | refine Sem.reg tt_ok ?_ | refine Sem.condS ?_ | refine Sem.regL tt_ok ?_ | refine Sem.skip tt_ok ?_ | refine Sem.exit tt_ok ?_ | refine Sem.ret tt_ok ?_ | refine BS_t (by assumption) ?_ | refine BS_f (by assumption) ?_ | refine atG (by repeat (first | assumption | exact setG_same _ _ _ | refine Eq.trans (setG_ne _ _ (by first | assumption | exact Ne.symm (by assumption))) ?_)) ?_ | refine (nthK_iff _ _).2 ⟨_, (by assumption), ?_⟩ | refine ⟨_, ⟨(by omega), (by assumption)⟩, ?_⟩ | refine And.intro (by first | decide | omega) ?_ | fail); conv => whnf) | refine Sem.seqS ?_ | refine Sem.block ?_ | fail)
    refine hc.on ?_; conv => whnf
    repeat' (first | ((first | refine Sem.reg tt_ok ?_ | refine Sem.condS ?_ | refine Sem.regL tt_ok ?_ | refine Sem.skip tt_ok ?_ | refine Sem.exit tt_ok ?_ | refine Sem.ret tt_ok ?_ | refine BS_t (by assumption) ?_ | refine BS_f (by assumption) ?_ | refine atG (by repeat (first | assumption | exact setG_same _ _ _ | refine Eq.trans (setG_ne _ _ (by first | assumption | exact Ne.symm (by assumption))) ?_)) ?_ | refine (nthK_iff _ _).2 ⟨_, (by assumption), ?_⟩ | refine ⟨_, ⟨(by omega), (by assumption)⟩, ?_⟩ | refine And.intro (by first | decide | omega) ?_ | fail); conv => whnf) | refine Sem.seqS ?_ | refine Sem.block ?_ | fail)
    exact ⟨_, fun _ _ h => h, rfl, rfl⟩
end Go.Proofs.Ytpnlhnhjedopgaa
