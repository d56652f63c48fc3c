/- mac: the document's functions in the abstract run -/
import Derived.Test.YtmmmaekaoanceaaMacQ
import Derived.Test.YtmmmaekaoanceaaMacD
set_option maxRecDepth 100000
namespace Go.Proofs.Ytmmmaekaoanceaa
open Go Go.Proofs

/-- the document's rows -/
def MRow.av (r : MRow) : List AV := [.int .i64 r.owner, .int .i64 r.epoch, .int .u64 (r.tag : Nat), .bool r.known]
theorem mrow_in {g : Gh} {w : World} {u : Value} {l : List MRow} (h : Dz TT g w (.slc 40 (l.map MRow.av)) u) : Row w u l 4 MRow.cells := by
  refine dz_row h rfl (by decide) fun x _ => ⟨rfl, fun j c y z hc hy hz => ?_⟩
  match j with
  | 0 => simp only [MRow.av, MRow.cells, List.getElem?_cons_zero, Option.some.injEq] at hc hy; subst hc hy; cases hz; rfl
  | 1 => simp only [MRow.av, MRow.cells, List.getElem?_cons_zero, List.getElem?_cons_succ, Option.some.injEq] at hc hy; subst hc hy; cases hz; rfl
  | 2 => simp only [MRow.av, MRow.cells, List.getElem?_cons_zero, List.getElem?_cons_succ, Option.some.injEq] at hc hy; subst hc hy; cases hz; rfl
  | 3 => simp only [MRow.av, MRow.cells, List.getElem?_cons_zero, List.getElem?_cons_succ, Option.some.injEq] at hc hy; subst hc hy; cases hz; rfl
  | j + 4 => simp [MRow.av] at hc
theorem mrow_out {g : Gh} {w w' : World} {v : Value} {l : List MRow} (h : w'.ownsRow w.heap.size 40 4 v l.length (rowsV l)) : Dz TT (g.still w) w' (.slc 40 (l.map MRow.av)) v := by
  refine own_dz h rfl (by simp) fun i cells hi => ?_
  rw [List.getElem?_map] at hi
  cases hx : l[i]? with
  | none => rw [hx] at hi; cases hi
  | some x =>
    rw [hx] at hi
    simp only [Option.map_some, Option.some.injEq] at hi
    subst hi
    refine ⟨rfl, fun j c hj => ?_⟩
    have key : ∀ j y, (MRow.cells x)[j]? = some y → (rowsV l)[i * 4 + j]? = some y := fun j y hy => by
      exact flat_get l i x j y (fun _ _ => rfl) hx hy
    match j with
    | 0 => simp only [MRow.av, List.getElem?_cons_zero, Option.some.injEq] at hj; subst hj; exact ⟨_, key 0 _ rfl, rfl, .int _ _⟩
    | 1 => simp only [MRow.av, List.getElem?_cons_zero, List.getElem?_cons_succ, Option.some.injEq] at hj; subst hj; exact ⟨_, key 1 _ rfl, rfl, .int _ _⟩
    | 2 => simp only [MRow.av, List.getElem?_cons_zero, List.getElem?_cons_succ, Option.some.injEq] at hj; subst hj; exact ⟨_, key 2 _ rfl, rfl, .int _ _⟩
    | 3 => simp only [MRow.av, List.getElem?_cons_zero, List.getElem?_cons_succ, Option.some.injEq] at hj; subst hj; exact ⟨_, key 3 _ rfl, rfl, .bool _⟩
    | j + 4 => simp [MRow.av] at hj
theorem has_fn (n : Nat) (fn : Func) (h : Try.prog.funcs[n]? = some fn) (h1 : (fn.name == "runtime.NumGoroutine") = false) (h2 : fn.body.isNone = false) : ∃ fn, Try.prog.funcs[n]? = some fn ∧ (fn.name == "runtime.NumGoroutine") = false ∧ fn.body.isNone = false := ⟨fn, h, h1, h2⟩
theorem qrefepoch_ok (l : List MRow) (o : Int) (G : Glob) (hl : l.length ≤ 1000) : CallOk Try.prog TT 29 [.slc 40 (l.map MRow.av), .int .i64 o] G (fun v G' => v = .int .i64 (epochL l o : Nat) ∧ G' = G) := by
  refine CallOk.of_gives ⟨_, Try.func29, by decide, rfl⟩ fun g us w hu hd => ?_
  obtain ⟨us⟩ := us
  match us, hu with
  | [u0, u1], _ =>
    have h0 := mrow_in (hd 0 _ _ rfl rfl)
    cases hd 1 _ _ rfl rfl
    exact ⟨_, .int _ _, refepoch_any _ l o w h0 hl⟩
theorem qrefknows_ok (l : List MRow) (o e : Int) (t : Nat) (G : Glob) : CallOk Try.prog TT 31 [.slc 40 (l.map MRow.av), .int .i64 o, .int .i64 e, .int .u64 t] G (fun v G' => v = .bool (knowsL l o e t) ∧ G' = G) := by
  refine CallOk.of_gives ⟨_, Try.func31, by decide, rfl⟩ fun g us w hu hd => ?_
  obtain ⟨us⟩ := us
  match us, hu with
  | [u0, u1, u2, u3], _ =>
    have h0 := mrow_in (hd 0 _ _ rfl rfl)
    cases hd 1 _ _ rfl rfl
    cases hd 2 _ _ rfl rfl
    cases hd 3 _ _ rfl rfl
    exact ⟨_, .bool _, refknows_any _ l o e t w h0⟩
theorem qrefissue_ok (l : List MRow) (o : Int) (n : Nat) (G : Glob) (hl : l.length ≤ 1000) (h0 : 0 ≤ o) (ho : o ≤ 8) (hn : n < 18446744073709551616) :
    CallOk Try.prog TT 25 [.slc 40 (l.map MRow.av), .int .i64 o, .int .u64 n] G (fun v G' => v = .slc 40 ((issueL l o.toNat n).map MRow.av) ∧ G' = G) := by
  obtain ⟨o, rfl⟩ := Int.eq_ofNat_of_zero_le h0
  refine CallOk.of_up ⟨_, Try.func25, by decide, rfl⟩ fun g us w hu hd => ?_
  obtain ⟨us⟩ := us
  match us, hu with
  | [u0, u1, u2], _ =>
    have h0 := mrow_in (hd 0 _ _ rfl rfl)
    cases hd 1 _ _ rfl rfl
    cases hd 2 _ _ rfl rfl
    refine (refissue_any _ l o n w h0 hl (by omega) hn).mono fun e w' he => ?_
    obtain ⟨v', rfl, h1, h2⟩ := he
    refine ⟨v', rfl, h2, mrow_out ?_⟩
    rw [show (issueL l (o : Int).toNat n) = issueL l o n from rfl]
    have : (issueL l o n).length = l.length + 1 := by simp [issueL, revokeL]
    rw [this]; exact h1
theorem qrefrevoke_ok (l : List MRow) (o : Int) (G : Glob) (hl : l.length ≤ 1000) :
    CallOk Try.prog TT 27 [.slc 40 (l.map MRow.av), .int .i64 o] G (fun v G' => v = .tup [.slc 40 ((revokeL l o).map MRow.av), .bool (wasL l o)] ∧ G' = G) := by
  refine CallOk.of_up ⟨_, Try.func27, by decide, rfl⟩ fun g us w hu hd => ?_
  obtain ⟨us⟩ := us
  match us, hu with
  | [u0, u1], _ =>
    have h0 := mrow_in (hd 0 _ _ rfl rfl)
    cases hd 1 _ _ rfl rfl
    refine (refrevoke_any _ l o w h0 hl).mono fun e w' he => ?_
    obtain ⟨v', rfl, h1, h2⟩ := he
    refine ⟨_, rfl, h2, ?_⟩
    have : (revokeL l o).length = l.length := by simp [revokeL]
    have h3 := mrow_out (g := g) (by rw [this]; exact h1)
    refine .tup _ _ rfl fun i c u hc hu => ?_
    match i with
    | 0 => simp at hc hu; subst hc hu; exact h3
    | 1 => simp at hc hu; subst hc hu; exact .bool _
    | i + 2 => simp at hc
end Go.Proofs.Ytmmmaekaoanceaa
