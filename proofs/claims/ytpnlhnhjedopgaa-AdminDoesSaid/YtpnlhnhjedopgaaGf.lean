/- One text out of several: ConfT, ConfA, Rnd, PopA, ConfB, ConfC, ConfD. -/
import Derived.Test.YtpnlhnhjedopgaaMapA
import Derived.RangeFuncNested
import Derived.RangeFuncBound
import Derived.RangeFuncCalls
import Derived.RangeFuncLeaves
import Derived.Shelf.Abstract
import Derived.Shelf.RegionOpen
import Derived.WalkKit
import Derived.OwnWalkIn
import Derived.TacticsInMore
import Derived.LoopNIn
import Derived.LoopIn
import Derived.Deep.MidRow
import Derived.OrdersIn
import Derived.OrdersHeld
import Derived.TacticsIn
import Derived.Test.YtpnlhnhjedopgaaGe
import Derived.Deep.RegionHeld3

section
/- conf.places in the abstract run -/
set_option maxRecDepth 100000
set_option linter.unusedSimpArgs false
namespace Go.Proofs.Ytpnlhnhjedopgaa
open Go Go.RowKit Go.Proofs

def plAv (b : Nat) : List AV := [.gptr b 0, .int .i64 1040, .int .i64 1048576, .gptr b 1, .int .i64 0, .int .i64 1048576, .gptr b 2, .int .i64 0, .int .i64 1048576, .gptr b 3, .int .i64 0, .int .i64 1048576, .gptr b 4, .int .i64 0, .int .i64 64, .gptr b 5, .int .i64 0, .int .i64 64, .gptr b 6, .int .i64 0, .int .i64 16, .gptr b 7, .int .i64 0, .int .i64 1048576, .gptr b 8, .int .i64 0, .int .i64 1048576]
theorem places_ok (b : Nat) (G : Glob) : CallOk Try.prog TT 142 [.gptr b 0] G (fun v G' => ∃ c, G c = none ∧ v = .fn (.func 158) [] [.gptr c 0] ∧ G' = setG G c (.cells (plAv b))) := by
  refine call_sem tt_ok Try.func142 rfl (by kernel_rfl) Try.ntmps142 Try.results142 ?_; conv => whnf
  repeat' (first | ((first | refine Sem.reg tt_ok ?_ | refine Sem.condS ?_ | refine Sem.regL tt_ok ?_ | refine Sem.skip tt_ok ?_ | refine Sem.exit tt_ok ?_ | refine Sem.ret tt_ok ?_ | refine BS_t (by assumption) ?_ | refine BS_f (by assumption) ?_ | refine atG (by repeat (first | assumption | exact setG_same _ _ _ | refine Eq.trans (setG_ne _ _ (by first | assumption | exact Ne.symm (by assumption))) ?_)) ?_ | refine (nthK_iff _ _).2 ⟨_, (by assumption), ?_⟩ | refine ⟨_, ⟨(by omega), (by assumption)⟩, ?_⟩ | refine And.intro (by first | decide | omega) ?_ | fail); conv => whnf) | refine Sem.seqS ?_ | refine Sem.block ?_ | fail)
  refine draw_sound (eff := []) tt_ok (by kernel_rfl) (by kernel_rfl) ?_; conv => whnf
  repeat' (first | ((first | refine BS_t (by assumption) ?_ | refine BS_f (by assumption) ?_ | refine atG (by repeat (first | assumption | exact setG_same _ _ _ | refine Eq.trans (setG_ne _ _ (by first | assumption | exact Ne.symm (by assumption))) ?_)) ?_ | refine (nthK_iff _ _).2 ⟨_, (by assumption), ?_⟩ | refine ⟨_, ⟨(by omega), (by assumption)⟩, ?_⟩ | refine And.intro (by first | decide | omega) ?_ | fail); conv => whnf) | fail)
  repeat' (first | ((first | refine Sem.reg tt_ok ?_ | refine Sem.condS ?_ | refine Sem.regL tt_ok ?_ | refine Sem.skip tt_ok ?_ | refine Sem.exit tt_ok ?_ | refine Sem.ret tt_ok ?_ | refine BS_t (by assumption) ?_ | refine BS_f (by assumption) ?_ | refine atG (by repeat (first | assumption | exact setG_same _ _ _ | refine Eq.trans (setG_ne _ _ (by first | assumption | exact Ne.symm (by assumption))) ?_)) ?_ | refine (nthK_iff _ _).2 ⟨_, (by assumption), ?_⟩ | refine ⟨_, ⟨(by omega), (by assumption)⟩, ?_⟩ | refine And.intro (by first | decide | omega) ?_ | fail); conv => whnf) | refine Sem.seqS ?_ | refine Sem.block ?_ | fail)
  intro c hc
  conv => whnf
  exact ⟨_, fun _ _ h => h, c, hc, rfl, rfl⟩
end Go.Proofs.Ytpnlhnhjedopgaa
end

section
/- The nine rounds of conf.places' closure, in the model. Written by a small program of mine (genconf.py). -/
set_option maxRecDepth 100000
set_option linter.unusedSimpArgs false
namespace Go.Proofs.Ytpnlhnhjedopgaa
open Go Go.RowKit Go.Shelf Go.Proofs
attribute [local go_sem] Oper.semAt_some

def leastL : List Int := [1040, 0, 0, 0, 0, 0, 0, 0, 0]
def mostL : List Int := [1048576, 1048576, 1048576, 1048576, 64, 64, 16, 1048576, 1048576]
def plArr (B : Nat) : Array Value := #[.pointer (some ⟨B, 0, none⟩), .int .i64 1040, .int .i64 1048576, .pointer (some ⟨B, 1, none⟩), .int .i64 0, .int .i64 1048576, .pointer (some ⟨B, 2, none⟩), .int .i64 0, .int .i64 1048576, .pointer (some ⟨B, 3, none⟩), .int .i64 0, .int .i64 1048576, .pointer (some ⟨B, 4, none⟩), .int .i64 0, .int .i64 64, .pointer (some ⟨B, 5, none⟩), .int .i64 0, .int .i64 64, .pointer (some ⟨B, 6, none⟩), .int .i64 0, .int .i64 16, .pointer (some ⟨B, 7, none⟩), .int .i64 0, .int .i64 1048576, .pointer (some ⟨B, 8, none⟩), .int .i64 0, .int .i64 1048576]
def nines : List (Fin 9) := [0, 1, 2, 3, 4, 5, 6, 7, 8]
def plEnc (B : Nat) (i : Fin 9) : Array Value := #[.int .i64 (i.val : Nat), .agg #[.pointer (some ⟨B, i.val, none⟩), .int .i64 (leastL[i.val]?.getD 0), .int .i64 (mostL[i.val]?.getD 0)]]

theorem nines_take (k : Nat) (h : k < 9) : nines.take k ++ [⟨k, h⟩] = nines.take (k + 1) := by
  have : k = 0 ∨ k = 1 ∨ k = 2 ∨ k = 3 ∨ k = 4 ∨ k = 5 ∨ k = 6 ∨ k = 7 ∨ k = 8 := by omega
  rcases this with rfl | rfl | rfl | rfl | rfl | rfl | rfl | rfl | rfl <;> rfl
theorem wpListIn_load_mid {F : Fence} {n : Nat} {P : Program} {ops : Array Oper} {rest : List Oper} {op : Oper} {a : Act} {w : World} {Q : Exit → Act → World → Prop} (hgd : op.guard = none) (hro : F.round = none) (ty : TypeId) (x : Operand) (ho : op.op = .load ty x)
    (b o : Nat) (hx : a.eval x = .pointer (some ⟨b, o, none⟩)) (cs : List Value) (d : TypeDesc) (hc : w.rangeAt b o cs)
    (hu : P.underlying ty = some d) (hd : d.isRow = true) (hi : (P.info? ty).map (·.size) = some cs.length)
    (h : wpListIn F n P ops Q rest (a.put op.dst (.agg cs.toArray)) w) : wpListIn F n P ops Q (op :: rest) a w := by
  refine wpListIn_plain hgd fun K hK => ⟨fun f hf => ?_, ?_⟩
  · unfold Oper.about at hf
    rw [ho] at hf
    cases hf
  · rw [hro, Oper.semAt_none]
    unfold execOp
    simp only [ho, hx, Instr.loadAt, Instr.sureAddr, Sem.run_bind, Sem.run_pure, Result.andThen_ok, run_loadVar_mid w b o ty cs d hc hu hd hi]
    exact hK _ _ h
theorem pl_index (B k : Nat) (hk : k < 9) (W : World) : (Instr.index 241 (.agg (plArr B)) (.int .i64 (k : Int))).run Try.prog W = .ok (.agg #[.pointer (some ⟨B, k, none⟩), .int .i64 (leastL[k]?.getD 0), .int .i64 (mostL[k]?.getD 0)]) W := by
  have : k = 0 ∨ k = 1 ∨ k = 2 ∨ k = 3 ∨ k = 4 ∨ k = 5 ∨ k = 6 ∨ k = 7 ∨ k = 8 := by omega
  rcases this with rfl | rfl | rfl | rfl | rfl | rfl | rfl | rfl | rfl <;> rfl
set_option maxHeartbeats 8000000 in
theorem places_stops (n : Nat) (B A : Nat) (T0 : TypeId) (w : World) (hA : w.heap[A]? = some (.cells (plArr B) T0 (0, 0))) :
    SeqStopsK Fence.wide n Try.prog 158 #[.pointer (some ⟨A, 0, none⟩)] (plEnc B) (fun _ _ => True) (fun xs => xs = nines) (fun pre => pre <+: nines) 9 w := fun l J Jx W hW hJ hJx hY h0 => by
  have hlt : A < w.heap.size := (Array.getElem?_eq_some_iff.1 hA).1
  have hA' : W.heap[A]? = some (.cells (plArr B) T0 (0, 0)) := (hW.block A hlt).trans hA

  have hrg : W.rangeAt A 0 (plArr B).toList := fun j u hj => by
    rw [Nat.zero_add, cell_of_row W A j _ _ _ hA']
    simpa using hj
  have hsz : (Try.prog.info? 241).map (·.size) = some (plArr B).toList.length := by kernel_rfl
  have hld0 : (Instr.loadAt 241 (.pointer (some ⟨A, 0, none⟩))).run Try.prog W = .ok (.agg (plArr B)) W := run_loadAt_mid W A 0 241 (plArr B).toList (.array 9 224) (fun j u hj => by
    rw [Nat.zero_add, cell_of_row W A j _ _ _ hA']
    simpa using hj) Try.underlying241 rfl (by kernel_rfl)
  have hix : ∀ k : Nat, k < 9 → ∀ W', (Instr.index 241 (.agg (plArr B)) (.int .i64 (k : Int))).run Try.prog W' = .ok (.agg #[.pointer (some ⟨B, k, none⟩), .int .i64 (leastL[k]?.getD 0), .int .i64 (mostL[k]?.getD 0)]) W' := fun k hk W' => pl_index B k hk W'
  clear hA hA' hW
  clear hld0
  generalize plArr B = arr at *
  refine callsIn_of_wp Try.func158 rfl trivial ?_ rfl
  simp only [Try.ntmps158, List.size_toArray, List.length_cons, List.length_nil, Nat.reduceAdd, Nat.reduceSub, Array.replicate_succ, Array.replicate_zero, List.push_toArray, List.append_toArray, List.nil_append, List.cons_append]
  gi_wp2_with (refine wpListIn_load_mid rfl rfl 241 (.tmp 1) rfl A 0 (by rfl) arr.toList (.array 9 224) hrg Try.underlying241 rfl hsz ?_)
  gi_loopw [6] (fun p wr => ∃ k : Nat, k ≤ 9 ∧ p = .int .i64 k ∧ J (nines.take k) wr) (fun p _ => 9 - (intOf p).toNat)
  case atStart => exact ⟨0, by omega, rfl, h0⟩
  case round =>
    obtain ⟨k, hk, rfl, hJk⟩ := hrel
    by_cases h9 : k < 9
    · have hxk := hix k h9
      clear hix
      have hlen : (nines.take k).length < 9 := by rw [List.length_take]; show min k 9 < 9; omega
      have hJ2 : J (nines.take k) (wr.alloc (.cells #[.pointer (some ⟨B, k, none⟩), .int .i64 (leastL[k]?.getD 0), .int .i64 (mostL[k]?.getD 0)] 224)) := hJ _ _ _ none hJk (World.grownBy_alloc _ _ none) (fun r e => by cases e)
      obtain ⟨fn, tmps, assign, body, hy, hR⟩ := hY (nines.take k) ⟨k, h9⟩ _ hJ2 hlen
      dsimp only [plEnc] at hy
      have htk : nines.take k ++ [⟨k, h9⟩] = nines.take (k + 1) := nines_take k h9
      rw [htk] at hR
      have hw : IntKind.i64.wrap ((k : Int) + 1) = (k : Int) + 1 := IntWalk.i64_in _ (by omega)
      gi_wp2
      refine ⟨fun h => (by cases h), hR.mono ?_⟩
      rintro e W3 (⟨rfl, hJ3, -⟩ | ⟨rfl, hJx3⟩)
      · gi_wp2
        go_roundw
        case rel => exact ⟨k + 1, by omega, by go_num, hJ3⟩
        case measure => simp [intOf]; omega
      · gi_wp2
        refine bodyPost_ret (results_none rfl _ _ _) rfl ?_
        exact ⟨⟨_, rfl⟩, .inr ⟨nines.take (k + 1), List.take_prefix _ _, hJx3⟩⟩
    · obtain rfl : k = 9 := by omega
      clear hix
      gi_wp2
      go_end0
      exact ⟨⟨_, rfl⟩, .inl ⟨nines, rfl, hJk⟩⟩
theorem places_w (B : Nat) (w : World) : Calls Try.prog 142 #[.pointer (some ⟨B, 0, none⟩)] w (fun e w' => ∃ A T0, e = .returned (.func (.func 158) #[] #[.pointer (some ⟨A, 0, none⟩)]) ∧ w'.heap[A]? = some (.cells (plArr B) T0 (0, 0)) ∧ w.heap.size ≤ A ∧ Up w w') := by
  let g : Gh := { own := fun _ => .prot 0, beta := fun _ => B, nb := 1, lam := fun _ => 0, nl := 0, tau := fun _ => none, nt := 0 }
  have hc := (places_ok 0 (fun _ => none)).calls g #[.pointer (some ⟨B, 0, none⟩)] w (fun b bx h => by cases h) rfl fun i a u ha hu => by
    match i with
    | 0 => simp at ha hu; subst ha hu; exact .gptr (g := g) 0 0 (by show 0 < 1; omega)
    | i + 1 => simp at ha
  refine hc.mono fun e w' hh => ?_
  obtain ⟨u, g', G', v, rfl, ⟨c, -, rfl, rfl⟩, hG, hx, hd⟩ := hh
  obtain ⟨hb1, hb2, us, T0, hb3, hb4, hb5, hb6⟩ := hG c _ (setG_same _ _ _)
  have hB : g'.beta 0 = B := hx.beta 0 (by show 0 < 1; omega)
  have hup : Up w w' := by
    exact ⟨hx.os, hx.tape, hx.output, hx.size, fun k hk => (hx.kept k hk trivial).2⟩
  have hu : us = plArr B := by
    have hz : us.size = 27 := hb4
    refine Array.ext (by rw [hz]; rfl) fun i h1 h2 => ?_
    have hi : i < 27 := by rw [hz] at h1; exact h1
    have key : ∀ c z, (plAv 0)[i]? = some c → (plArr B)[i]? = some z → (∀ y, Dz TT g' w' c y → y = z) → us[i] = (plArr B)[i] := fun c z h3 h4 h5 => by
      have h6 := hb6 i c us[i] h3 (by simp [h1])
      rw [h5 _ h6]
      have := (Array.getElem?_eq_some_iff.1 h4).2
      exact this.symm
    have : i = 0 ∨ i = 1 ∨ i = 2 ∨ i = 3 ∨ i = 4 ∨ i = 5 ∨ i = 6 ∨ i = 7 ∨ i = 8 ∨ i = 9 ∨ i = 10 ∨ i = 11 ∨ i = 12 ∨ i = 13 ∨ i = 14 ∨ i = 15 ∨ i = 16 ∨ i = 17 ∨ i = 18 ∨ i = 19 ∨ i = 20 ∨ i = 21 ∨ i = 22 ∨ i = 23 ∨ i = 24 ∨ i = 25 ∨ i = 26 := by omega
    rcases this with rfl | rfl | rfl | rfl | rfl | rfl | rfl | rfl | rfl | rfl | rfl | rfl | rfl | rfl | rfl | rfl | rfl | rfl | rfl | rfl | rfl | rfl | rfl | rfl | rfl | rfl | rfl <;> exact key _ _ rfl rfl fun y h => by cases h; first | rfl | (rw [hB]; rfl)
  subst hu
  cases hd with
  | fn f a b us vs ha hb h1 h2 =>
    have ha' : us = #[] := by simpa using ha.symm
    subst ha'
    obtain ⟨vs⟩ := vs
    match vs, hb with
    | [v0], _ =>
      have h3 := h2 0 _ v0 rfl rfl
      cases h3
      refine ⟨_, _, rfl, hb3, ?_, hup⟩
      refine Nat.le_of_not_lt fun hlt => ?_
      have := (hx.kept (g'.beta c) hlt trivial).1
      rw [hb2] at this
      cases this
end Go.Proofs.Ytpnlhnhjedopgaa
end

section
/- Operations in a round of a range over a function: what holds outside holds in it. -/
namespace Go.Proofs.Ytpnlhnhjedopgaa
open Go Go.RowKit

section
variable {P : Program} {a : Act} {w : World} {Q : Exit → Act → World → Prop}
theorem rows_in {n l : Nat} {row : String} {args : Array Value} {R : Value → World → Prop} (h : Rows P row args w R) : RowsIn (Fence.wide.inRound l) n P row args w R :=
  fun c cs _ => let ⟨v, w', r, s⟩ := h c cs; ⟨v, w', r, (show StepsIn (Machine.fenced P Fence.wide) P _ _ from stepsIn_wide.2 s)⟩
theorem oper_in {o : Oper} {next : Act → World → Prop} (l n : Nat) (hd : ∀ c, o.op ≠ .defer c) (h : o.wp P a w next Q) : o.wpIn (Fence.wide.inRound l) n P a w next Q := by
  refine ⟨fun _ _ => trivial, ?_⟩
  show o.uponIn (Fence.wide.inRound l) n P a next Q ((o.semAt (some l) a.eval).run P w)
  rw [Oper.semAt_eq _ _ _ hd]
  unfold Oper.wp at h
  generalize (execOp a.eval o).run P w = r at h ⊢
  cases r with
  | ok nx w' =>
    cases nx <;> first | exact h | exact h.elim | skip
    · exact ⟨fun hh => (by cases hh), CallsIn.inRound l (callsIn_wide.2 h)⟩
    · exact ⟨fun hh => (by cases hh), rows_in h⟩
  | halt x w' => cases x <;> first | exact h | exact h.elim
theorem list_in {ops : Array Oper} (k n : Nat) (hQ : ¬ LetsOut Q) : ∀ (l : List Oper) (a : Act) (w : World), (∀ o ∈ l, ∀ c, o.op ≠ .defer c) → wpList P ops Q l a w → wpListIn (Fence.wide.inRound k) n P ops Q l a w
  | [], _, _, _, h => h
  | o :: r, a, w, hd, h => by
    unfold wpList at h
    unfold wpListIn
    split
    · rename_i hw
      rw [if_pos hw] at h
      rcases h with h | h
      · exact oper_in k n (hd o (by simp)) (Oper.wp_mono (fun a w h => list_in k n hQ r a w (fun o ho => hd o (by simp [ho])) h) h)
      · exact absurd h.2 hQ
    · rename_i hw
      rw [if_neg hw] at h
      exact ⟨fun _ _ => trivial, list_in k n hQ r _ _ (fun o ho => hd o (by simp [ho])) h⟩
theorem any_in {ops : Array Oper} (k n : Nat) (hQ : ¬ LetsOut Q) (hd : ∀ o ∈ ops.toList, ∀ c, o.op ≠ .defer c) : ∀ (fuel : Nat) (listed : Array Bool) (a : Act) (w : World), wpAny P .any ops Q fuel listed a w → wpAnyIn (Fence.wide.inRound k) n P .any ops Q fuel listed a w
  | 0, _, _, _, h => h
  | fuel + 1, listed, a, w, h => by
    refine ⟨h.1, fun i hi => ?_⟩
    have h2 := h.2 i hi
    unfold wpOp at h2
    unfold wpOpIn
    cases ho : ops[i]? with
    | none => rw [ho] at h2; exact any_in k n hQ hd fuel _ _ _ h2
    | some o =>
      rw [ho] at h2
      have hdo := hd o (by
        have := Array.mem_of_getElem? ho
        simpa using this)
      simp only at h2 ⊢
      split
      · rename_i hw
        rw [if_pos hw] at h2
        rcases h2 with h2 | h2
        · exact oper_in k n hdo (Oper.wp_mono (fun a w h => any_in k n hQ hd fuel _ a w h) h2)
        · exact absurd h2.2 hQ
      · rename_i hw
        rw [if_neg hw] at h2
        exact ⟨fun _ _ => trivial, any_in k n hQ hd fuel _ _ _ h2⟩
/-- the closed look: no operation is put off -/
def noDefer (l : List Oper) : Bool := l.all fun o => match o.op with | .defer _ => false | _ => true
theorem noDefer_on {l : List Oper} (h : noDefer l = true) : ∀ o ∈ l, ∀ c, o.op ≠ .defer c := fun o ho c hc => by
  have := List.all_eq_true.1 h o ho
  rw [hc] at this
  cases this
/-- a region that draws its order, in a round -/
theorem region_held_in {id k n : Nat} {ops : Array Oper} {S : World → Prop} (hm : P.follows .mixedOrders = true) (hd : noDefer ops.toList = true) (hQ : ¬ LetsOut Q) (hS : S w.drew)
    (h : S w.drew → wpAnyH P .any ops Q S ops.size (Array.replicate ops.size false) a w.drew) : (Code.region id ops true).wpIn (Fence.wide.inRound k) n P Q a w :=
  wpIn_region_any hm (any_in k n hQ (noDefer_on hd) _ _ _ _ (wpAny_of_held _ _ _ _ (h hS)))
end
end Go.Proofs.Ytpnlhnhjedopgaa
end

section
/- Appends of parts of slices in a region that draws its order. -/
namespace Go.Proofs.Ytpnlhnhjedopgaa
open Go Go.RowKit

theorem run_apps {P : Program} (t ty e : TypeId) {z : Value} {size bytes : Nat} (hr : Row1 P t e z size bytes) {base : Nat} {w : World} (hbase : base ≤ w.heap.size)
    {v : Value} {n : Nat} {xs : List Value} (hown : w.ownsRow base e size v n xs) {α : Type} {l : List α} {cells : α → List Value} {vx : Value} (hrow : Row w vx l size cells)
    (hc : ∀ x ∈ l, (cells x).length = size) (h1 : ∀ x ∈ l, ∀ u ∈ cells x, u.oneCell' = true) (h63 : n + l.length ≤ maxLen) (hbytes : (n + l.length) * bytes ≤ 140737488355328) :
    ∃ v' w', (Builtin.append_ #[t, t] ty #[v, vx]).run P w = .ok v' w' ∧ AppsOut w w' base e size v v' (n + l.length) (xs ++ l.flatMap cells) := by
  obtain ⟨ht, hi, hzs, hsz⟩ := hr
  obtain ⟨i0, hi0, hz0, hz1, hz2⟩ := info_parts hi
  obtain ⟨p, cap, rfl, hlc, hm, hcell⟩ := hrow
  cases p with
  | none =>
    have h0 : l.length = 0 := by
      rcases Nat.eq_zero_or_pos l.length with h0 | h0
      · exact h0
      · obtain ⟨_, _, hp, _⟩ := hcell h0; cases hp
    have hl : l = [] := List.eq_nil_of_length_eq_zero h0
    subst hl
    refine ⟨v, w, run_append_none t ty e i0 ht hi0 hown cap, ⟨by simpa using hown, fun _ _ _ _ _ _ _ h => h, fun _ _ h _ => h, fun _ _ h => h, Nat.le_refl _, .inl rfl⟩⟩
  | some ad =>
    obtain ⟨v', w', hrun, h2, h3, _, h5⟩ := run_append_own_at (P := P) w base t ty e i0 z size bytes ht hi0 hz0 hz1 hz2 hzs hsz v n xs hown ad l.length cap (l.flatMap cells) (flat_len l hc) (fun j u hj => by
      have hpos : 0 < l.length := by
        rcases Nat.eq_zero_or_pos l.length with h0 | h0
        · rw [List.eq_nil_of_length_eq_zero h0] at hj; simp at hj
        · exact h0
      obtain ⟨b, off, hp, hb, hcc⟩ := hcell hpos
      cases hp
      obtain ⟨i, x, g1, g2, g3⟩ := flat_at hsz l j u hc hj
      have := hcc i x g1 _ u g2
      rw [← g3] at this
      rw [show (⟨b, off, none⟩ : Addr).add j = ⟨b, off + j, none⟩ from by rw [Go.WideShapes.add_plain]]
      exact this) (fun u hu => by obtain ⟨x, hx1, hx2⟩ := List.mem_flatMap.1 hu; exact h1 x hx1 u hx2) h63 hbytes hbase
    refine ⟨v', w', hrun, h2, fun base' e' size' v'' n' xs' hne h => h.kept h3 hne, fun k o hk hne => ?_, fun w0 h0 hup => hup.grown h3 (fun k hk => Nat.le_trans h0 ((hown.lt) k hk).1), h3.size, h5⟩
    rw [h3.block k (blk_lt hk) hne]; exact hk
theorem step_apps {P : Program} {ops : Array Oper} {o : Oper} {a : Act} {K : Act → World → Prop} {Q : Exit → Act → World → Prop} {E : Prop} {w : World} (hgd : o.guard = none) (s x : Operand) (t e : TypeId)
    (ho : o.op = .call { callee := .builtin .append, args := #[s, x], argTypes := #[t, t] })
    {z : Value} {size bytes : Nat} (hr : Row1 P t e z size bytes) {base : Nat} (hbase : base ≤ w.heap.size)
    {v : Value} {n : Nat} {xs : List Value} (hs : a.eval s = v) (hown : w.ownsRow base e size v n xs) {α : Type} {l : List α} {cells : α → List Value} {vx : Value} (hx : a.eval x = vx) (hrow : Row w vx l size cells)
    (hc : ∀ x ∈ l, (cells x).length = size) (h1 : ∀ x ∈ l, ∀ u ∈ cells x, u.oneCell' = true) (h63 : n + l.length ≤ maxLen) (hbytes : (n + l.length) * bytes ≤ 140737488355328)
    (h : ∀ v' w', AppsOut w w' base e size v v' (n + l.length) (xs ++ l.flatMap cells) → K (a.put o.dst v') w') :
    if Region.wanted o (yielded ops a.tmps) = true then Oper.wp P o a w K Q else E := by
  have hw : Region.wanted o (yielded ops a.tmps) = true := by simp [Region.wanted, hgd]
  rw [if_pos hw]
  obtain ⟨v', w', hrun, h2⟩ := run_apps (P := P) t o.type e hr hbase hown hrow hc h1 h63 hbytes
  unfold Oper.wp execOp
  simp only [ho, resolve, invoke, builtin, Sem.run_bind, Sem.run_pure, Result.andThen_ok, List.map_toArray, List.map_cons, List.map_nil, hs, hx, hrun]
  exact h v' w' h2
theorem step_go {P : Program} {ops : Array Oper} {o : Oper} {a : Act} {K : Act → World → Prop} {Q : Exit → Act → World → Prop} {E : Prop} {w : World} (hgd : o.guard = none) (h : Oper.wp P o a w K Q) :
    if Region.wanted o (yielded ops a.tmps) = true then Oper.wp P o a w K Q else E := by
  have hw : Region.wanted o (yielded ops a.tmps) = true := by simp [Region.wanted, hgd]
  rw [if_pos hw]
  exact h
theorem own_lower {w : World} {base base' : Nat} {e : TypeId} {size : Nat} {v : Value} {n : Nat} {xs : List Value} (hb : base' ≤ base) (h : w.ownsRow base e size v n xs) : w.ownsRow base' e size v n xs := by
  refine ⟨h.1, ?_⟩
  rcases h.2 with h1 | ⟨b, cap, cur, rfl, hb', r⟩
  · exact .inl h1
  · exact .inr ⟨b, cap, cur, rfl, Nat.le_trans hb hb', r⟩
/-- a part of a row -/
theorem row_take {α : Type} {w : World} {p : Option Addr} {n cap : Nat} {l : List α} {size : Nat} {cells : α → List Value} (h : Row w (.slice p n cap) l size cells) (k : Nat) (hk : k ≤ l.length) : Row w (.slice p k cap) (l.take k) size cells := by
  obtain ⟨p', cap', hv, h1, h2, h3⟩ := h
  simp only [Value.slice.injEq] at hv
  obtain ⟨rfl, rfl, rfl⟩ := hv
  have hl : (l.take k).length = k := by rw [List.length_take]; omega
  refine ⟨p, cap, by rw [hl], by omega, h2, fun hp => ?_⟩
  obtain ⟨b, off, h4, h5, h6⟩ := h3 (by omega)
  refine ⟨b, off, h4, h5, fun i x hx => h6 i x ?_⟩
  rw [List.getElem?_take] at hx
  split at hx
  · exact hx
  · cases hx
theorem row_drop {α : Type} {w : World} {b off n cap : Nat} {l : List α} {size : Nat} {cells : α → List Value} (h : Row w (.slice (some ⟨b, off, none⟩) n cap) l size cells) (k : Nat) (hk : k ≤ l.length) : Row w (.slice (some ⟨b, off + k * size, none⟩) (l.length - k) (cap - k)) (l.drop k) size cells := by
  obtain ⟨p', cap', hv, h1, h2, h3⟩ := h
  simp only [Value.slice.injEq] at hv
  obtain ⟨rfl, rfl, rfl⟩ := hv
  have hl : (l.drop k).length = l.length - k := by rw [List.length_drop]
  refine ⟨_, cap - k, by rw [hl], by omega, by omega, fun hp => ?_⟩
  obtain ⟨b', off', h4, h5, h6⟩ := h3 (by omega)
  simp only [Option.some.injEq, Addr.mk.injEq] at h4
  obtain ⟨rfl, rfl, -⟩ := h4
  refine ⟨b, off + k * size, rfl, h5, fun i x hx j u hj => ?_⟩
  rw [List.getElem?_drop] at hx
  have := h6 _ x hx j u hj
  rw [show off + k * size + (i * size + j) = off + ((k + i) * size + j) by rw [Nat.add_mul]; omega]
  exact this
end Go.Proofs.Ytpnlhnhjedopgaa
end

section
/- conf.Check in the model. Written by a small program of mine (genconfb.py). -/
set_option maxRecDepth 100000
set_option linter.unusedSimpArgs false
namespace Go.Proofs.Ytpnlhnhjedopgaa
open Go Go.RowKit Go.Shelf Go.Proofs
attribute [local go_sem] Oper.semAt_some

/-- a configuration's numbers, in order -/
structure Cnf where
  n0 : Int
  n1 : Int
  n2 : Int
  n3 : Int
  n4 : Int
  n5 : Int
  n6 : Int
  n7 : Int
  n8 : Int
def Cnf.l (c : Cnf) : List Int := [c.n0, c.n1, c.n2, c.n3, c.n4, c.n5, c.n6, c.n7, c.n8]
def Cnf.arr (c : Cnf) : Array Value := #[.int .i64 c.n0, .int .i64 c.n1, .int .i64 c.n2, .int .i64 c.n3, .int .i64 c.n4, .int .i64 c.n5, .int .i64 c.n6, .int .i64 c.n7, .int .i64 c.n8]
theorem Cnf.at (c : Cnf) {i : Nat} (h : i < 9) : c.arr[i]? = some (.int .i64 (c.l[i]?.getD 0)) := by
  have : i = 0 ∨ i = 1 ∨ i = 2 ∨ i = 3 ∨ i = 4 ∨ i = 5 ∨ i = 6 ∨ i = 7 ∨ i = 8 := by omega
  rcases this with rfl | rfl | rfl | rfl | rfl | rfl | rfl | rfl | rfl <;> rfl
def goodI (c : Cnf) (i : Fin 9) : Prop := leastL[i.val]?.getD 0 ≤ c.l[i.val]?.getD 0 ∧ c.l[i.val]?.getD 0 ≤ mostL[i.val]?.getD 0
instance (c : Cnf) (i : Fin 9) : Decidable (goodI c i) := inferInstanceAs (Decidable (_ ∧ _))
def goodC (c : Cnf) : Bool := nines.all fun i => decide (goodI c i)
/-- a block of the call's own -/
def BlkIs (W : World) (B : Nat) (us : Array Value) : Prop := ∃ T0, W.heap[B]? = some (.cells us T0 (0, 0))
theorem BlkIs.lt {W : World} {B : Nat} {us : Array Value} (h : BlkIs W B us) : B < W.heap.size := by
  obtain ⟨T0, h⟩ := h
  exact (Array.getElem?_eq_some_iff.1 h).1
theorem BlkIs.cell {W : World} {B : Nat} {us : Array Value} (h : BlkIs W B us) (i : Nat) : W.cell? ⟨B, i, none⟩ = us[i]? := by
  obtain ⟨T0, h⟩ := h
  simp [World.cell?, h]
theorem BlkIs.free {W : World} {B : Nat} {us : Array Value} (h : BlkIs W B us) (i : Nat) : W.frozen? ⟨B, i, none⟩ = false := by
  obtain ⟨T0, h⟩ := h
  exact blk_free h i
theorem BlkIs.own {β : Type} (B : Nat) (f : β → Array Value) : Go.Own (fun s W => BlkIs W B (f s)) := fun s X Y row hs hg hr => by
  obtain ⟨T0, h⟩ := hs
  exact ⟨T0, (grownBy_keeps_cells hg hr h rfl).trans h⟩
theorem BlkIs.alloc {W : World} {B : Nat} {us : Array Value} (h : BlkIs W B us) (o : Obj) : BlkIs (W.alloc o) B us := by
  obtain ⟨T0, h⟩ := h
  exact ⟨T0, blk_alloc h⟩
theorem BlkIs.up {W W' : World} {B : Nat} {us : Array Value} (h : BlkIs W B us) (hu : Up W W') : BlkIs W' B us := by
  have := h.lt
  obtain ⟨T0, h⟩ := h
  exact ⟨T0, (hu.block this).trans h⟩
theorem BlkIs.set {W : World} {B : Nat} {us : Array Value} (h : BlkIs W B us) (i : Nat) (v : Value) : BlkIs (W.setCell ⟨B, i, none⟩ v) B (us.setIfInBounds i v) := by
  obtain ⟨T0, h⟩ := h
  exact ⟨T0, blk_set h i v⟩
theorem BlkIs.other {W : World} {B : Nat} {us : Array Value} (h : BlkIs W B us) {b i : Nat} (v : Value) (hb : B ≠ b) : BlkIs (W.setCell ⟨b, i, none⟩ v) B us := by
  obtain ⟨T0, h⟩ := h
  exact ⟨T0, blk_ne h hb v⟩
theorem not_out {P : Program} {α : Type} {B : Nat} {Kp : World → World → Prop} {I : List α → World → Prop} {Ix : Code → List α → World → Prop} {xs : List α} {W : World} {F : Fence} {n : Nat} {c : Code} {k : Nat} :
    ¬ LetsOut (Exit.then (c.wpIn F n P (Exit.inBlock k (ownPostG B Kp I Ix xs W))) (Exit.inBlock k (ownPostG B Kp I Ix xs W))) := by
  rintro ⟨a, w, h⟩
  exact h

set_option maxHeartbeats 8000000 in
theorem confcheck_any (c : Cnf) (w : World) : Calls Try.prog 120 #[.agg c.arr] w (Gives w (.int .i64 (if goodC c then 0 else 1))) := by
  refine (callsIn_wide (n := 9)).1 ?_
  refine callsIn_of_wp_marks Try.func120 rfl trivial ?_ rfl
  simp only [Try.ntmps120, List.size_toArray, List.length_cons, List.length_nil, Nat.reduceAdd, Nat.reduceSub, Array.replicate_succ, Array.replicate_zero, List.push_toArray, List.append_toArray, List.nil_append, List.cons_append]
  obtain ⟨arr, harr⟩ : ∃ arr, c.arr = arr := ⟨_, rfl⟩
  have hat : ∀ i, i < 9 → arr[i]? = some (.int .i64 (c.l[i]?.getD 0)) := fun i hi => by rw [← harr]; exact c.at hi
  rw [harr]
  clear harr
  obtain ⟨r, hr⟩ : ∃ r : Int, r = (if goodC c then 0 else 1) := ⟨_, rfl⟩
  have HR := Lib.hid hr
  rw [← hr]
  clear hr
  gi_wp2_with (refine ⟨trivial, ?_⟩; gi_at_call 142; refine (callsIn_wide.2 (places_w _ _)).mono ?_; rintro e w1 ⟨A, T0, rfl, hA, hAl, hu⟩)
  have hu1 : Up w w1 := (((Up.refl w).alloc _).alloc _).trans hu
  have bC0 : BlkIs (w.alloc (.cells arr 24)) w.heap.size arr := ⟨_, blk_new w _⟩
  have bC : BlkIs w1 w.heap.size arr := (bC0.alloc _).up hu
  have bR0 : BlkIs ((w.alloc (.cells arr 24)).alloc (.cells #[.int .i64 0] 27)) (w.heap.size + 1) #[.int .i64 0] := ⟨_, blk_new' (by simp)⟩
  have bR : BlkIs w1 (w.heap.size + 1) #[.int .i64 0] := bR0.up hu
  have hsz : w.heap.size + 2 ≤ w1.heap.size := by have := hu.size; simp at this; omega
  clear hu
  refine wpIn_rangeFunc_ownH rfl (by omega) (gf := 158) (lb := #[.pointer (some ⟨A, 0, none⟩)]) rfl trivial (enters_of Try.func158 (by kernel_rfl) rfl)
    (places_stops 8 w.heap.size A T0 w1 hA) (fun _ _ => trivial) (fun _ _ _ _ _ _ _ _ => trivial) (Below.refl _ _) (fun _ => rfl)
    (fun pre W => ((BlkIs W w.heap.size arr ∧ BlkIs W (w.heap.size + 1) #[.int .i64 0]) ∧ ∀ i ∈ pre, goodI c i) ∧ Below w.heap.size w W)
    (fun q pre W => (q = .ret ∧ BlkIs W (w.heap.size + 1) #[.int .i64 1] ∧ ∃ i ∈ pre, ¬ goodI c i) ∧ Below w.heap.size w W)
    (OwnFrom.and (OwnFrom.and (OwnFrom.and (Go.Own.from (BlkIs.own _ (fun _ => arr)) _) (Go.Own.from (BlkIs.own _ (fun _ => #[.int .i64 0])) _)) (fun _ _ _ _ h _ _ => h)) (ownFrom_below (Nat.le_refl _) (by omega)))
    (fun q => OwnFrom.and (fun s X Y row h hg hr => ⟨h.1, Go.Own.from (BlkIs.own (β := Unit) (w.heap.size + 1) (fun _ => #[.int .i64 1])) _ () X Y row h.2.1 hg hr, h.2.2⟩) (ownFrom_below (Nat.le_refl _) (by omega)))
    ⟨⟨⟨bC, bR⟩, fun i hi => by cases hi⟩, hu1⟩
    (fun x a' W => ∃ Bx, w.heap.size + 1 < Bx ∧ BlkIs W Bx #[.pointer (some ⟨w.heap.size, x.val, none⟩), .int .i64 (leastL[x.val]?.getD 0), .int .i64 (mostL[x.val]?.getD 0)] ∧ a' = { tmps := #[.agg arr, .pointer (some ⟨w.heap.size, 0, none⟩), .pointer (some ⟨w.heap.size + 1, 0, none⟩), undef, .pointer (some ⟨Bx, 0, none⟩), .func (.func 158) #[] #[.pointer (some ⟨A, 0, none⟩)], .int .i64 (x.val : Nat), .agg #[.pointer (some ⟨w.heap.size, x.val, none⟩), .int .i64 (leastL[x.val]?.getD 0), .int .i64 (mostL[x.val]?.getD 0)], undef, undef, undef, undef, undef, undef, undef, undef, undef, undef, undef, undef, undef, undef, undef, undef], defers := [] })
    (fun x a' _ X Y row hs hg hr => by obtain ⟨Bx, h1, h2, h3⟩ := hs; exact ⟨Bx, h1, BlkIs.own (β := Unit) Bx (fun _ => _) () _ _ row h2 hg (fun r e => (hr r e).2), h3⟩)
    ?assign ?body ?done ?stop
  case assign =>
    rintro l pre x W K ⟨⟨⟨bC1, bR1⟩, hg⟩, hB1⟩ hK
    dsimp only [plEnc]
    gi_wp2
    exact hK _ _ ((KeepsOthers.alloc _ _).from _) trivial ⟨⟨⟨bC1.alloc _, bR1.alloc _⟩, hg⟩, hB1.alloc hB1.size _⟩ ⟨W.heap.size, bR1.lt, ⟨_, blk_new _ _⟩, rfl⟩
  case body =>
    rintro l pre x a' W hl ⟨rr, hrr⟩ ⟨⟨⟨bC1, bR1⟩, hg⟩, hB1⟩ ⟨Bx, hBx, bX, rfl⟩ hlt
    have hgd : goodI c x ↔ leastL[x.val]?.getD 0 ≤ c.l[x.val]?.getD 0 ∧ c.l[x.val]?.getD 0 ≤ mostL[x.val]?.getD 0 := Iff.rfl
    have x0 : W.drew.cell? ⟨Bx, 0, none⟩ = some (.pointer (some ⟨w.heap.size, x.val, none⟩)) := (bX.cell 0).trans rfl
    have x1 : W.drew.cell? ⟨Bx, 1, none⟩ = some (.int .i64 (leastL[x.val]?.getD 0)) := (bX.cell 1).trans rfl
    have x2 : W.drew.cell? ⟨Bx, 2, none⟩ = some (.int .i64 (mostL[x.val]?.getD 0)) := (bX.cell 2).trans rfl
    have x3 : W.drew.cell? ⟨w.heap.size, x.val, none⟩ = some (.int .i64 (c.l[x.val]?.getD 0)) := (bC1.cell x.val).trans (hat _ x.isLt)
    have cR : W.drew.cell? ⟨w.heap.size + 1, 0, none⟩ = some (.int .i64 0) := (bR1.cell 0).trans rfl
    have fR : W.drew.frozen? ⟨w.heap.size + 1, 0, none⟩ = false := bR1.free 0
    have hlW := bR1.lt
    have hall : ∀ y ∈ pre ++ [x], y ∈ pre ∨ y = x := fun y hy => by simpa using hy
    generalize leastL[x.val]?.getD 0 = lo at *
    generalize mostL[x.val]?.getD 0 = hi at *
    generalize c.l[x.val]?.getD 0 = v at *
    have HG := Lib.hid hgd
    have HP := Lib.hid hg
    have HA := Lib.hid hall
    clear hgd hg hall hat
    refine wpIn_block ?_
    refine wpIn_seq ?_
    refine region_held_in (S := fun w' => w' = W.drew ∧ True) (by kernel_rfl) (by kernel_rfl) not_out ⟨rfl, trivial⟩ fun hS => ?_
    refine wpAnyH_take (i := 0) (oi := { dst := some 8, op := _, type := _, pos := _, after := _, guard := _ }) (v := .pointer (some ⟨Bx, 0, none⟩)) rfl (by kernel_rfl) (by kernel_rfl) (by kernel_rfl) (fun _ _ _ h => h) (.inl ⟨rfl, fun w' hw' => ?_⟩) (by assumption) ?_
    · obtain ⟨rfl, -⟩ := hw'; go_simp
    simp only [Act.put, List.setIfInBounds_toArray, List.set_cons_zero, List.set_cons_succ]
    refine wpAnyH_take (i := 1) (oi := { dst := some 9, op := _, type := _, pos := _, after := _, guard := _ }) (v := .pointer (some ⟨w.heap.size, x.val, none⟩)) rfl (by kernel_rfl) (by kernel_rfl) (by kernel_rfl) (fun _ _ _ h => h) (.inl ⟨rfl, fun w' hw' => ?_⟩) (by assumption) ?_
    · obtain ⟨rfl, -⟩ := hw'; go_simp
    simp only [Act.put, List.setIfInBounds_toArray, List.set_cons_zero, List.set_cons_succ]
    refine wpAnyH_take (i := 2) (oi := { dst := some 10, op := _, type := _, pos := _, after := _, guard := _ }) (v := .pointer (some ⟨w.heap.size, x.val, none⟩)) rfl (by kernel_rfl) (by kernel_rfl) (by kernel_rfl) (fun _ _ _ h => h) (.inl ⟨rfl, fun w' hw' => ?_⟩) (by assumption) ?_
    · obtain ⟨rfl, -⟩ := hw'; go_simp
    simp only [Act.put, List.setIfInBounds_toArray, List.set_cons_zero, List.set_cons_succ]
    refine wpAnyH_take (i := 3) (oi := { dst := some 11, op := _, type := _, pos := _, after := _, guard := _ }) (v := .int .i64 v) rfl (by kernel_rfl) (by kernel_rfl) (by kernel_rfl) (fun _ _ _ h => h) (.inl ⟨rfl, fun w' hw' => ?_⟩) (by assumption) ?_
    · obtain ⟨rfl, -⟩ := hw'; go_simp
    simp only [Act.put, List.setIfInBounds_toArray, List.set_cons_zero, List.set_cons_succ]
    refine wpAnyH_take (i := 4) (oi := { dst := some 12, op := _, type := _, pos := _, after := _, guard := _ }) (v := .pointer (some ⟨Bx, 1, none⟩)) rfl (by kernel_rfl) (by kernel_rfl) (by kernel_rfl) (fun _ _ _ h => h) (.inl ⟨rfl, fun w' hw' => ?_⟩) (by assumption) ?_
    · obtain ⟨rfl, -⟩ := hw'; go_simp
    simp only [Act.put, List.setIfInBounds_toArray, List.set_cons_zero, List.set_cons_succ]
    refine wpAnyH_take (i := 5) (oi := { dst := some 13, op := _, type := _, pos := _, after := _, guard := _ }) (v := .int .i64 lo) rfl (by kernel_rfl) (by kernel_rfl) (by kernel_rfl) (fun _ _ _ h => h) (.inl ⟨rfl, fun w' hw' => ?_⟩) (by assumption) ?_
    · obtain ⟨rfl, -⟩ := hw'; go_simp
    simp only [Act.put, List.setIfInBounds_toArray, List.set_cons_zero, List.set_cons_succ]
    by_cases h1 : v < lo
    · have d1 : decide (v < lo) = true := by simpa using h1
      refine wpAnyH_take (i := 6) (oi := { dst := some 14, op := _, type := _, pos := _, after := _, guard := _ }) (v := .bool true) rfl (by kernel_rfl) (by kernel_rfl) (by kernel_rfl) (fun _ _ _ h => h) (.inl ⟨rfl, fun w' hw' => ?_⟩) (by assumption) ?_
      · obtain ⟨rfl, -⟩ := hw'; go_simp
      simp only [Act.put, List.setIfInBounds_toArray, List.set_cons_zero, List.set_cons_succ]
      refine wpAnyH_take (i := 7) (oi := { dst := some 15, op := _, type := _, pos := _, after := _, guard := _ }) (v := .bool true) rfl (by kernel_rfl) (by kernel_rfl) (by kernel_rfl) (fun _ _ _ h => h) (.inl ⟨rfl, fun w' hw' => ?_⟩) (by assumption) ?_
      · obtain ⟨rfl, -⟩ := hw'; go_simp
      simp only [Act.put, List.setIfInBounds_toArray, List.set_cons_zero, List.set_cons_succ]
      refine wpAnyH_take (i := 8) (oi := { dst := some 16, op := _, type := _, pos := _, after := _, guard := _ }) (v := undef) rfl (by kernel_rfl) (by kernel_rfl) (by kernel_rfl) (fun _ _ _ h => h) (.inr ⟨rfl, rfl⟩) (by assumption) ?_
      simp only [Act.put, List.setIfInBounds_toArray, List.set_cons_zero, List.set_cons_succ]
      refine wpAnyH_take (i := 9) (oi := { dst := some 17, op := _, type := _, pos := _, after := _, guard := _ }) (v := undef) rfl (by kernel_rfl) (by kernel_rfl) (by kernel_rfl) (fun _ _ _ h => h) (.inr ⟨rfl, rfl⟩) (by assumption) ?_
      simp only [Act.put, List.setIfInBounds_toArray, List.set_cons_zero, List.set_cons_succ]
      refine wpAnyH_take (i := 10) (oi := { dst := some 18, op := _, type := _, pos := _, after := _, guard := _ }) (v := undef) rfl (by kernel_rfl) (by kernel_rfl) (by kernel_rfl) (fun _ _ _ h => h) (.inr ⟨rfl, rfl⟩) (by assumption) ?_
      simp only [Act.put, List.setIfInBounds_toArray, List.set_cons_zero, List.set_cons_succ]
      refine wpAnyH_take (i := 11) (oi := { dst := some 19, op := _, type := _, pos := _, after := _, guard := _ }) (v := undef) rfl (by kernel_rfl) (by kernel_rfl) (by kernel_rfl) (fun _ _ _ h => h) (.inr ⟨rfl, rfl⟩) (by assumption) ?_
      simp only [Act.put, List.setIfInBounds_toArray, List.set_cons_zero, List.set_cons_succ]
      refine wpAnyH_take (i := 12) (oi := { dst := some 20, op := _, type := _, pos := _, after := _, guard := _ }) (v := undef) rfl (by kernel_rfl) (by kernel_rfl) (by kernel_rfl) (fun _ _ _ h => h) (.inr ⟨rfl, rfl⟩) (by assumption) ?_
      simp only [Act.put, List.setIfInBounds_toArray, List.set_cons_zero, List.set_cons_succ]
      refine wpAnyH_take (i := 13) (oi := { dst := some 21, op := _, type := _, pos := _, after := _, guard := _ }) (v := undef) rfl (by kernel_rfl) (by kernel_rfl) (by kernel_rfl) (fun _ _ _ h => h) (.inr ⟨rfl, rfl⟩) (by assumption) ?_
      simp only [Act.put, List.setIfInBounds_toArray, List.set_cons_zero, List.set_cons_succ]
      refine wpAnyH_take (i := 14) (oi := { dst := some 22, op := _, type := _, pos := _, after := _, guard := _ }) (v := undef) rfl (by kernel_rfl) (by kernel_rfl) (by kernel_rfl) (fun _ _ _ h => h) (.inr ⟨rfl, rfl⟩) (by assumption) ?_
      simp only [Act.put, List.setIfInBounds_toArray, List.set_cons_zero, List.set_cons_succ]
      refine wpAnyH_take (i := 15) (oi := { dst := some 23, op := _, type := _, pos := _, after := _, guard := _ }) (v := .bool true) rfl (by kernel_rfl) (by kernel_rfl) (by kernel_rfl) (fun _ _ _ h => h) (.inl ⟨rfl, fun w' hw' => ?_⟩) (by assumption) ?_
      · obtain ⟨rfl, -⟩ := hw'; go_simp
      simp only [Act.put, List.setIfInBounds_toArray, List.set_cons_zero, List.set_cons_succ]
      refine wpAnyH_done (by kernel_rfl) ?_ _
      gi_wp2
      exact ⟨((KeepsOthers.drew W).trans (KeepsOthers.setCell _ _ _)).from _, ⟨rfl, (show BlkIs W.drew _ _ from bR1).set 0 _, x, by simp, fun hg => by have := HG.out.1 hg; omega⟩, (hB1.drew).setCell (p := ⟨w.heap.size + 1, 0, none⟩) (by simp) _⟩
    · have d1 : decide (v < lo) = false := by simpa using h1
      refine wpAnyH_take (i := 6) (oi := { dst := some 14, op := _, type := _, pos := _, after := _, guard := _ }) (v := .bool false) rfl (by kernel_rfl) (by kernel_rfl) (by kernel_rfl) (fun _ _ _ h => h) (.inl ⟨rfl, fun w' hw' => ?_⟩) (by assumption) ?_
      · obtain ⟨rfl, -⟩ := hw'; go_simp
      simp only [Act.put, List.setIfInBounds_toArray, List.set_cons_zero, List.set_cons_succ]
      refine wpAnyH_take (i := 7) (oi := { dst := some 15, op := _, type := _, pos := _, after := _, guard := _ }) (v := .bool false) rfl (by kernel_rfl) (by kernel_rfl) (by kernel_rfl) (fun _ _ _ h => h) (.inl ⟨rfl, fun w' hw' => ?_⟩) (by assumption) ?_
      · obtain ⟨rfl, -⟩ := hw'; go_simp
      simp only [Act.put, List.setIfInBounds_toArray, List.set_cons_zero, List.set_cons_succ]
      refine wpAnyH_take (i := 8) (oi := { dst := some 16, op := _, type := _, pos := _, after := _, guard := _ }) (v := .pointer (some ⟨Bx, 0, none⟩)) rfl (by kernel_rfl) (by kernel_rfl) (by kernel_rfl) (fun _ _ _ h => h) (.inl ⟨rfl, fun w' hw' => ?_⟩) (by assumption) ?_
      · obtain ⟨rfl, -⟩ := hw'; go_simp
      simp only [Act.put, List.setIfInBounds_toArray, List.set_cons_zero, List.set_cons_succ]
      refine wpAnyH_take (i := 9) (oi := { dst := some 17, op := _, type := _, pos := _, after := _, guard := _ }) (v := .pointer (some ⟨w.heap.size, x.val, none⟩)) rfl (by kernel_rfl) (by kernel_rfl) (by kernel_rfl) (fun _ _ _ h => h) (.inl ⟨rfl, fun w' hw' => ?_⟩) (by assumption) ?_
      · obtain ⟨rfl, -⟩ := hw'; go_simp
      simp only [Act.put, List.setIfInBounds_toArray, List.set_cons_zero, List.set_cons_succ]
      refine wpAnyH_take (i := 10) (oi := { dst := some 18, op := _, type := _, pos := _, after := _, guard := _ }) (v := .pointer (some ⟨w.heap.size, x.val, none⟩)) rfl (by kernel_rfl) (by kernel_rfl) (by kernel_rfl) (fun _ _ _ h => h) (.inl ⟨rfl, fun w' hw' => ?_⟩) (by assumption) ?_
      · obtain ⟨rfl, -⟩ := hw'; go_simp
      simp only [Act.put, List.setIfInBounds_toArray, List.set_cons_zero, List.set_cons_succ]
      refine wpAnyH_take (i := 11) (oi := { dst := some 19, op := _, type := _, pos := _, after := _, guard := _ }) (v := .int .i64 v) rfl (by kernel_rfl) (by kernel_rfl) (by kernel_rfl) (fun _ _ _ h => h) (.inl ⟨rfl, fun w' hw' => ?_⟩) (by assumption) ?_
      · obtain ⟨rfl, -⟩ := hw'; go_simp
      simp only [Act.put, List.setIfInBounds_toArray, List.set_cons_zero, List.set_cons_succ]
      refine wpAnyH_take (i := 12) (oi := { dst := some 20, op := _, type := _, pos := _, after := _, guard := _ }) (v := .pointer (some ⟨Bx, 2, none⟩)) rfl (by kernel_rfl) (by kernel_rfl) (by kernel_rfl) (fun _ _ _ h => h) (.inl ⟨rfl, fun w' hw' => ?_⟩) (by assumption) ?_
      · obtain ⟨rfl, -⟩ := hw'; go_simp
      simp only [Act.put, List.setIfInBounds_toArray, List.set_cons_zero, List.set_cons_succ]
      refine wpAnyH_take (i := 13) (oi := { dst := some 21, op := _, type := _, pos := _, after := _, guard := _ }) (v := .int .i64 hi) rfl (by kernel_rfl) (by kernel_rfl) (by kernel_rfl) (fun _ _ _ h => h) (.inl ⟨rfl, fun w' hw' => ?_⟩) (by assumption) ?_
      · obtain ⟨rfl, -⟩ := hw'; go_simp
      simp only [Act.put, List.setIfInBounds_toArray, List.set_cons_zero, List.set_cons_succ]
      by_cases h2 : v > hi
      · have d2 : decide (v > hi) = true := by simpa using h2
        refine wpAnyH_take (i := 14) (oi := { dst := some 22, op := _, type := _, pos := _, after := _, guard := _ }) (v := .bool true) rfl (by kernel_rfl) (by kernel_rfl) (by kernel_rfl) (fun _ _ _ h => h) (.inl ⟨rfl, fun w' hw' => ?_⟩) (by assumption) ?_
        · obtain ⟨rfl, -⟩ := hw'; go_simp
        simp only [Act.put, List.setIfInBounds_toArray, List.set_cons_zero, List.set_cons_succ]
        refine wpAnyH_take (i := 15) (oi := { dst := some 23, op := _, type := _, pos := _, after := _, guard := _ }) (v := .bool true) rfl (by kernel_rfl) (by kernel_rfl) (by kernel_rfl) (fun _ _ _ h => h) (.inl ⟨rfl, fun w' hw' => ?_⟩) (by assumption) ?_
        · obtain ⟨rfl, -⟩ := hw'; go_simp
        simp only [Act.put, List.setIfInBounds_toArray, List.set_cons_zero, List.set_cons_succ]
        refine wpAnyH_done (by kernel_rfl) ?_ _
        gi_wp2
        exact ⟨((KeepsOthers.drew W).trans (KeepsOthers.setCell _ _ _)).from _, ⟨rfl, (show BlkIs W.drew _ _ from bR1).set 0 _, x, by simp, fun hg => by have := HG.out.1 hg; omega⟩, (hB1.drew).setCell (p := ⟨w.heap.size + 1, 0, none⟩) (by simp) _⟩
      · have d2 : decide (v > hi) = false := by simpa using h2
        refine wpAnyH_take (i := 14) (oi := { dst := some 22, op := _, type := _, pos := _, after := _, guard := _ }) (v := .bool false) rfl (by kernel_rfl) (by kernel_rfl) (by kernel_rfl) (fun _ _ _ h => h) (.inl ⟨rfl, fun w' hw' => ?_⟩) (by assumption) ?_
        · obtain ⟨rfl, -⟩ := hw'; go_simp
        simp only [Act.put, List.setIfInBounds_toArray, List.set_cons_zero, List.set_cons_succ]
        refine wpAnyH_take (i := 15) (oi := { dst := some 23, op := _, type := _, pos := _, after := _, guard := _ }) (v := .bool false) rfl (by kernel_rfl) (by kernel_rfl) (by kernel_rfl) (fun _ _ _ h => h) (.inl ⟨rfl, fun w' hw' => ?_⟩) (by assumption) ?_
        · obtain ⟨rfl, -⟩ := hw'; go_simp
        simp only [Act.put, List.setIfInBounds_toArray, List.set_cons_zero, List.set_cons_succ]
        refine wpAnyH_done (by kernel_rfl) ?_ _
        gi_wp2
        exact ⟨(KeepsOthers.drew W).from _, trivial, ⟨⟨bC1, bR1⟩, fun y hy => by rcases HA.out y hy with h | rfl; exact HP.out y h; exact HG.out.2 (by omega)⟩, hB1.drew⟩
  case done =>
    rintro D xs W hD rfl ⟨⟨⟨bC1, bR1⟩, hg⟩, hB1⟩ hK
    have hr0 : r = 0 := by
      rw [HR.out, if_pos]
      unfold goodC
      rw [List.all_eq_true]
      exact fun i hi => by simpa using hg i hi
    subst hr0
    have cR : W.cell? ⟨w.heap.size + 1, 0, none⟩ = some (.int .i64 0) := (bR1.cell 0).trans rfl
    have fR : W.frozen? ⟨w.heap.size + 1, 0, none⟩ = false := bR1.free 0
    have hDl : D < W.heap.size := (Array.getElem?_eq_some_iff.1 hK).1
    gi_wp2
    have hK2 := (KeepsOthers.setCell W ⟨w.heap.size + 1, 0, none⟩ (.int .i64 0)).same D _ hK rfl
    have cR2 : ((W.setCell ⟨w.heap.size + 1, 0, none⟩ (.int .i64 0)).putObj D (.deferred none)).cell? ⟨w.heap.size + 1, 0, none⟩ = some (.int .i64 0) := cell_kept (((bR1.set 0 (.int .i64 0)).cell 0).trans rfl) (grownBy_putObj' _ D _) (fun r e => by cases e; exact ⟨_, hK2, rfl⟩)
    refine ⟨by simp, .inl ⟨_, _, rfl, run_takeDeferred hK2, .int .i64 0, by simp [results, Try.results120, go_sem, cR2], ?_⟩⟩
    refine Gives.mk rfl ?_
    exact (hB1.setCell (p := ⟨w.heap.size + 1, 0, none⟩) (by simp) _).trans (belowK_b (w := w) (Nat.le_refl _) _ D _ _ (by omega) hK2 rfl rfl)
  case stop =>
    rintro D q pre W hD hpre ⟨⟨rfl, bR1, i, hi, hng⟩, hB1⟩ hK
    have hr1 : r = 1 := by
      rw [HR.out, if_neg]
      intro hall
      unfold goodC at hall
      rw [List.all_eq_true] at hall
      exact hng (by simpa using hall i (hpre.subset hi))
    subst hr1
    have cR : W.cell? ⟨w.heap.size + 1, 0, none⟩ = some (.int .i64 1) := (bR1.cell 0).trans rfl
    gi_wp2
    have cR2 : (W.putObj D (.deferred none)).cell? ⟨w.heap.size + 1, 0, none⟩ = some (.int .i64 1) := cell_kept cR (grownBy_putObj' _ D _) (fun r e => by cases e; exact ⟨_, hK, rfl⟩)
    refine ⟨by simp, .inl ⟨_, _, rfl, run_takeDeferred hK, .int .i64 1, by simp [results, Try.results120, go_sem, cR2], ?_⟩⟩
    refine Gives.mk rfl ?_
    exact hB1.trans (belowK_b (w := w) (Nat.le_refl _) _ D _ _ (by omega) hK rfl rfl)
end Go.Proofs.Ytpnlhnhjedopgaa
end

section
/- conf.List in the model. Written by a small program of mine (genconfc.py). -/
set_option maxRecDepth 100000
set_option linter.unusedSimpArgs false
namespace Go.Proofs.Ytpnlhnhjedopgaa
open Go Go.RowKit Go.Shelf Go.Proofs
attribute [local go_sem] Oper.semAt_some

theorem rowIntC : Row1 Try.prog 142 3 (.int .i64 0) 1 8 := ⟨by kernel_rfl, by kernel_rfl, rfl, by decide⟩
theorem own_stay {X Y : World} {base : Nat} {e : TypeId} {size : Nat} {v : Value} {n : Nat} {xs : List Value} {row : Option Nat} (h : X.ownsRow base e size v n xs) (hg : X.grownBy Y row) (hr : ∀ r, row = some r → ∃ o : Obj, X.heap[r]? = some o ∧ o.isCells = false) : Y.ownsRow base e size v n xs := by
  refine ⟨h.1, ?_⟩
  rcases h.2 with h1 | ⟨g, cap, cur, rfl, hb', hb, r⟩
  · exact .inl h1
  · exact .inr ⟨g, cap, cur, rfl, hb', (grownBy_keeps_cells hg hr hb rfl).trans hb, r⟩
theorem own_cells {X : World} {base : Nat} {e : TypeId} {size : Nat} {v : Value} {n : Nat} {xs : List Value} {k : Nat} {ob : Obj} (h : X.ownsRow base e size v n xs) (hk : some k = v.ownBlock) (ho : X.heap[k]? = some ob) (hc : ob.isCells = false) : False := by
  rcases h.2 with ⟨rfl, -⟩ | ⟨g, cap, cur, rfl, -, hb, -⟩
  · simp [Value.ownBlock] at hk
  · simp only [Value.ownBlock, Option.some.injEq] at hk
    subst hk
    rw [hb] at ho
    cases ho
    cases hc
theorem blk_far {w : World} {g : Nat} {o : Obj} (h : w.heap[g]? = some o) (hc : o.isCells = false) {b i : Nat} (v : Value) : (w.setCell ⟨b, i, none⟩ v).heap[g]? = some o := (KeepsOthers.setCell w ⟨b, i, none⟩ v).same g o h hc
theorem blk_cell2 {w : World} {g : Nat} {us : Array Value} {T : TypeId} {fr : Nat × Nat} (h : w.heap[g]? = some (.cells us T fr)) {i : Nat} {u : Value} (hu : us[i]? = some u) : w.cell? ⟨g, i, none⟩ = some u := by
  simp [World.cell?, h, hu]
set_option maxHeartbeats 8000000 in
theorem conflist_any (c : Cnf) (w : World) : Calls Try.prog 121 #[.agg c.arr] w (fun e w' => ∃ u, e = .returned u ∧ w'.ownsRow w.heap.size 3 1 u 9 (c.l.map fun n => .int .i64 n) ∧ Up w w') := by
  refine (callsIn_wide (n := 9)).1 ?_
  refine callsIn_of_wp_marks Try.func121 rfl trivial ?_ rfl
  simp only [Try.ntmps121, List.size_toArray, List.length_cons, List.length_nil, Nat.reduceAdd, Nat.reduceSub, Array.replicate_succ, Array.replicate_zero, List.push_toArray, List.append_toArray, List.nil_append, List.cons_append]
  obtain ⟨arr, harr⟩ : ∃ arr, c.arr = arr := ⟨_, rfl⟩
  have hat : ∀ i, i < 9 → arr[i]? = some (.int .i64 (c.l[i]?.getD 0)) := fun i hi => by rw [← harr]; exact c.at hi
  rw [harr]
  clear harr
  gi_wp2_with (refine ⟨trivial, ?_⟩; gi_at_call 142; refine (callsIn_wide.2 (places_w _ _)).mono ?_; rintro e w1 ⟨A, T0, rfl, hA, hAl, hu⟩)
  have hu1 : Up w w1 := (((Up.refl w).alloc _).alloc _).trans hu
  have bC0 : BlkIs (w.alloc (.cells arr 24)) w.heap.size arr := ⟨_, blk_new w _⟩
  have bC : BlkIs w1 w.heap.size arr := (bC0.alloc _).up hu
  have bO0 : BlkIs ((w.alloc (.cells arr 24)).alloc (.cells #[.slice none 0 0] 142)) (w.heap.size + 1) #[.slice none 0 0] := ⟨_, blk_new' (by simp)⟩
  have bO : BlkIs w1 (w.heap.size + 1) #[.slice none 0 0] := bO0.up hu
  have hsz : w.heap.size + 2 ≤ w1.heap.size := by have := hu.size; simp at this; omega
  clear hu
  refine wpIn_rangeFunc_ownH rfl (by omega) (gf := 158) (lb := #[.pointer (some ⟨A, 0, none⟩)]) rfl trivial (enters_of Try.func158 (by kernel_rfl) rfl)
    (places_stops 8 w.heap.size A T0 w1 hA) (fun _ _ => trivial) (fun _ _ _ _ _ _ _ _ => trivial) (Below.refl _ _) (fun _ => rfl)
    (fun pre W => (∃ u, (BlkIs W (w.heap.size + 1) #[u] ∧ W.ownsRow (w.heap.size + 2) 3 1 u pre.length (pre.map fun i => .int .i64 (c.l[i.val]?.getD 0))) ∧ BlkIs W w.heap.size arr) ∧ Below w.heap.size w W)
    (fun _ _ _ => False)
    (OwnFrom.and (fun s X Y row hs hg hr => by
      obtain ⟨u, ⟨h1, h2⟩, h3⟩ := hs
      have hr' := fun r e => (hr r e).2
      exact ⟨u, ⟨BlkIs.own (β := Unit) _ (fun _ => #[u]) () _ _ _ h1 hg hr', own_stay h2 hg hr'⟩, BlkIs.own (β := Unit) _ (fun _ => arr) () _ _ _ h3 hg hr'⟩) (ownFrom_below (Nat.le_refl _) (by omega)))
    (fun _ _ _ _ _ hs _ _ => hs)
    ⟨⟨_, ⟨bO, ⟨rfl, .inl ⟨rfl, rfl⟩⟩⟩, bC⟩, hu1⟩
    (fun x a' W => ∃ Bx, w.heap.size + 1 < Bx ∧ W.heap[Bx]? = some (.cells #[.pointer (some ⟨w.heap.size, x.val, none⟩), .int .i64 (leastL[x.val]?.getD 0), .int .i64 (mostL[x.val]?.getD 0)] 224 (0, 0)) ∧ a' = { tmps := #[.agg arr, .pointer (some ⟨w.heap.size, 0, none⟩), .slice none 0 0, .pointer (some ⟨w.heap.size + 1, 0, none⟩), undef, .pointer (some ⟨Bx, 0, none⟩), .func (.func 158) #[] #[.pointer (some ⟨A, 0, none⟩)], .int .i64 (x.val : Nat), .agg #[.pointer (some ⟨w.heap.size, x.val, none⟩), .int .i64 (leastL[x.val]?.getD 0), .int .i64 (mostL[x.val]?.getD 0)], undef, undef, undef, undef, undef, undef, undef, undef], defers := [] })
    (fun x a' _ X Y row hs hg hr => by obtain ⟨Bx, h1, h2, h3⟩ := hs; exact ⟨Bx, h1, (grownBy_keeps_cells hg (fun r e => (hr r e).2) h2 rfl).trans h2, h3⟩)
    ?assign ?body ?done ?stop
  case assign =>
    rintro l pre x W K ⟨⟨u, ⟨bO1, hO⟩, bC1⟩, hB1⟩ hK
    dsimp only [plEnc]
    gi_wp2
    exact hK _ _ ((KeepsOthers.alloc _ _).from _) trivial ⟨⟨u, ⟨bO1.alloc _, hO.alloc _⟩, bC1.alloc _⟩, hB1.alloc hB1.size _⟩ ⟨W.heap.size, bO1.lt, blk_new _ _, rfl⟩
  case body =>
    rintro l pre x a' W hl ⟨rr, hrr⟩ ⟨⟨u, ⟨⟨TO, bO1⟩, hO⟩, ⟨TC, bC1⟩⟩, hB1⟩ ⟨Bx, hBx, bX, rfl⟩ hlt
    have hOd : W.drew.heap[w.heap.size + 1]? = some (.cells #[u] TO (0, 0)) := bO1
    have hCd : W.drew.heap[w.heap.size]? = some (.cells arr TC (0, 0)) := bC1
    have bXd : W.drew.heap[Bx]? = some (.cells #[.pointer (some ⟨w.heap.size, x.val, none⟩), .int .i64 (leastL[x.val]?.getD 0), .int .i64 (mostL[x.val]?.getD 0)] 224 (0, 0)) := bX
    have bCd : BlkIs W.drew w.heap.size arr := ⟨_, hCd⟩
    have hne : some Bx ≠ u.ownBlock := own_not hO bX (by decide)
    have hneC : some w.heap.size ≠ u.ownBlock := fun e => by have := (hO.lt _ e.symm).1; omega
    have hneO : some (w.heap.size + 1) ≠ u.ownBlock := fun e => by have := (hO.lt _ e.symm).1; omega
    have cO : W.drew.cell? ⟨w.heap.size + 1, 0, none⟩ = some u := blk_cell hOd 0
    have cO2 : ∀ ob, ((W.alloc ob).drew).cell? ⟨w.heap.size + 1, 0, none⟩ = some u := fun ob => blk_cell (w := W.drew.alloc ob) (blk_alloc hOd) 0
    have hlW := blk_lt bO1
    have hxv := hat x.val x.isLt
    generalize hv : c.l[x.val]?.getD 0 = v at *
    refine wpIn_block ?_
    refine region_held_in (S := fun w' => w'.cell? ⟨Bx, 0, none⟩ = some (.pointer (some ⟨w.heap.size, x.val, none⟩)) ∧ w'.cell? ⟨w.heap.size, x.val, none⟩ = some (.int .i64 v)) (by kernel_rfl) (by kernel_rfl) (by rintro ⟨a, w, h⟩; exact h) ⟨(blk_cell bXd 0).trans rfl, blk_cell2 hCd hxv⟩ fun hS => ?_
    refine wpAnyH_take (i := 1) (oi := { dst := some 10, op := _, type := _, pos := _, after := _, guard := _ }) (v := .pointer (some ⟨Bx, 0, none⟩)) rfl (by kernel_rfl) (by kernel_rfl) (by kernel_rfl) (fun _ _ _ h => h) (.inl ⟨rfl, fun w' hw' => ?_⟩) (by assumption) ?_
    · have hc0 := hw'.1; have hc1 := hw'.2; clear hw'; go_simp
    simp only [Act.put, List.setIfInBounds_toArray, List.set_cons_zero, List.set_cons_succ]
    refine wpAnyH_take (i := 2) (oi := { dst := some 11, op := _, type := _, pos := _, after := _, guard := _ }) (v := .pointer (some ⟨w.heap.size, x.val, none⟩)) rfl (by kernel_rfl) (by kernel_rfl) (by kernel_rfl) (fun _ _ _ h => h) (.inl ⟨rfl, fun w' hw' => ?_⟩) (by assumption) ?_
    · have hc0 := hw'.1; have hc1 := hw'.2; clear hw'; go_simp
    simp only [Act.put, List.setIfInBounds_toArray, List.set_cons_zero, List.set_cons_succ]
    refine wpAnyH_take (i := 3) (oi := { dst := some 12, op := _, type := _, pos := _, after := _, guard := _ }) (v := .pointer (some ⟨w.heap.size, x.val, none⟩)) rfl (by kernel_rfl) (by kernel_rfl) (by kernel_rfl) (fun _ _ _ h => h) (.inl ⟨rfl, fun w' hw' => ?_⟩) (by assumption) ?_
    · have hc0 := hw'.1; have hc1 := hw'.2; clear hw'; go_simp
    simp only [Act.put, List.setIfInBounds_toArray, List.set_cons_zero, List.set_cons_succ]
    refine wpAnyH_take (i := 4) (oi := { dst := some 13, op := _, type := _, pos := _, after := _, guard := _ }) (v := .int .i64 v) rfl (by kernel_rfl) (by kernel_rfl) (by kernel_rfl) (fun _ _ _ h => h) (.inl ⟨rfl, fun w' hw' => ?_⟩) (by assumption) ?_
    · have hc0 := hw'.1; have hc1 := hw'.2; clear hw'; go_simp
    simp only [Act.put, List.setIfInBounds_toArray, List.set_cons_zero, List.set_cons_succ]
    refine wpAnyH_ready (rs := [0, 5]) (by kernel_rfl) (by simp) (.cons rfl (fun K' hK => ?_) (.cons rfl (fun K2 hK2 => ?_) .nil))
    · refine step_go rfl ?_
      go_simp
      refine hK.out _ _ (by assumption) fun hS1 => ?_
      refine wpAnyH_ready (rs := [5]) (by kernel_rfl) (by simp) (.cons rfl (fun K' hK => ?_) .nil)
      refine step_go rfl ?_
      go_simp
      refine hK.out _ _ ⟨(blk_cell (blk_alloc bXd) 0).trans rfl, (bCd.alloc _).cell x.val |>.trans hxv⟩ fun hS1 => ?_
      refine wpAnyH_ready (rs := [6]) (by kernel_rfl) (by simp) (.cons rfl (fun K' hK => ?_) .nil)
      refine step_app rfl (.tmp 9) (.tmp 14) 142 3 rfl rowIntC (base := w.heap.size + 2) (by simp; omega) (v := u) (n := pre.length) (xs := pre.map fun (i : Fin 9) => Value.int .i64 (c.l[i.val]?.getD 0)) (by rfl) (by first | exact (own_drew hO).alloc _ | exact own_drew (hO.alloc _)) W.heap.size #[.int .i64 v] (by rfl) rfl (T := 3) (blk_new' rfl) (by simp [Value.oneCell']) (by unfold maxLen; omega) (by omega) fun u2 wA hoA => ?_
      refine hK.out _ _ ⟨(blk_cell (hoA.blocks _ _ (blk_alloc bXd) hne) 0).trans rfl, blk_cell2 (hoA.blocks _ _ (blk_alloc hCd) hneC) hxv⟩ fun hS2 => ?_
      simp only [Act.put, List.setIfInBounds_toArray, List.set_cons_zero, List.set_cons_succ]
      refine wpAnyH_ready (rs := [7]) (by kernel_rfl) (by simp) (.cons rfl (fun K' hK => ?_) .nil)
      have oA := hoA.blocks _ _ (blk_alloc hOd) hneO
      have cO : wA.cell? ⟨w.heap.size + 1, 0, none⟩ = some u := blk_cell oA 0
      have fO : wA.frozen? ⟨w.heap.size + 1, 0, none⟩ = false := blk_free oA 0
      have hzA := hoA.size
      obtain ⟨pz, cz, rfl, hnz, hmz⟩ := own_slice hoA.own
      refine step_go rfl ?_
      go_simp
      refine hK.out _ _ ⟨?_, ?_⟩ fun hS3 => ?_
      · exact (blk_cell (blk_ne (hoA.blocks _ _ (blk_alloc bXd) hne) (by omega) _) 0).trans rfl
      · exact blk_cell2 (blk_ne (hoA.blocks _ _ (blk_alloc hCd) hneC) (by omega) _) hxv
      refine wpAnyH_done (by kernel_rfl) ?_ _
      gi_wp2
      refine ⟨?_, trivial, ⟨⟨.slice pz (pre.length + 1) cz, ⟨TO, ?_⟩, ?_⟩, ⟨TC, ?_⟩⟩, ?_⟩
      · refine ⟨by simp at hzA ⊢; omega, fun k ob hk hob hoc => ?_⟩
        refine blk_far ?_ hoc _
        refine hoA.blocks _ _ (blk_alloc hob) fun e => ?_
        exact own_cells hO e hob hoc
      · exact blk_set oA 0 _
      · have h1 := ownsRow_setCell_below hoA.own (a := ⟨w.heap.size + 1, 0, none⟩) (Nat.lt_succ_self _) (.slice pz (pre.length + 1) cz)
        rw [List.map_append, List.length_append]
        simp only [List.map_cons, List.map_nil, hv]
        exact h1
      · exact blk_ne (hoA.blocks _ _ (blk_alloc hCd) hneC) (by omega) _
      · exact (hoA.up w (by omega) ((hB1.drew).alloc hB1.size _)).setCell (p := ⟨w.heap.size + 1, 0, none⟩) (by simp) _
    · refine step_go rfl ?_
      go_simp
      refine hK2.out _ _ ⟨(blk_cell (blk_alloc bXd) 0).trans rfl, (bCd.alloc _).cell x.val |>.trans hxv⟩ fun hS1 => ?_
      refine wpAnyH_ready (rs := [0]) (by kernel_rfl) (by simp) (.cons rfl (fun K' hK => ?_) .nil)
      refine step_go rfl ?_
      go_simp
      refine hK.out _ _ (by assumption) fun hS1 => ?_
      refine wpAnyH_ready (rs := [6]) (by kernel_rfl) (by simp) (.cons rfl (fun K' hK => ?_) .nil)
      refine step_app rfl (.tmp 9) (.tmp 14) 142 3 rfl rowIntC (base := w.heap.size + 2) (by simp; omega) (v := u) (n := pre.length) (xs := pre.map fun (i : Fin 9) => Value.int .i64 (c.l[i.val]?.getD 0)) (by rfl) (by first | exact (own_drew hO).alloc _ | exact own_drew (hO.alloc _)) W.heap.size #[.int .i64 v] (by rfl) rfl (T := 3) (blk_new' rfl) (by simp [Value.oneCell']) (by unfold maxLen; omega) (by omega) fun u2 wA hoA => ?_
      refine hK.out _ _ ⟨(blk_cell (hoA.blocks _ _ (blk_alloc bXd) hne) 0).trans rfl, blk_cell2 (hoA.blocks _ _ (blk_alloc hCd) hneC) hxv⟩ fun hS2 => ?_
      simp only [Act.put, List.setIfInBounds_toArray, List.set_cons_zero, List.set_cons_succ]
      refine wpAnyH_ready (rs := [7]) (by kernel_rfl) (by simp) (.cons rfl (fun K' hK => ?_) .nil)
      have oA := hoA.blocks _ _ (blk_alloc hOd) hneO
      have cO : wA.cell? ⟨w.heap.size + 1, 0, none⟩ = some u := blk_cell oA 0
      have fO : wA.frozen? ⟨w.heap.size + 1, 0, none⟩ = false := blk_free oA 0
      have hzA := hoA.size
      obtain ⟨pz, cz, rfl, hnz, hmz⟩ := own_slice hoA.own
      refine step_go rfl ?_
      go_simp
      refine hK.out _ _ ⟨?_, ?_⟩ fun hS3 => ?_
      · exact (blk_cell (blk_ne (hoA.blocks _ _ (blk_alloc bXd) hne) (by omega) _) 0).trans rfl
      · exact blk_cell2 (blk_ne (hoA.blocks _ _ (blk_alloc hCd) hneC) (by omega) _) hxv
      refine wpAnyH_done (by kernel_rfl) ?_ _
      gi_wp2
      refine ⟨?_, trivial, ⟨⟨.slice pz (pre.length + 1) cz, ⟨TO, ?_⟩, ?_⟩, ⟨TC, ?_⟩⟩, ?_⟩
      · refine ⟨by simp at hzA ⊢; omega, fun k ob hk hob hoc => ?_⟩
        refine blk_far ?_ hoc _
        refine hoA.blocks _ _ (blk_alloc hob) fun e => ?_
        exact own_cells hO e hob hoc
      · exact blk_set oA 0 _
      · have h1 := ownsRow_setCell_below hoA.own (a := ⟨w.heap.size + 1, 0, none⟩) (Nat.lt_succ_self _) (.slice pz (pre.length + 1) cz)
        rw [List.map_append, List.length_append]
        simp only [List.map_cons, List.map_nil, hv]
        exact h1
      · exact blk_ne (hoA.blocks _ _ (blk_alloc hCd) hneC) (by omega) _
      · exact (hoA.up w (by omega) ((hB1.drew).alloc hB1.size _)).setCell (p := ⟨w.heap.size + 1, 0, none⟩) (by simp) _
  case done =>
    rintro D xs W hD rfl ⟨⟨u, ⟨bO1, hO⟩, bC1⟩, hB1⟩ hK
    have cO : W.cell? ⟨w.heap.size + 1, 0, none⟩ = some u := (bO1.cell 0).trans rfl
    gi_wp2
    refine ⟨by simp, .inl ⟨_, _, rfl, run_takeDeferred hK, u, by simp [results, Try.results121, go_sem], ?_⟩⟩
    refine ⟨u, rfl, own_lower (by omega) (own_stay hO (grownBy_putObj' _ D _) (fun r e => by cases e; exact ⟨_, hK, rfl⟩)), hB1.trans (belowK_b (w := w) (Nat.le_refl _) _ D _ _ (by omega) hK rfl rfl)⟩
  case stop =>
    rintro D c pre W _ _ h _
    exact h.elim
end Go.Proofs.Ytpnlhnhjedopgaa
end

section
/- conf.Of in the model, at nine numbers. Written by a small program of mine (genconfd.py). -/
set_option maxRecDepth 100000
set_option linter.unusedSimpArgs false
namespace Go.Proofs.Ytpnlhnhjedopgaa
open Go Go.RowKit Go.Shelf Go.Proofs
attribute [local go_sem] Oper.semAt_some

def zeroC : Cnf := ⟨0, 0, 0, 0, 0, 0, 0, 0, 0⟩
def fArr (c : Cnf) (pre : List (Fin 9)) : Array Value := pre.foldl (fun a i => a.setIfInBounds i.val (.int .i64 (c.l[i.val]?.getD 0))) zeroC.arr
theorem fArr_snoc (c : Cnf) (pre : List (Fin 9)) (x : Fin 9) : fArr c (pre ++ [x]) = (fArr c pre).setIfInBounds x.val (.int .i64 (c.l[x.val]?.getD 0)) := by
  unfold fArr
  rw [List.foldl_append]
  rfl
theorem fArr_size (c : Cnf) (pre : List (Fin 9)) : (fArr c pre).size = 9 := by
  have : ∀ (l : List (Fin 9)) (a : Array Value), a.size = 9 → (l.foldl (fun a i => a.setIfInBounds i.val (.int .i64 (c.l[i.val]?.getD 0))) a).size = 9 := by
    intro l
    induction l with
    | nil => exact fun a h => h
    | cons y r ih => exact fun a h => ih _ (by simpa using h)
  exact this pre _ rfl
theorem fArr_all (c : Cnf) : fArr c nines = c.arr := by
  have hn : nines = [⟨0, by omega⟩, ⟨1, by omega⟩, ⟨2, by omega⟩, ⟨3, by omega⟩, ⟨4, by omega⟩, ⟨5, by omega⟩, ⟨6, by omega⟩, ⟨7, by omega⟩, ⟨8, by omega⟩] := rfl
  unfold fArr
  rw [hn]
  simp [Cnf.arr, zeroC, Cnf.l]
  rfl
theorem wpListIn_store_mid {F : Fence} {n : Nat} {P : Program} {ops : Array Oper} {rest : List Oper} {op : Oper} {a : Act} {w : World} {Q : Exit → Act → World → Prop} (hgd : op.guard = none) (hro : F.round = none) (ty : TypeId) (x y : Operand) (ho : op.op = .store ty x y)
    (b o : Nat) (cells : Array Value) (hx : a.eval x = .pointer (some ⟨b, o, none⟩)) (hy : a.eval y = .agg cells)
    (ht : w.there b o cells.size) (hi : (P.info? ty).map (·.size) = some cells.size) (h1 : cells.all (·.oneCell') = true)
    (h : wpListIn F n P ops Q rest (a.put op.dst undef) (w.setCells b o cells.toList)) : wpListIn F n P ops Q (op :: rest) a w := by
  refine wpListIn_plain hgd fun K hK => ⟨fun f hf => ?_, ?_⟩
  · unfold Oper.about at hf
    rw [ho] at hf
    cases hf
  · rw [hro, Oper.semAt_none]
    unfold execOp
    simp only [ho, hx, hy, Instr.storeAt, Instr.sureAddr, Sem.run_bind, Sem.run_pure, Result.andThen_ok, run_storeVar_mid w b o ty cells ht hi h1]
    exact hK _ _ h
theorem Below.heap_setCell_cell {W : World} {B j : Nat} {v : Value} (b i : Nat) (h : b ≠ B) : (W.setCell ⟨B, j, none⟩ v).cell? ⟨b, i, none⟩ = W.cell? ⟨b, i, none⟩ := by
  have h1 := Below.heap_setCell W ⟨B, j, none⟩ v b h
  simp only [World.cell?, h1]
theorem results_cell2 {fn : Func} {a u : Tmp} {t : TypeId} (h : fn.results = #[.cell a t, .tmp u]) {tmps : Array Value} {P : Program} {w : World} {p : Addr} {v : Value} (hp : tmps.getD a undef = .pointer (some p)) (hl : (loadVar t p).run P w = .ok v w) : (results fn tmps).run P w = .ok (.tuple #[v, tmps.getD u undef]) w := by
  unfold results
  rw [h]
  have hp' : tmps[a]?.getD undef = .pointer (some p) := by simpa using hp
  simp [Sem.run_bind, hp', asAddr, hl]
theorem keeps_setCells (b : Nat) : ∀ (vs : List Value) (o : Nat) (w : World), KeepsOthers w (w.setCells b o vs)
  | [], _, w => KeepsOthers.refl w
  | v :: r, o, w => (KeepsOthers.setCell w ⟨b, o, none⟩ v).trans (keeps_setCells b r (o + 1) _)
theorem below_setCells (n b : Nat) : ∀ (vs : List Value) (o : Nat) (w : World), n ≤ w.heap.size → n ≤ b → Below n w (w.setCells b o vs)
  | [], _, w, _, _ => Below.refl n w
  | v :: r, o, w, h, hb => by
    have h1 := (Below.refl n w).setCell (p := ⟨b, o, none⟩) hb v
    exact h1.trans (below_setCells n b r (o + 1) _ (Nat.le_trans h h1.size) hb)
theorem BlkIs.range {W : World} {B : Nat} {us : Array Value} (h : BlkIs W B us) : W.rangeAt B 0 us.toList := fun j u hj => by
  rw [Nat.zero_add, h.cell]
  simpa using hj
theorem BlkIs.there {W : World} {B : Nat} {us : Array Value} (h : BlkIs W B us) : W.there B 0 us.size := fun j hj => by
  refine ⟨?_, ?_⟩
  · rw [Nat.zero_add, h.cell, Array.getElem?_eq_getElem hj]; rfl
  · rw [Nat.zero_add]; exact h.free j
set_option maxHeartbeats 8000000 in
theorem confof_any (c : Cnf) (v0 : Value) (w : World) (hr : Row w v0 c.l 1 (fun n => [.int .i64 n])) : Calls Try.prog 133 #[v0] w (Gives w (if goodC c then .tuple #[.agg c.arr, .int .i64 0] else .tuple #[.agg zeroC.arr, .int .i64 1])) := by
  obtain ⟨p, cap, rfl, hlc, hmm, hrow⟩ := hr
  have h9 : c.l.length = 9 := rfl
  obtain ⟨b, off, rfl, hb, hcell⟩ := hrow (by rw [h9]; omega)
  rw [h9] at hlc
  rw [show (Value.slice (some (⟨b, off, none⟩ : Addr)) c.l.length cap) = .slice (some ⟨b, off, none⟩) 9 cap from rfl]
  have hcl : ∀ i : Fin 9, w.cell? ⟨b, off + i.val, none⟩ = some (.int .i64 (c.l[i.val]?.getD 0)) := fun i => by
    have hi : i.val < c.l.length := by rw [h9]; exact i.isLt
    have := hcell i.val c.l[i.val] (List.getElem?_eq_getElem hi) 0 _ rfl
    rw [List.getElem?_eq_getElem hi]
    simpa using this
  clear hcell hrow
  refine (callsIn_wide (n := 9)).1 ?_
  refine callsIn_of_wp_marks Try.func133 rfl trivial ?_ rfl
  simp only [Try.ntmps133, List.size_toArray, List.length_cons, List.length_nil, Nat.reduceAdd, Nat.reduceSub, Array.replicate_succ, Array.replicate_zero, List.push_toArray, List.append_toArray, List.nil_append, List.cons_append]
  obtain ⟨r, hres⟩ : ∃ r : Value, r = (if goodC c then .tuple #[.agg c.arr, .int .i64 0] else .tuple #[.agg zeroC.arr, .int .i64 1]) := ⟨_, rfl⟩
  have HRS := Lib.hid hres
  rw [← hres]
  clear hres
  gi_wp2_with (refine ⟨trivial, ?_⟩; gi_at_call 142; refine (callsIn_wide.2 (places_w _ _)).mono ?_; rintro e w1 ⟨A, T0, rfl, hA, hAl, hu⟩)
  have hu1 : Up w w1 := ((((Up.refl w).alloc _).alloc _).alloc _).trans hu
  have bL0 : BlkIs (w.alloc (.cells #[.slice (some ⟨b, off, none⟩) 9 cap] 142)) w.heap.size #[.slice (some ⟨b, off, none⟩) 9 cap] := ⟨_, blk_new w _⟩
  have bL : BlkIs w1 w.heap.size #[.slice (some ⟨b, off, none⟩) 9 cap] := ((bL0.alloc _).alloc _).up hu
  have bZ0 : BlkIs ((w.alloc (.cells #[.slice (some ⟨b, off, none⟩) 9 cap] 142)).alloc (.cells zeroC.arr 24)) (w.heap.size + 1) zeroC.arr := ⟨_, blk_new' (by simp)⟩
  have bZ : BlkIs w1 (w.heap.size + 1) zeroC.arr := (bZ0.alloc _).up hu
  have bC0 : BlkIs (((w.alloc (.cells #[.slice (some ⟨b, off, none⟩) 9 cap] 142)).alloc (.cells zeroC.arr 24)).alloc (.cells zeroC.arr 24)) (w.heap.size + 2) zeroC.arr := ⟨_, blk_new' (by simp)⟩
  have bC : BlkIs w1 (w.heap.size + 2) zeroC.arr := bC0.up hu
  have hsz : w.heap.size + 3 ≤ w1.heap.size := by have := hu.size; simp at this; omega
  clear hu
  refine wpIn_rangeFunc_ownH rfl (by omega) (gf := 158) (lb := #[.pointer (some ⟨A, 0, none⟩)]) rfl trivial (enters_of Try.func158 (by kernel_rfl) rfl)
    (places_stops 8 (w.heap.size + 2) A T0 w1 hA) (fun _ _ => trivial) (fun _ _ _ _ _ _ _ _ => trivial) (Below.refl _ _) (fun _ => rfl)
    (fun pre W => ((BlkIs W w.heap.size #[.slice (some ⟨b, off, none⟩) 9 cap] ∧ BlkIs W (w.heap.size + 1) zeroC.arr) ∧ BlkIs W (w.heap.size + 2) (fArr c pre)) ∧ Below w.heap.size w W)
    (fun _ _ _ => False)
    (OwnFrom.and (OwnFrom.and (OwnFrom.and (Go.Own.from (BlkIs.own _ (fun _ => _)) _) (Go.Own.from (BlkIs.own _ (fun _ => _)) _)) (Go.Own.from (BlkIs.own _ (fun pre => fArr c pre)) _)) (ownFrom_below (Nat.le_refl _) (by omega)))
    (fun _ _ _ _ _ hs _ _ => hs)
    ⟨⟨⟨bL, bZ⟩, bC⟩, hu1⟩
    (fun x a' W => ∃ Bx, w.heap.size + 2 < Bx ∧ W.heap[Bx]? = some (.cells #[.pointer (some ⟨w.heap.size + 2, x.val, none⟩), .int .i64 (leastL[x.val]?.getD 0), .int .i64 (mostL[x.val]?.getD 0)] 224 (0, 0)) ∧ a' = { tmps := #[.slice (some ⟨b, off, none⟩) 9 cap, .pointer (some ⟨w.heap.size, 0, none⟩), .pointer (some ⟨w.heap.size + 1, 0, none⟩), .int .i64 0, .pointer (some ⟨w.heap.size + 2, 0, none⟩), .int .i64 (x.val : Nat), .pointer (some ⟨Bx, 0, none⟩), .slice (some ⟨b, off, none⟩) 9 cap, .int .i64 9, .bool false, undef, .func (.func 158) #[] #[.pointer (some ⟨A, 0, none⟩)], .int .i64 (x.val : Nat), .agg #[.pointer (some ⟨w.heap.size + 2, x.val, none⟩), .int .i64 (leastL[x.val]?.getD 0), .int .i64 (mostL[x.val]?.getD 0)], undef, undef, undef, undef, undef, undef, undef, undef, undef, undef, undef, undef], defers := [] })
    (fun x a' _ X Y row hs hg hr => by obtain ⟨Bx, h1, h2, h3⟩ := hs; exact ⟨Bx, h1, (grownBy_keeps_cells hg (fun r e => (hr r e).2) h2 rfl).trans h2, h3⟩)
    ?assign ?body ?done ?stop
  case assign =>
    rintro l pre x W K ⟨⟨⟨bL1, bZ1⟩, bC1⟩, hB1⟩ hK
    dsimp only [plEnc]
    gi_wp2
    exact hK _ _ ((KeepsOthers.alloc _ _).from _) trivial ⟨⟨⟨bL1.alloc _, bZ1.alloc _⟩, bC1.alloc _⟩, hB1.alloc hB1.size _⟩ ⟨W.heap.size, bC1.lt, blk_new _ _, rfl⟩
  case body =>
    rintro l pre x a' W hl ⟨rr, hrr⟩ ⟨⟨⟨⟨TL, bL1⟩, ⟨TZ, bZ1⟩⟩, ⟨TC, bC1⟩⟩, hB1⟩ ⟨Bx, hBx, bX, rfl⟩ hlt
    have bLd : W.drew.heap[w.heap.size]? = some (.cells #[.slice (some ⟨b, off, none⟩) 9 cap] TL (0, 0)) := bL1
    have bZd : W.drew.heap[w.heap.size + 1]? = some (.cells zeroC.arr TZ (0, 0)) := bZ1
    have bCd : W.drew.heap[w.heap.size + 2]? = some (.cells (fArr c pre) TC (0, 0)) := bC1
    have bXd : W.drew.heap[Bx]? = some (.cells #[.pointer (some ⟨w.heap.size + 2, x.val, none⟩), .int .i64 (leastL[x.val]?.getD 0), .int .i64 (mostL[x.val]?.getD 0)] 224 (0, 0)) := bX
    have hxl := x.isLt
    have hrx : W.drew.cell? ⟨b, off + x.val, none⟩ = some (.int .i64 (c.l[x.val]?.getD 0)) := (hB1.cell hb).trans (hcl x)
    obtain ⟨y, hy⟩ : ∃ y, (fArr c pre)[x.val]? = some y := ⟨_, Array.getElem?_eq_getElem (by rw [fArr_size]; exact hxl)⟩
    have cC : W.drew.cell? ⟨w.heap.size + 2, x.val, none⟩ = some y := blk_cell2 bCd hy
    have fC : W.drew.frozen? ⟨w.heap.size + 2, x.val, none⟩ = false := blk_free bCd x.val
    have i0 : (0 : Int) ≤ (x.val : Int) := by omega
    have i1 : (x.val : Int) < 9 := by omega
    have hlW := blk_lt bC1
    generalize hv : c.l[x.val]?.getD 0 = v at *
    refine wpIn_block ?_
    refine region_held_in (S := fun w' => w'.cell? ⟨Bx, 0, none⟩ = some (.pointer (some ⟨w.heap.size + 2, x.val, none⟩)) ∧ w'.cell? ⟨w.heap.size, 0, none⟩ = some (.slice (some ⟨b, off, none⟩) 9 cap) ∧ w'.cell? ⟨b, off + x.val, none⟩ = some (.int .i64 v)) (by kernel_rfl) (by kernel_rfl) (by rintro ⟨a, w, h⟩; exact h) ⟨(blk_cell bXd 0).trans rfl, (blk_cell bLd 0).trans rfl, hrx⟩ fun hS => ?_
    refine wpAnyH_take (i := 0) (oi := { dst := some 14, op := _, type := _, pos := _, after := _, guard := _ }) (v := .pointer (some ⟨Bx, 0, none⟩)) rfl (by kernel_rfl) (by kernel_rfl) (by kernel_rfl) (fun _ _ _ h => h) (.inl ⟨rfl, fun w' hw' => ?_⟩) (by assumption) ?_
    · have hc0 := hw'.1; have hc1 := hw'.2.1; have hc2 := hw'.2.2; clear hw'; go_simp
    simp only [Act.put, List.setIfInBounds_toArray, List.set_cons_zero, List.set_cons_succ]
    refine wpAnyH_take (i := 1) (oi := { dst := some 15, op := _, type := _, pos := _, after := _, guard := _ }) (v := .pointer (some ⟨w.heap.size + 2, x.val, none⟩)) rfl (by kernel_rfl) (by kernel_rfl) (by kernel_rfl) (fun _ _ _ h => h) (.inl ⟨rfl, fun w' hw' => ?_⟩) (by assumption) ?_
    · have hc0 := hw'.1; have hc1 := hw'.2.1; have hc2 := hw'.2.2; clear hw'; go_simp
    simp only [Act.put, List.setIfInBounds_toArray, List.set_cons_zero, List.set_cons_succ]
    refine wpAnyH_take (i := 2) (oi := { dst := some 16, op := _, type := _, pos := _, after := _, guard := _ }) (v := .slice (some ⟨b, off, none⟩) 9 cap) rfl (by kernel_rfl) (by kernel_rfl) (by kernel_rfl) (fun _ _ _ h => h) (.inl ⟨rfl, fun w' hw' => ?_⟩) (by assumption) ?_
    · have hc0 := hw'.1; have hc1 := hw'.2.1; have hc2 := hw'.2.2; clear hw'; go_simp
    simp only [Act.put, List.setIfInBounds_toArray, List.set_cons_zero, List.set_cons_succ]
    refine wpAnyH_take (i := 3) (oi := { dst := some 17, op := _, type := _, pos := _, after := _, guard := _ }) (v := .int .i64 (x.val : Nat)) rfl (by kernel_rfl) (by kernel_rfl) (by kernel_rfl) (fun _ _ _ h => h) (.inl ⟨rfl, fun w' hw' => ?_⟩) (by assumption) ?_
    · have hc0 := hw'.1; have hc1 := hw'.2.1; have hc2 := hw'.2.2; clear hw'; go_simp
    simp only [Act.put, List.setIfInBounds_toArray, List.set_cons_zero, List.set_cons_succ]
    refine wpAnyH_take (i := 4) (oi := { dst := some 18, op := _, type := _, pos := _, after := _, guard := _ }) (v := .pointer (some ⟨b, off + x.val, none⟩)) rfl (by kernel_rfl) (by kernel_rfl) (by kernel_rfl) (fun _ _ _ h => h) (.inl ⟨rfl, fun w' hw' => ?_⟩) (by assumption) ?_
    · have hc0 := hw'.1; have hc1 := hw'.2.1; have hc2 := hw'.2.2; clear hw'; go_simp
    simp only [Act.put, List.setIfInBounds_toArray, List.set_cons_zero, List.set_cons_succ]
    refine wpAnyH_take (i := 5) (oi := { dst := some 19, op := _, type := _, pos := _, after := _, guard := _ }) (v := .int .i64 v) rfl (by kernel_rfl) (by kernel_rfl) (by kernel_rfl) (fun _ _ _ h => h) (.inl ⟨rfl, fun w' hw' => ?_⟩) (by assumption) ?_
    · have hc0 := hw'.1; have hc1 := hw'.2.1; have hc2 := hw'.2.2; clear hw'; go_simp
    simp only [Act.put, List.setIfInBounds_toArray, List.set_cons_zero, List.set_cons_succ]
    refine wpAnyH_take (i := 6) (oi := { dst := some 20, op := _, type := _, pos := _, after := _, guard := _ }) (v := .pointer (some ⟨w.heap.size + 2, x.val, none⟩)) rfl (by kernel_rfl) (by kernel_rfl) (by kernel_rfl) (fun _ _ _ h => h) (.inl ⟨rfl, fun w' hw' => ?_⟩) (by assumption) ?_
    · have hc0 := hw'.1; have hc1 := hw'.2.1; have hc2 := hw'.2.2; clear hw'; go_simp
    simp only [Act.put, List.setIfInBounds_toArray, List.set_cons_zero, List.set_cons_succ]
    refine wpAnyH_ready (rs := [7]) (by kernel_rfl) (by simp) (.cons rfl (fun K' hK => ?_) .nil)
    refine step_go rfl ?_
    go_simp
    refine hK.out _ _ ⟨?_, ?_, ?_⟩ fun hS1 => ?_
    · exact (blk_cell (blk_ne bXd (by omega) _) 0).trans rfl
    · exact (blk_cell (blk_ne bLd (by omega) _) 0).trans rfl
    · exact (Below.heap_setCell_cell b (off + x.val) (by omega)).trans hrx
    refine wpAnyH_done (by kernel_rfl) ?_ _
    gi_wp2
    refine ⟨((KeepsOthers.drew W).trans (KeepsOthers.setCell _ _ _)).from _, trivial, ⟨⟨⟨TL, blk_ne bLd (by omega) _⟩, ⟨TZ, blk_ne bZd (by omega) _⟩⟩, ?_⟩, (hB1.drew).setCell (p := ⟨w.heap.size + 2, x.val, none⟩) (by simp) _⟩
    rw [fArr_snoc, hv]
    exact ⟨TC, blk_set bCd x.val _⟩
  case done =>
    rintro D xs W hD rfl ⟨⟨⟨bL1, bZ1⟩, bC1⟩, hB1⟩ hK
    rw [fArr_all] at bC1
    have hsC : (Try.prog.info? 24).map (·.size) = some c.arr.toList.length := by
      have : (Try.prog.info? 24).map (·.size) = some 9 := by kernel_rfl
      exact this
    have hsA : (Try.prog.info? 24).map (·.size) = some c.arr.size := hsC
    have hsZ : (Try.prog.info? 24).map (·.size) = some zeroC.arr.size := hsC
    have hsL : (Try.prog.info? 24).map (·.size) = some zeroC.arr.toList.length := hsC
    have h1C : c.arr.all (·.oneCell') = true := by simp [Cnf.arr, Value.oneCell']
    have h1Z : zeroC.arr.all (·.oneCell') = true := by simp [Cnf.arr, Value.oneCell']
    have hzl : #[Value.int .i64 0, .int .i64 0, .int .i64 0, .int .i64 0, .int .i64 0, .int .i64 0, .int .i64 0, .int .i64 0, .int .i64 0] = zeroC.arr := rfl
    have hchk := confcheck_any c W
    have hcs : c.arr.size = 9 := rfl
    have hzs : zeroC.arr.size = 9 := rfl
    generalize zeroC.arr = zarr at *
    generalize c.arr = carr at *
    have hrg := bC1.range
    cases hg : goodC c with
    | true =>
      have hrr := HRS.out
      rw [hg, if_pos rfl] at hrr
      simp only [hg, if_true, Bool.false_eq_true, if_false] at hchk
      subst hrr
      clear HRS hg
      gi_wp2_with (first
        | (refine wpListIn_load_mid rfl rfl 24 (.tmp 4) rfl (w.heap.size + 2) 0 (by rfl) carr.toList (.struct _) hrg Try.underlying24 rfl hsC ?_)
        | (refine ⟨trivial, ?_⟩; gi_at_call 120; refine (callsIn_wide.2 hchk).mono ?_; rintro e w2 ⟨rfl, hu2⟩; have hrg2 := (bC1.up hu2).range; have hth := (bZ1.up hu2).there; rw [hzs] at hth)
        | (refine wpListIn_load_mid rfl rfl 24 (.tmp 4) rfl (w.heap.size + 2) 0 (by rfl) carr.toList (.struct _) hrg2 Try.underlying24 rfl hsC ?_)
        | (refine wpListIn_store_mid rfl rfl 24 (.tmp 2) (.tmp 25) rfl (w.heap.size + 1) 0 carr (by rfl) (by rfl) (by rw [hcs]; exact hth) hsA h1C ?_))
      have hK2 : w2.heap[D]? = some (.deferred (some [])) := (hu2.block (blk_lt hK)).trans hK
      have hK3 : (w2.setCells (w.heap.size + 1) 0 carr.toList).heap[D]? = some (.deferred (some [])) := (keeps_setCells _ _ _ _).same D _ hK2 rfl
      have hld : (loadVar 24 ⟨w.heap.size + 1, 0, none⟩).run Try.prog ((w2.setCells (w.heap.size + 1) 0 carr.toList).putObj D (.deferred none)) = .ok (.agg carr) ((w2.setCells (w.heap.size + 1) 0 carr.toList).putObj D (.deferred none)) :=
        run_loadVar_mid _ _ _ _ _ (.struct _) (fun j u hj => cell_kept (World.rangeAt_setCells_same w2 _ 0 carr.toList (by rw [Array.length_toList, hcs]; exact hth) j u hj) (grownBy_putObj' _ D _) (fun r e => by cases e; exact ⟨_, hK3, rfl⟩)) Try.underlying24 rfl hsC
      refine ⟨by simp, .inl ⟨_, _, rfl, run_takeDeferred hK3, .tuple #[.agg carr, .int .i64 0], (by first | exact results_cell2 (a := 2) (u := 3) (t := 24) rfl rfl hld | exact (results_cell2 (a := 2) (u := 3) (t := 24) rfl rfl hld : _)), ?_⟩⟩
      refine Gives.mk rfl ?_
      have z1 := hB1.size
      have z2 := hu2.size
      exact ((hB1.trans (hu2.mono (by omega))).trans (below_setCells _ _ _ _ _ (by omega) (by simp))).trans (belowK_b (w := w) (Nat.le_refl _) _ D _ _ (by omega) hK3 rfl rfl)
    | false =>
      have hrr := HRS.out
      rw [hg, if_neg (by simp)] at hrr
      simp only [hg, if_true, Bool.false_eq_true, if_false] at hchk
      subst hrr
      clear HRS hg
      gi_wp2_with (first
        | (refine wpListIn_load_mid rfl rfl 24 (.tmp 4) rfl (w.heap.size + 2) 0 (by rfl) carr.toList (.struct _) hrg Try.underlying24 rfl hsC ?_)
        | (refine ⟨trivial, ?_⟩; gi_at_call 120; refine (callsIn_wide.2 hchk).mono ?_; rintro e w2 ⟨rfl, hu2⟩; have hrg2 := (bC1.up hu2).range; have hth := (bZ1.up hu2).there; rw [hzs] at hth)
        | (refine wpListIn_load_mid rfl rfl 24 (.tmp 4) rfl (w.heap.size + 2) 0 (by rfl) carr.toList (.struct _) hrg2 Try.underlying24 rfl hsC ?_)
        | (refine wpListIn_store_mid rfl rfl 24 (.tmp 2) (.tmp 24) rfl (w.heap.size + 1) 0 zarr (by rfl) (by rw [← hzl]; rfl) (by rw [hzs]; exact hth) hsZ h1Z ?_))
      have hK2 : w2.heap[D]? = some (.deferred (some [])) := (hu2.block (blk_lt hK)).trans hK
      have hK3 : (w2.setCells (w.heap.size + 1) 0 zarr.toList).heap[D]? = some (.deferred (some [])) := (keeps_setCells _ _ _ _).same D _ hK2 rfl
      have hld : (loadVar 24 ⟨w.heap.size + 1, 0, none⟩).run Try.prog ((w2.setCells (w.heap.size + 1) 0 zarr.toList).putObj D (.deferred none)) = .ok (.agg zarr) ((w2.setCells (w.heap.size + 1) 0 zarr.toList).putObj D (.deferred none)) :=
        run_loadVar_mid _ _ _ _ _ (.struct _) (fun j u hj => cell_kept (World.rangeAt_setCells_same w2 _ 0 zarr.toList (by rw [Array.length_toList, hzs]; exact hth) j u hj) (grownBy_putObj' _ D _) (fun r e => by cases e; exact ⟨_, hK3, rfl⟩)) Try.underlying24 rfl hsL
      refine ⟨by simp, .inl ⟨_, _, rfl, run_takeDeferred hK3, .tuple #[.agg zarr, .int .i64 1], (by first | exact results_cell2 (a := 2) (u := 3) (t := 24) rfl rfl hld | exact (results_cell2 (a := 2) (u := 3) (t := 24) rfl rfl hld : _)), ?_⟩⟩
      refine Gives.mk rfl ?_
      have z1 := hB1.size
      have z2 := hu2.size
      exact ((hB1.trans (hu2.mono (by omega))).trans (below_setCells _ _ _ _ _ (by omega) (by simp))).trans (belowK_b (w := w) (Nat.le_refl _) _ D _ _ (by omega) hK3 rfl rfl)
  case stop =>
    rintro D c pre W _ _ h _
    exact h.elim
end Go.Proofs.Ytpnlhnhjedopgaa
end
