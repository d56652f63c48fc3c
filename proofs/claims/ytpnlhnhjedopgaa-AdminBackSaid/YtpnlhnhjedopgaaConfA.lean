/- The nine rounds of conf.places' closure, in the model. Written by a small program of mine (genconf.py). -/
import Derived.RangeFuncNested
import Derived.RangeFuncBound
import Derived.RangeFuncCalls
import Derived.RangeFuncLeaves
import Derived.Shelf.Abstract
import Derived.Shelf.RegionOpen
import Derived.WalkKit
import Derived.OwnWalkIn
import Derived.TacticsInMore
import Derived.LoopNIn
import Derived.LoopIn
import Derived.Deep.MidRow
import Derived.Test.YtpnlhnhjedopgaaConfT
set_option maxRecDepth 100000
set_option linter.unusedSimpArgs false
namespace Go.Proofs.Ytpnlhnhjedopgaa
open Go Go.RowKit Go.Shelf Go.Proofs
attribute [local go_sem] Oper.semAt_some

def leastL : List Int := [1040, 0, 0, 0, 0, 0, 0, 0, 0]
def mostL : List Int := [1048576, 1048576, 1048576, 1048576, 64, 64, 16, 1048576, 1048576]
def plArr (B : Nat) : Array Value := #[.pointer (some ⟨B, 0, none⟩), .int .i64 1040, .int .i64 1048576, .pointer (some ⟨B, 1, none⟩), .int .i64 0, .int .i64 1048576, .pointer (some ⟨B, 2, none⟩), .int .i64 0, .int .i64 1048576, .pointer (some ⟨B, 3, none⟩), .int .i64 0, .int .i64 1048576, .pointer (some ⟨B, 4, none⟩), .int .i64 0, .int .i64 64, .pointer (some ⟨B, 5, none⟩), .int .i64 0, .int .i64 64, .pointer (some ⟨B, 6, none⟩), .int .i64 0, .int .i64 16, .pointer (some ⟨B, 7, none⟩), .int .i64 0, .int .i64 1048576, .pointer (some ⟨B, 8, none⟩), .int .i64 0, .int .i64 1048576]
def nines : List (Fin 9) := [0, 1, 2, 3, 4, 5, 6, 7, 8]
def plEnc (B : Nat) (i : Fin 9) : Array Value := #[.int .i64 (i.val : Nat), .agg #[.pointer (some ⟨B, i.val, none⟩), .int .i64 (leastL[i.val]?.getD 0), .int .i64 (mostL[i.val]?.getD 0)]]

theorem nines_take (k : Nat) (h : k < 9) : nines.take k ++ [⟨k, h⟩] = nines.take (k + 1) := by
  have : k = 0 ∨ k = 1 ∨ k = 2 ∨ k = 3 ∨ k = 4 ∨ k = 5 ∨ k = 6 ∨ k = 7 ∨ k = 8 := by omega
  rcases this with rfl | rfl | rfl | rfl | rfl | rfl | rfl | rfl | rfl <;> rfl
theorem wpListIn_load_mid {F : Fence} {n : Nat} {P : Program} {ops : Array Oper} {rest : List Oper} {op : Oper} {a : Act} {w : World} {Q : Exit → Act → World → Prop} (hgd : op.guard = none) (hro : F.round = none) (ty : TypeId) (x : Operand) (ho : op.op = .load ty x)
    (b o : Nat) (hx : a.eval x = .pointer (some ⟨b, o, none⟩)) (cs : List Value) (d : TypeDesc) (hc : w.rangeAt b o cs)
    (hu : P.underlying ty = some d) (hd : d.isRow = true) (hi : (P.info? ty).map (·.size) = some cs.length)
    (h : wpListIn F n P ops Q rest (a.put op.dst (.agg cs.toArray)) w) : wpListIn F n P ops Q (op :: rest) a w := by
  refine wpListIn_plain hgd fun K hK => ⟨fun f hf => ?_, ?_⟩
  · unfold Oper.about at hf
    rw [ho] at hf
    cases hf
  · rw [hro, Oper.semAt_none]
    unfold execOp
    simp only [ho, hx, Instr.loadAt, Instr.sureAddr, Sem.run_bind, Sem.run_pure, Result.andThen_ok, run_loadVar_mid w b o ty cs d hc hu hd hi]
    exact hK _ _ h
theorem pl_index (B k : Nat) (hk : k < 9) (W : World) : (Instr.index 241 (.agg (plArr B)) (.int .i64 (k : Int))).run Try.prog W = .ok (.agg #[.pointer (some ⟨B, k, none⟩), .int .i64 (leastL[k]?.getD 0), .int .i64 (mostL[k]?.getD 0)]) W := by
  have : k = 0 ∨ k = 1 ∨ k = 2 ∨ k = 3 ∨ k = 4 ∨ k = 5 ∨ k = 6 ∨ k = 7 ∨ k = 8 := by omega
  rcases this with rfl | rfl | rfl | rfl | rfl | rfl | rfl | rfl | rfl <;> rfl
set_option maxHeartbeats 8000000 in
theorem places_stops (n : Nat) (B A : Nat) (T0 : TypeId) (w : World) (hA : w.heap[A]? = some (.cells (plArr B) T0 (0, 0))) :
    SeqStopsK Fence.wide n Try.prog 158 #[.pointer (some ⟨A, 0, none⟩)] (plEnc B) (fun _ _ => True) (fun xs => xs = nines) (fun pre => pre <+: nines) 9 w := fun l J Jx W hW hJ hJx hY h0 => by
  have hlt : A < w.heap.size := (Array.getElem?_eq_some_iff.1 hA).1
  have hA' : W.heap[A]? = some (.cells (plArr B) T0 (0, 0)) := (hW.block A hlt).trans hA

  have hrg : W.rangeAt A 0 (plArr B).toList := fun j u hj => by
    rw [Nat.zero_add, cell_of_row W A j _ _ _ hA']
    simpa using hj
  have hsz : (Try.prog.info? 241).map (·.size) = some (plArr B).toList.length := by kernel_rfl
  have hld0 : (Instr.loadAt 241 (.pointer (some ⟨A, 0, none⟩))).run Try.prog W = .ok (.agg (plArr B)) W := run_loadAt_mid W A 0 241 (plArr B).toList (.array 9 224) (fun j u hj => by
    rw [Nat.zero_add, cell_of_row W A j _ _ _ hA']
    simpa using hj) Try.underlying241 rfl (by kernel_rfl)
  have hix : ∀ k : Nat, k < 9 → ∀ W', (Instr.index 241 (.agg (plArr B)) (.int .i64 (k : Int))).run Try.prog W' = .ok (.agg #[.pointer (some ⟨B, k, none⟩), .int .i64 (leastL[k]?.getD 0), .int .i64 (mostL[k]?.getD 0)]) W' := fun k hk W' => pl_index B k hk W'
  clear hA hA' hW
  clear hld0
  generalize plArr B = arr at *
  refine callsIn_of_wp Try.func158 rfl trivial ?_ rfl
  simp only [Try.ntmps158, List.size_toArray, List.length_cons, List.length_nil, Nat.reduceAdd, Nat.reduceSub, Array.replicate_succ, Array.replicate_zero, List.push_toArray, List.append_toArray, List.nil_append, List.cons_append]
  gi_wp2_with (refine wpListIn_load_mid rfl rfl 241 (.tmp 1) rfl A 0 (by rfl) arr.toList (.array 9 224) hrg Try.underlying241 rfl hsz ?_)
  gi_loopw [6] (fun p wr => ∃ k : Nat, k ≤ 9 ∧ p = .int .i64 k ∧ J (nines.take k) wr) (fun p _ => 9 - (intOf p).toNat)
  case atStart => exact ⟨0, by omega, rfl, h0⟩
  case round =>
    obtain ⟨k, hk, rfl, hJk⟩ := hrel
    by_cases h9 : k < 9
    · have hxk := hix k h9
      clear hix
      have hlen : (nines.take k).length < 9 := by rw [List.length_take]; show min k 9 < 9; omega
      have hJ2 : J (nines.take k) (wr.alloc (.cells #[.pointer (some ⟨B, k, none⟩), .int .i64 (leastL[k]?.getD 0), .int .i64 (mostL[k]?.getD 0)] 224)) := hJ _ _ _ none hJk (World.grownBy_alloc _ _ none) (fun r e => by cases e)
      obtain ⟨fn, tmps, assign, body, hy, hR⟩ := hY (nines.take k) ⟨k, h9⟩ _ hJ2 hlen
      dsimp only [plEnc] at hy
      have htk : nines.take k ++ [⟨k, h9⟩] = nines.take (k + 1) := nines_take k h9
      rw [htk] at hR
      have hw : IntKind.i64.wrap ((k : Int) + 1) = (k : Int) + 1 := IntWalk.i64_in _ (by omega)
      gi_wp2
      refine ⟨fun h => (by cases h), hR.mono ?_⟩
      rintro e W3 (⟨rfl, hJ3, -⟩ | ⟨rfl, hJx3⟩)
      · gi_wp2
        go_roundw
        case rel => exact ⟨k + 1, by omega, by go_num, hJ3⟩
        case measure => simp [intOf]; omega
      · gi_wp2
        refine bodyPost_ret (results_none rfl _ _ _) rfl ?_
        exact ⟨⟨_, rfl⟩, .inr ⟨nines.take (k + 1), List.take_prefix _ _, hJx3⟩⟩
    · obtain rfl : k = 9 := by omega
      clear hix
      gi_wp2
      go_end0
      exact ⟨⟨_, rfl⟩, .inl ⟨nines, rfl, hJk⟩⟩
theorem places_w (B : Nat) (w : World) : Calls Try.prog 142 #[.pointer (some ⟨B, 0, none⟩)] w (fun e w' => ∃ A T0, e = .returned (.func (.func 158) #[] #[.pointer (some ⟨A, 0, none⟩)]) ∧ w'.heap[A]? = some (.cells (plArr B) T0 (0, 0)) ∧ w.heap.size ≤ A ∧ Up w w') := by
  let g : Gh := { own := fun _ => .prot 0, beta := fun _ => B, nb := 1, lam := fun _ => 0, nl := 0, tau := fun _ => none, nt := 0 }
  have hc := (places_ok 0 (fun _ => none)).calls g #[.pointer (some ⟨B, 0, none⟩)] w (fun b bx h => by cases h) rfl fun i a u ha hu => by
    match i with
    | 0 => simp at ha hu; subst ha hu; exact .gptr (g := g) 0 0 (by show 0 < 1; omega)
    | i + 1 => simp at ha
  refine hc.mono fun e w' hh => ?_
  obtain ⟨u, g', G', v, rfl, ⟨c, -, rfl, rfl⟩, hG, hx, hd⟩ := hh
  obtain ⟨hb1, hb2, us, T0, hb3, hb4, hb5, hb6⟩ := hG c _ (setG_same _ _ _)
  have hB : g'.beta 0 = B := hx.beta 0 (by show 0 < 1; omega)
  have hup : Up w w' := by
    exact ⟨hx.os, hx.tape, hx.output, hx.size, fun k hk => (hx.kept k hk trivial).2⟩
  have hu : us = plArr B := by
    have hz : us.size = 27 := hb4
    refine Array.ext (by rw [hz]; rfl) fun i h1 h2 => ?_
    have hi : i < 27 := by rw [hz] at h1; exact h1
    have key : ∀ c z, (plAv 0)[i]? = some c → (plArr B)[i]? = some z → (∀ y, Dz TT g' w' c y → y = z) → us[i] = (plArr B)[i] := fun c z h3 h4 h5 => by
      have h6 := hb6 i c us[i] h3 (by simp [h1])
      rw [h5 _ h6]
      have := (Array.getElem?_eq_some_iff.1 h4).2
      exact this.symm
    have : i = 0 ∨ i = 1 ∨ i = 2 ∨ i = 3 ∨ i = 4 ∨ i = 5 ∨ i = 6 ∨ i = 7 ∨ i = 8 ∨ i = 9 ∨ i = 10 ∨ i = 11 ∨ i = 12 ∨ i = 13 ∨ i = 14 ∨ i = 15 ∨ i = 16 ∨ i = 17 ∨ i = 18 ∨ i = 19 ∨ i = 20 ∨ i = 21 ∨ i = 22 ∨ i = 23 ∨ i = 24 ∨ i = 25 ∨ i = 26 := by omega
    rcases this with rfl | rfl | rfl | rfl | rfl | rfl | rfl | rfl | rfl | rfl | rfl | rfl | rfl | rfl | rfl | rfl | rfl | rfl | rfl | rfl | rfl | rfl | rfl | rfl | rfl | rfl | rfl <;> exact key _ _ rfl rfl fun y h => by cases h; first | rfl | (rw [hB]; rfl)
  subst hu
  cases hd with
  | fn f a b us vs ha hb h1 h2 =>
    have ha' : us = #[] := by simpa using ha.symm
    subst ha'
    obtain ⟨vs⟩ := vs
    match vs, hb with
    | [v0], _ =>
      have h3 := h2 0 _ v0 rfl rfl
      cases h3
      refine ⟨_, _, rfl, hb3, ?_, hup⟩
      refine Nat.le_of_not_lt fun hlt => ?_
      have := (hx.kept (g'.beta c) hlt trivial).1
      rw [hb2] at this
      cases this
end Go.Proofs.Ytpnlhnhjedopgaa
