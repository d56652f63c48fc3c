/- A law over a program whose library reads one variable: its block stays as it is. -/
import Derived.Test.YtpihanlillbhkaaGreatDoorLaw
import Derived.Test.YtpihanlillbhkaaGreatDoorGz
import Derived.HandedShaped
set_option maxRecDepth 100000
namespace Go.Proofs.YtpihanlillbhkaaGreatDoor
open Go Go.RowKit Go.Proofs

def ghP (k : Nat) : Gh := ⟨fun i => if i = k then .gbox 0 else .frz, fun _ => k, 1, fun _ => 0, 0, fun _ => none, 0⟩
def globP (k : Nat) (o : Obj) : Glob := fun b => if b = 0 then some (.pin k o) else none
theorem globP_0 (k : Nat) (o : Obj) : globP k o 0 = some (.pin k o) := by simp [globP]
theorem law_pin {P : Program} {T : TypeId → TR} {f : FuncId} {args : List AV} {Q : AV → Glob → Prop} {k : Nat} {o : Obj} (h : CallOk P T f args (globP k o) Q) (hQ : ∀ v G, Q v G → v = .bool true ∧ G 0 = some (.pin k o)) {us : Array Value} {w : World} (hk : w.heap[k]? = some o) (hl : us.size = args.length)
    (hd : ∀ (i : Nat) (a : AV) (u : Value), args[i]? = some a → us[i]? = some u → Dz T (ghP k) w a u) : Calls P f us w (Gives w (.bool true)) := by
  refine (h.calls (ghP k) us w (fun b bx hb => ?_) hl hd).mono fun e w' he => ?_
  · unfold globP at hb
    split at hb
    · rename_i h0
      subst h0
      cases hb
      exact ⟨Nat.zero_lt_one, by simp [ghP], rfl, hk⟩
    · cases hb
  · obtain ⟨u, g', G', v, rfl, hq, hr, hx, hz⟩ := he
    obtain ⟨rfl, hG⟩ := hQ v G' hq
    cases hz
    obtain ⟨_, _, _, hb⟩ := hr 0 _ hG
    refine ⟨rfl, hx.os, hx.tape, hx.output, hx.size, fun j hj => ?_⟩
    by_cases hjk : j = k
    · subst hjk; rw [hk]; exact hb
    · exact (hx.kept j hj (by simp [ghP, hjk, Own.kept])).2
end Go.Proofs.YtpihanlillbhkaaGreatDoor
