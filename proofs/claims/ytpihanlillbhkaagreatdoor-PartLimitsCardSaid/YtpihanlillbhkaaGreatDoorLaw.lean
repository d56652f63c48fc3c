/- From the abstract run to a law's walk, and from a contract in the model to one in the abstract run. -/
import Derived.Test.YtpihanlillbhkaaGreatDoorGc
import Derived.Test.YtpihanlillbhkaaGreatDoorGz
import Derived.Test.YtpihanlillbhkaaGreatDoorTab
namespace Go.Proofs.YtpihanlillbhkaaGreatDoor
open Go Go.RowKit

section
variable {P : Program} {T : TypeId → TR}
theorem Ext.up {g g' : Gh} {w w' : World} (h : Ext g w g' w') (hk : ∀ k, (g.own k).kept) : Up w w' :=
  ⟨h.os, h.tape, h.output, h.size, fun k hk' => (h.kept k hk' (hk k)).2⟩
theorem up_ext {w w' : World} (h : Up w w') (g : Gh) : Ext g w g w' := by
  refine ⟨fun k i u h1 h2 => ⟨h1, ?_⟩, Nat.le_refl _, fun _ _ => rfl, fun k hk _ => ⟨rfl, h.block hk⟩, h.size, h.os, h.tape, h.output⟩
  rw [h.cell (cell_lt h2)]; exact h2
end
/-- all that is new is never written again -/
def Gh.still (g : Gh) (w : World) : Gh := { g with own := fun k => if w.heap.size ≤ k then .frz else g.own k }
theorem still_ext {g : Gh} {w w' : World} (hu : Up w w') : Ext g w (g.still w) w' := by
  have lt : ∀ k, k < w.heap.size → (g.still w).own k = g.own k := fun k hk => if_neg (by omega)
  refine ⟨fun k i u h1 h2 => ?_, Nat.le_refl _, fun _ _ => rfl, fun k hk _ => ⟨lt k hk, hu.block hk⟩, hu.size, hu.os, hu.tape, hu.output⟩
  have hk := cell_lt h2
  unfold Gh.frz at *
  rw [lt k hk, hu.cell hk]
  exact ⟨h1, h2⟩
theorem still_rel {T : TypeId → TR} {g : Gh} {w w' : World} {G : Glob} (hG : GRel T g G w) (hu : Up w w') : GRel T (g.still w) G w' := by
  exact hG.keep (still_ext hu).dx fun b k _ _ hlt => ⟨by unfold Gh.still; simp only; rw [if_neg (by omega)], hu.block hlt⟩
theorem own_dz {T : TypeId → TR} {g : Gh} {w w' : World} {e : TypeId} {size n : Nat} {v : Value} {xs : List Value} {els : List (List AV)} (h : w'.ownsRow w.heap.size e size v n xs) (hs : (T e).cells = size) (hn : n = els.length)
    (hel : ∀ (i : Nat) (cells : List AV), els[i]? = some cells → cells.length = size ∧ ∀ (j : Nat) (x : AV), cells[j]? = some x → ∃ y, xs[i * size + j]? = some y ∧ y.oneCell' = true ∧ Dz T (g.still w) w' x y) : Dz T (g.still w) w' (.slc e els) v := by
  subst hs hn
  have h0 : w'.ownsRow 0 e (T e).cells v els.length xs := by
    refine ⟨h.1, ?_⟩
    rcases h.2 with h1 | ⟨b, cap, cur, rfl, hb, r⟩
    · exact .inl h1
    · exact .inr ⟨b, cap, cur, rfl, Nat.zero_le _, r⟩
  refine OwnAt.slc (o := fun _ => .frz) (kopt := v.ownBlock) ⟨xs, h0, rfl, fun k hk => ?_, fun cells hc => ?_, fun i cells hi j x hj => (hel i cells hi).2 j x hj⟩ (fun _ _ _ => trivial)
  · have := (h.lt k hk).1
    exact if_pos this
  · obtain ⟨i, hi⟩ := List.getElem?_of_mem hc
    exact (hel i cells hi).1
theorem CallOk.of_up {P : Program} {T : TypeId → TR} {f : FuncId} {args : List AV} {G : Glob} {v : AV} (he : ∃ fn, P.funcs[f]? = some fn ∧ (fn.name == "runtime.NumGoroutine") = false ∧ fn.body.isNone = false)
    (h : ∀ (g : Gh) (us : Array Value) (w : World), us.size = args.length → (∀ (i : Nat) (a : AV) (u : Value), args[i]? = some a → us[i]? = some u → Dz T g w a u) → Calls P f us w (fun e w' => ∃ u, e = .returned u ∧ Up w w' ∧ Dz T (g.still w) w' v u)) :
    CallOk P T f args G (fun x G' => x = v ∧ G' = G) := by
  refine ⟨he, fun g us w hG hl hd => ?_⟩
  refine (h g us w hl hd).mono fun e w' hh => ?_
  obtain ⟨u, rfl, hu, hz⟩ := hh
  exact ⟨u, g.still w, G, v, rfl, ⟨rfl, rfl⟩, still_rel hG hu, still_ext hu, hz⟩
theorem atG {G : Glob} {b : Nat} {bx : GB} {K : GB → Prop} (h : G b = some bx) (k : K bx) : ∃ bx, G b = some bx ∧ K bx := ⟨bx, h, k⟩
theorem setG_twice (G : Glob) (b : Nat) (x y : GB) : setG (setG G b x) b y = setG G b y := by funext i; simp only [setG]; split <;> rfl
end Go.Proofs.YtpihanlillbhkaaGreatDoor
