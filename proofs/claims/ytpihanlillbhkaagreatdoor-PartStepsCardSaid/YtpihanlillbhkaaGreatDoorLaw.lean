/- From the abstract run to a law's walk, and from a contract in the model to one in the abstract run. -/
import Derived.Test.YtpihanlillbhkaaGreatDoorGc
import Derived.Test.YtpihanlillbhkaaGreatDoorGz
import Derived.Test.YtpihanlillbhkaaGreatDoorTab
namespace Go.Proofs.YtpihanlillbhkaaGreatDoor
open Go Go.RowKit

def gh0 : Gh := ⟨fun _ => .frz, fun _ => 0, 0, fun _ => 0, 0, fun _ => none, 0⟩
section
variable {P : Program} {T : TypeId → TR}
theorem Ext.up {g g' : Gh} {w w' : World} (h : Ext g w g' w') (hk : ∀ k, (g.own k).kept) : Up w w' :=
  ⟨h.os, h.tape, h.output, h.size, fun k hk' => (h.kept k hk' (hk k)).2⟩
/-- a slice that is handed in -/
theorem row_dz {α : Type} {w : World} {v : Value} {l : List α} {size : Nat} {cells : α → List Value} (h : Row w v l size cells) {e : TypeId} (acells : α → List AV) (hs : (T e).cells = size)
    (hc : ∀ x ∈ l, (acells x).length = size ∧ (cells x).length = size ∧ ∀ (j : Nat) (c : AV) (u : Value), (acells x)[j]? = some c → (cells x)[j]? = some u → u.oneCell' = true ∧ Dz T gh0 w c u) : Dz T gh0 w (.slc e (l.map acells)) v := by
  obtain ⟨p, cap, rfl, h1, h2, h3⟩ := h
  by_cases h0 : 0 < l.length
  · obtain ⟨b, off, rfl, hb, hcell⟩ := h3 h0
    have key : ∀ (i : Nat) (x : α), l[i]? = some x → ∀ j, j < size → ∃ u, (cells x)[j]? = some u ∧ w.cell? ⟨b, off + (i * size + j), none⟩ = some u ∧ u.oneCell' = true ∧ ∀ c, (acells x)[j]? = some c → Dz T gh0 w c u := fun i x hx j hj => by
      obtain ⟨g1, g2, g3⟩ := hc x (List.mem_of_getElem? hx)
      have hu : (cells x)[j]? = some ((cells x)[j]'(by omega)) := List.getElem?_eq_getElem _
      have ha : (acells x)[j]? = some ((acells x)[j]'(by omega)) := List.getElem?_eq_getElem _
      exact ⟨_, hu, hcell i x hx j _ hu, (g3 j _ _ ha hu).1, fun c hc' => (g3 j c _ hc' hu).2⟩
    have hlen : l.length = (l.map acells).length := by simp
    rw [hlen]
    refine .slc e (l.map acells) _ cap (fun i j => (w.cell? ⟨b, off + (i * size + j), none⟩).getD undef) (by simpa using h1) h2 (fun cs hcs => ?_) (fun _ => ⟨b, off, rfl, fun i cs hcs j hj => ?_⟩) (fun i cs hcs j x hx => ?_)
    · obtain ⟨x, hx, rfl⟩ := List.mem_map.1 hcs
      rw [hs]; exact (hc x hx).1
    · rw [List.getElem?_map] at hcs
      cases hli : l[i]? with
      | none => rw [hli] at hcs; cases hcs
      | some x =>
        obtain ⟨u, k1, k2, k3, k4⟩ := key i x hli j (by rw [← hs]; exact hj)
        rw [hs, k2]
        exact ⟨trivial, rfl, k3⟩
    · rw [List.getElem?_map] at hcs
      cases hli : l[i]? with
      | none => rw [hli] at hcs; cases hcs
      | some y =>
        rw [hli] at hcs
        simp only [Option.map_some, Option.some.injEq] at hcs
        subst hcs
        have hj : j < size := by rw [← (hc y (List.mem_of_getElem? hli)).1]; exact (List.getElem?_eq_some_iff.1 hx).1
        obtain ⟨u, k1, k2, k3, k4⟩ := key i y hli j hj
        rw [k2]
        exact k4 x hx
  · have : l = [] := List.eq_nil_of_length_eq_zero (by omega)
    subst this
    exact .slc e [] _ cap (fun _ _ => undef) (Nat.zero_le _) h2 (fun _ h => by cases h) (fun h => absurd h (by simp)) (fun i cs h => by simp at h)
theorem up_ext {w w' : World} (h : Up w w') (g : Gh) : Ext g w g w' := by
  refine ⟨fun k i u h1 h2 => ⟨h1, ?_⟩, Nat.le_refl _, fun _ _ => rfl, fun k hk _ => ⟨rfl, h.block hk⟩, h.size, h.os, h.tape, h.output⟩
  rw [h.cell (cell_lt h2)]; exact h2
theorem CallOk.of_gives {f : FuncId} {args : List AV} {G : Glob} {v : AV} (he : ∃ fn, P.funcs[f]? = some fn ∧ (fn.name == "runtime.NumGoroutine") = false ∧ fn.body.isNone = false)
    (h : ∀ (g : Gh) (us : Array Value) (w : World), us.size = args.length → (∀ (i : Nat) (a : AV) (u : Value), args[i]? = some a → us[i]? = some u → Dz T g w a u) → ∃ u, Dz T g w v u ∧ Calls P f us w (Gives w u)) :
    CallOk P T f args G (fun x G' => x = v ∧ G' = G) := by
  refine ⟨he, fun g us w hG hl hd => ?_⟩
  obtain ⟨u, h1, h2⟩ := h g us w hl hd
  refine h2.mono fun e w' hh => ?_
  obtain ⟨rfl, hu⟩ := hh
  have ext := up_ext hu g
  refine ⟨u, g, G, v, rfl, ⟨rfl, rfl⟩, ?_, ext, h1.mono ext.dx⟩
  exact hG.keep ext.dx fun b k _ _ hlt => ⟨rfl, hu.block hlt⟩
end
/-- a slice of the abstract run, in the words of the old contracts -/
theorem dz_row {α : Type} {T : TypeId → TR} {g : Gh} {w : World} {u : Value} {e : TypeId} {l : List α} {size : Nat} {acells : α → List AV} {cells : α → List Value} (h : Dz T g w (.slc e (l.map acells)) u) (hs : (T e).cells = size) (h0 : 0 < size)
    (hc : ∀ x ∈ l, (cells x).length = size ∧ ∀ (j : Nat) (c : AV) (y z : Value), (acells x)[j]? = some c → (cells x)[j]? = some y → Dz T g w c z → z = y) : Row w u l size cells := by
  obtain ⟨p, cap, rfl, h1, h2, h3, h4⟩ := slc_cells h
  rw [hs] at h4
  rw [List.length_map] at h1 h4 ⊢
  refine ⟨p, cap, rfl, h1, h2, fun hl => ?_⟩
  obtain ⟨b, off, F, rfl, hF⟩ := h4 hl
  refine ⟨b, off, rfl, ?_, fun i x hx j u hj => ?_⟩
  · have hx : l[0]? = some l[0] := List.getElem?_eq_getElem hl
    exact cell_lt (hF 0 (acells l[0]) (by rw [List.getElem?_map, hx]; rfl) 0 h0).2.1
  · obtain ⟨g1, g2⟩ := hc x (List.mem_of_getElem? hx)
    have hjl : j < size := by rw [← g1]; exact (List.getElem?_eq_some_iff.1 hj).1
    have hm : (l.map acells)[i]? = some (acells x) := by rw [List.getElem?_map, hx]; rfl
    obtain ⟨q1, q2, q3, q4⟩ := hF i _ hm j hjl
    have hal : (acells x).length = size := by rw [h3 _ (List.mem_of_getElem? hm), hs]
    have ha : (acells x)[j]? = some ((acells x)[j]'(by omega)) := List.getElem?_eq_getElem _
    rw [q2, g2 j _ u _ ha hj (q4 _ ha)]
/-- all that is new is never written again -/
def Gh.still (g : Gh) (w : World) : Gh := { g with own := fun k => if w.heap.size ≤ k then .frz else g.own k }
theorem still_ext {g : Gh} {w w' : World} (hu : Up w w') : Ext g w (g.still w) w' := by
  have lt : ∀ k, k < w.heap.size → (g.still w).own k = g.own k := fun k hk => if_neg (by omega)
  refine ⟨fun k i u h1 h2 => ?_, Nat.le_refl _, fun _ _ => rfl, fun k hk _ => ⟨lt k hk, hu.block hk⟩, hu.size, hu.os, hu.tape, hu.output⟩
  have hk := cell_lt h2
  unfold Gh.frz at *
  rw [lt k hk, hu.cell hk]
  exact ⟨h1, h2⟩
theorem still_rel {T : TypeId → TR} {g : Gh} {w w' : World} {G : Glob} (hG : GRel T g G w) (hu : Up w w') : GRel T (g.still w) G w' := by
  exact hG.keep (still_ext hu).dx fun b k _ _ hlt => ⟨by unfold Gh.still; simp only; rw [if_neg (by omega)], hu.block hlt⟩
theorem own_dz {T : TypeId → TR} {g : Gh} {w w' : World} {e : TypeId} {size n : Nat} {v : Value} {xs : List Value} {els : List (List AV)} (h : w'.ownsRow w.heap.size e size v n xs) (hs : (T e).cells = size) (hn : n = els.length)
    (hel : ∀ (i : Nat) (cells : List AV), els[i]? = some cells → cells.length = size ∧ ∀ (j : Nat) (x : AV), cells[j]? = some x → ∃ y, xs[i * size + j]? = some y ∧ y.oneCell' = true ∧ Dz T (g.still w) w' x y) : Dz T (g.still w) w' (.slc e els) v := by
  subst hs hn
  have h0 : w'.ownsRow 0 e (T e).cells v els.length xs := by
    refine ⟨h.1, ?_⟩
    rcases h.2 with h1 | ⟨b, cap, cur, rfl, hb, r⟩
    · exact .inl h1
    · exact .inr ⟨b, cap, cur, rfl, Nat.zero_le _, r⟩
  refine OwnAt.slc (o := fun _ => .frz) (kopt := v.ownBlock) ⟨xs, h0, rfl, fun k hk => ?_, fun cells hc => ?_, fun i cells hi j x hj => (hel i cells hi).2 j x hj⟩ (fun _ _ _ => trivial)
  · have := (h.lt k hk).1
    exact if_pos this
  · obtain ⟨i, hi⟩ := List.getElem?_of_mem hc
    exact (hel i cells hi).1
theorem CallOk.of_up {P : Program} {T : TypeId → TR} {f : FuncId} {args : List AV} {G : Glob} {v : AV} (he : ∃ fn, P.funcs[f]? = some fn ∧ (fn.name == "runtime.NumGoroutine") = false ∧ fn.body.isNone = false)
    (h : ∀ (g : Gh) (us : Array Value) (w : World), us.size = args.length → (∀ (i : Nat) (a : AV) (u : Value), args[i]? = some a → us[i]? = some u → Dz T g w a u) → Calls P f us w (fun e w' => ∃ u, e = .returned u ∧ Up w w' ∧ Dz T (g.still w) w' v u)) :
    CallOk P T f args G (fun x G' => x = v ∧ G' = G) := by
  refine ⟨he, fun g us w hG hl hd => ?_⟩
  refine (h g us w hl hd).mono fun e w' hh => ?_
  obtain ⟨u, rfl, hu, hz⟩ := hh
  exact ⟨u, g.still w, G, v, rfl, ⟨rfl, rfl⟩, still_rel hG hu, still_ext hu, hz⟩
theorem flat_get {α β : Type} {cells : α → List β} {size : Nat} : ∀ (l : List α) (i : Nat) (x : α) (j : Nat) (y : β), (∀ x ∈ l, (cells x).length = size) → l[i]? = some x → (cells x)[j]? = some y → (l.flatMap cells)[i * size + j]? = some y
  | [], i, x, j, y, _, h, _ => by simp at h
  | a :: l, 0, x, j, y, hc, h, hj => by
    simp only [List.getElem?_cons_zero, Option.some.injEq] at h
    subst h
    rw [List.flatMap_cons, Nat.zero_mul, Nat.zero_add, List.getElem?_append_left (List.getElem?_eq_some_iff.1 hj).1]
    exact hj
  | a :: l, i + 1, x, j, y, hc, h, hj => by
    have ha := hc a (by simp)
    have h1 : (i + 1) * size + j = (i * size + j) + size := by rw [Nat.add_mul]; omega
    rw [List.flatMap_cons, h1, List.getElem?_append_right (by omega), ha, Nat.add_sub_cancel]
    exact flat_get l i x j y (fun x hx => hc x (by simp [hx])) (by simpa using h) hj
theorem atG {G : Glob} {b : Nat} {bx : GB} {K : GB → Prop} (h : G b = some bx) (k : K bx) : ∃ bx, G b = some bx ∧ K bx := ⟨bx, h, k⟩
theorem setG_twice (G : Glob) (b : Nat) (x y : GB) : setG (setG G b x) b y = setG G b y := by funext i; simp only [setG]; split <;> rfl
end Go.Proofs.YtpihanlillbhkaaGreatDoor
