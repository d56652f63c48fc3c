/- What lasts of values in memory, and what each of the computing words says. -/
import Derived.Test.YtmmmaekaoanceaaAw
namespace Go.Proofs.Ytmmmaekaoanceaa
open Go Go.RowKit

theorem addr_add (b o j : Nat) : (⟨b, o, none⟩ : Addr).add j = ⟨b, o + j, none⟩ := by unfold Addr.add; split <;> simp_all

structure Dx (g : Gh) (w : World) (g' : Gh) (w' : World) : Prop where
  cell : ∀ k i u, g.frz k i → w.cell? ⟨k, i, none⟩ = some u → g'.frz k i ∧ w'.cell? ⟨k, i, none⟩ = some u
  nb : g.nb ≤ g'.nb
  beta : ∀ b, b < g.nb → g'.beta b = g.beta b
theorem Ext.dx {g g' : Gh} {w w' : World} (h : Ext g w g' w') : Dx g w g' w' := ⟨h.cell, h.nb, h.beta⟩
theorem Dx.refl (g : Gh) (w : World) : Dx g w g w := ⟨fun _ _ _ h1 h2 => ⟨h1, h2⟩, Nat.le_refl _, fun _ _ => rfl⟩
theorem Dx.trans {a b c : Gh} {u v w : World} (h : Dx a u b v) (k : Dx b v c w) : Dx a u c w :=
  ⟨fun i j x h1 h2 => let ⟨h3, h4⟩ := h.cell i j x h1 h2; k.cell i j x h3 h4, Nat.le_trans h.nb k.nb, fun i hi => (k.beta i (Nat.lt_of_lt_of_le hi h.nb)).trans (h.beta i hi)⟩
theorem Ext.refl (g : Gh) (w : World) : Ext g w g w := ⟨fun _ _ _ h1 h2 => ⟨h1, h2⟩, Nat.le_refl _, fun _ _ => rfl, fun _ _ _ => ⟨rfl, rfl⟩, Nat.le_refl _, rfl, rfl, rfl⟩
theorem Ext.trans {a b c : Gh} {u v w : World} (h : Ext a u b v) (k : Ext b v c w) : Ext a u c w := by
  have hd := h.dx.trans k.dx
  refine ⟨hd.cell, hd.nb, hd.beta, fun i hi hk => ?_, Nat.le_trans h.size k.size, k.os.trans h.os, k.tape.trans h.tape, k.output.trans h.output⟩
  obtain ⟨h1, h2⟩ := h.kept i hi hk
  obtain ⟨h3, h4⟩ := k.kept i (Nat.lt_of_lt_of_le hi h.size) (by rw [h1]; exact hk)
  exact ⟨h3.trans h1, h4.trans h2⟩

section
variable {T : TypeId → TR} {g g' : Gh} {w w' : World}
theorem Dz.mono {v : AV} {u : Value} (h : Dz T g w v u) (x : Dx g w g' w') : Dz T g' w' v u := by
  induction h with
  | top u h => exact .top u h
  | int k n => exact .int k n
  | bool b => exact .bool b
  | str s => exact .str s
  | agg cs us hl h1 h ih => exact .agg cs us hl h1 ih
  | tup cs us hl h ih => exact .tup cs us hl ih
  | nils => exact .nils
  | slc e els p cap F hc hm hs hp hd ih =>
    refine .slc e els p cap F hc hm hs (fun h0 => ?_) ih
    obtain ⟨b, off, rfl, h⟩ := hp h0
    refine ⟨b, off, rfl, fun i cells hi j hj => ?_⟩
    obtain ⟨h1, h2, h3⟩ := h i cells hi j hj
    exact ⟨(x.cell _ _ _ h1 h2).1, (x.cell _ _ _ h1 h2).2, h3⟩
  | eref cells off b o F hp hd ih =>
    refine .eref cells off b o F (fun j hj => ?_) ih
    obtain ⟨h1, h2, h3⟩ := hp j hj
    exact ⟨(x.cell _ _ _ h1 h2).1, (x.cell _ _ _ h1 h2).2, h3⟩
  | gptr b off hb => rw [← x.beta b hb]; exact .gptr b off (Nat.lt_of_lt_of_le hb x.nb)
  | nilp => exact .nilp
  | fn f a b us vs ha hb h1 h2 ih1 ih2 => exact .fn f a b us vs ha hb ih1 ih2
  | nilf => exact .nilf
  | ifc t v u h ih => exact .ifc t v u ih
  | nili => exact .nili
  | nilm => exact .nilm
  | mp b hb => rw [← x.beta b hb]; exact .mp b (Nat.lt_of_lt_of_le hb x.nb)

theorem OwnAt.mono {o : Nat → Own} {kopt : Option Nat} {e : TypeId} {els : List (List AV)} {u : Value} (h : OwnAt T g w o kopt e els u) (x : Dx g w g' w')
    (hk : ∀ k, kopt = some k → g'.own k = g.own k ∧ w'.heap[k]? = w.heap[k]?) : OwnAt T g' w' o kopt e els u := by
  obtain ⟨xs, h1, h2, h3, h4, h5⟩ := h
  refine ⟨xs, ?_, h2, fun k he => by rw [(hk k he).1]; exact h3 k he, h4, fun i cells hi j y hj => ?_⟩
  · refine ⟨h1.1, ?_⟩
    rcases h1.2 with h | ⟨b, cap, cur, rfl, hb, hg, r⟩
    · exact .inl h
    · refine .inr ⟨b, cap, cur, rfl, hb, ?_, r⟩
      rw [(hk b (by rw [← h2]; rfl)).2]; exact hg
  · obtain ⟨z, h6, h7, h8⟩ := h5 i cells hi j y hj
    exact ⟨z, h6, h7, h8.mono x⟩

theorem OwnAt.lt {o : Nat → Own} {k : Nat} {e : TypeId} {els : List (List AV)} {u : Value} (h : OwnAt T g w o (some k) e els u) : k < w.heap.size := by
  obtain ⟨xs, h1, h2, _⟩ := h
  exact (h1.lt k h2).2
/-- what goes on within a call -/
structure Cx (S : Nat → Prop) (g : Gh) (w : World) (g' : Gh) (w' : World) : Prop where
  dx : Dx g w g' w'
  nl : g.nl ≤ g'.nl
  lam : ∀ j, j < g.nl → g'.lam j = g.lam j
  nt : g.nt ≤ g'.nt
  tok : ∀ j, j < g.nt → ¬ S j → g'.tau j = g.tau j ∧ ∀ k n, g.tau j = some k → g.own k = .tok j n → k < w.heap.size → g'.own k = g.own k ∧ w'.heap[k]? = w.heap[k]?
theorem Cz.mono {v : AV} {u : Value} (h : Cz T g w v u) (x : Cx (fun _ => False) g w g' w') : Cz T g' w' v u := by
  induction h with
  | dz v u h => exact .dz v u (h.mono x.dx)
  | any u => exact .any u
  | own j e els u hj h =>
    obtain ⟨h1, h2⟩ := x.tok j hj (fun h => h)
    refine .own j e els u (Nat.lt_of_lt_of_le hj x.nt) ?_
    rw [h1]
    exact h.mono x.dx (fun k hk => let ⟨_, _, _, h4, _⟩ := h; h2 k _ hk (h4 k hk) (by rw [hk] at h; exact h.lt))
  | lptr j off hj => rw [← x.lam j hj]; exact .lptr j off (Nat.lt_of_lt_of_le hj x.nl)
  | agg cs us hl h1 h ih => exact .agg cs us hl h1 ih
  | tup cs us hl h ih => exact .tup cs us hl ih
  | fn f a b us vs ha hb h1 h2 ih1 ih2 => exact .fn f a b us vs ha hb ih1 ih2
  | ifc t v u h ih => exact .ifc t v u ih

/-- a row of the call's own is data too -/
theorem OwnAt.slc {o : Nat → Own} {kopt : Option Nat} {e : TypeId} {els : List (List AV)} {u : Value} (h : OwnAt T g w o kopt e els u) (ho : ∀ n i, i < n → (o n).lim i) : Dz T g w (.slc e els) u := by
  obtain ⟨xs, h1, h2, h3, h4, h5⟩ := h
  have hx : ∀ (i : Nat) (cells : List AV), els[i]? = some cells → ∀ j, j < (T e).cells → ∃ y, xs[i * (T e).cells + j]? = some y ∧ y.oneCell' = true := by
    intro i cells hi j hj
    have hl := h4 cells (List.mem_of_getElem? hi)
    obtain ⟨y, h6, h7, _⟩ := h5 i cells hi j cells[j] (List.getElem?_eq_getElem (by omega))
    exact ⟨y, h6, h7⟩
  obtain ⟨hlen, ⟨rfl, h0⟩ | ⟨b, cap, cur, rfl, hb, hg, hc, hm, hcs, htk⟩⟩ := h1
  · have : els = [] := List.eq_nil_of_length_eq_zero h0
    subst this
    exact .slc e [] none 0 (fun _ _ => undef) (Nat.le_refl _) (by decide) (fun _ h => by cases h) (fun h => by simp at h) (fun i cells h => by simp at h)
  · have hk := h3 b (by rw [← h2]; rfl)
    have hown : w.ownsRow 0 e (T e).cells (.slice (some ⟨b, 0, none⟩) els.length cap) els.length xs := ⟨hlen, .inr ⟨b, cap, cur, rfl, hb, hg, hc, hm, hcs, htk⟩⟩
    refine .slc e els _ cap (fun i j => xs.getD (i * (T e).cells + j) undef) hc hm h4 (fun h0 => ⟨b, 0, rfl, fun i cells hi j hj => ?_⟩) (fun i cells hi j x hj => ?_)
    · obtain ⟨y, h6, h7⟩ := hx i cells hi j hj
      have h8 := hown.cells (g := b) rfl _ _ h6
      rw [addr_add] at h8
      refine ⟨?_, ?_, ?_⟩
      · unfold Gh.frz
        rw [hk]
        apply ho
        have hi2 := (List.getElem?_eq_some_iff.1 hi).1
        rw [Nat.zero_add]
        calc i * (T e).cells + j < i * (T e).cells + (T e).cells := by omega
          _ = (i + 1) * (T e).cells := by rw [Nat.add_mul, Nat.one_mul]
          _ ≤ els.length * (T e).cells := Nat.mul_le_mul_right _ hi2
      · rw [h8]; simp [List.getD, h6]
      · simp [List.getD, h6, h7]
    · obtain ⟨y, h6, _, h8⟩ := h5 i cells hi j x hj
      simpa [List.getD, h6] using h8
end

/-- the temporaries -/
structure EnvR (T : TypeId → TR) (g : Gh) (w : World) (env : List AV) (a : Act) : Prop where
  size : a.tmps.size = env.length
  vals : ∀ (i : Nat) (v : AV), env[i]? = some v → Cz T g w v (a.tmps.getD i undef)
  defers : a.defers = []
/-- the table of types is the program's -/
def TOk (P : Program) (T : TypeId → TR) : Prop := ∀ t, kindD (T t).desc ≠ none → P.underlying t = some (T t).desc ∧ ∃ i, P.info? t = some i ∧ i.size = (T t).cells ∧ i.bytes = (T t).bytes ∧ i.zero = some (T t).zero ∧ (T t).zero.cells.size = (T t).cells ∧ ((T t).eqok = true → P.stoodInHeld t = false ∧ P.eqGuardType P.depth t = false)

/-- the words that compute -/
theorem nthK_iff {α : Type} {K : α → Prop} : ∀ (n : Nat) (l : List α), nthK n l K ↔ ∃ v, l[n]? = some v ∧ K v
  | _, [] => by simp [nthK]
  | 0, v :: r => by simp [nthK]
  | n + 1, v :: r => by simp [nthK, nthK_iff n r]
theorem dropK_iff {α : Type} {K : List α → Prop} : ∀ (n : Nat) (l : List α), dropK n l K ↔ n ≤ l.length ∧ K (l.drop n)
  | 0, l => by simp [dropK]
  | n + 1, [] => by simp [dropK]
  | n + 1, v :: r => by simp [dropK, dropK_iff n r]
theorem takeK_iff {α : Type} : ∀ (n : Nat) (l : List α) (K : List α → Prop), takeK n l K ↔ n ≤ l.length ∧ K (l.take n)
  | 0, l, K => by simp [takeK]
  | n + 1, [], K => by simp [takeK]
  | n + 1, v :: r, K => by simp [takeK, takeK_iff n r]
theorem putsK_iff {α : Type} : ∀ (n : Nat) (xs l : List α) (K : List α → Prop), putsK n xs l K ↔ n + xs.length ≤ l.length ∧ K (l.take n ++ xs ++ l.drop (n + xs.length))
  | 0, [], l, K => by simp [putsK]
  | 0, x :: xs, [], K => by simp [putsK]
  | 0, x :: xs, v :: r, K => by simp [putsK, putsK_iff 0 xs r]
  | n + 1, [], [], K => by simp [putsK]
  | n + 1, x :: xs, [], K => by simp [putsK]
  | n + 1, xs, v :: r, K => by
    simp only [putsK, putsK_iff n xs r, List.length_cons, List.take_succ_cons, List.cons_append]
    rw [show n + 1 + xs.length = (n + xs.length) + 1 by omega, List.drop_succ_cons]
    simp
theorem snocK_iff {α : Type} : ∀ (l : List α) (x : α) (K : List α → Prop), snocK l x K ↔ K (l ++ [x])
  | [], x, K => by simp [snocK]
  | v :: r, x, K => by simp [snocK, snocK_iff r]
theorem setK_iff {α : Type} : ∀ (n : Nat) (x : α) (l : List α) (K : List α → Prop), setK n x l K ↔ n < l.length ∧ K (l.set n x)
  | 0, x, [], K => by simp [setK]
  | n + 1, x, [], K => by simp [setK]
  | 0, x, v :: r, K => by simp [setK]
  | n + 1, x, v :: r, K => by simp [setK, setK_iff n x r]
end Go.Proofs.Ytmmmaekaoanceaa
