/- Words that all texts of this seat use: a world that has only grown ('Up'), a string made of a list of bytes ('S'). -/
import Derived.WalkKit
import Derived.Lib.Hide
import Derived.ProofKit
import Derived.OpenShut
import Derived.ShutString
import Derived.Deep.QuietTactic
import Derived.BigQuiet
namespace Go.Proofs.YtgedlbfdhekdgaaDoor
open Go Go.RowKit

/-- the string of a list of bytes -/
def S (l : List UInt8) : ByteArray := ⟨l.toArray⟩
theorem S_size (l : List UInt8) : (S l).size = l.length := by simp [S, ByteArray.size]
theorem S_list (l : List UInt8) : (S l).data.toList = l := by simp [S]
theorem S_toList (l : List UInt8) : (S l).toList = l := by simp [S]
theorem S_of (s : ByteArray) : S s.data.toList = s := by cases s; simp [S]
theorem S_append (a b : List UInt8) : S a ++ S b = S (a ++ b) := by
  apply ByteArray.ext; simp [S, ByteArray.data_append]
theorem S_cat (l : List UInt8) (s : ByteArray) : S l ++ s = S (l ++ s.data.toList) := by rw [← S_append, S_of]
theorem S_inj {a b : List UInt8} (h : S a = S b) : a = b := by
  have := congrArg (fun s => s.data.toList) h; simpa [S] using this
theorem S_nil : S [] = ⟨#[]⟩ := rfl
theorem S_extract (l : List UInt8) (i j : Nat) : (S l).extract i j = S ((l.drop i).take (j - i)) := by
  apply ByteArray.ext; simp [S, ByteArray.data_extract]
theorem S_get (l : List UInt8) (i : Nat) (h : i < (S l).size) : (S l)[i] = l[i]'(by rw [S_size] at h; exact h) := by
  simp [S, ByteArray.getElem_eq_getElem_data]

/-- w' is w with new blocks behind it; whatever was there is as it was -/
def Up (w w' : World) : Prop := Below w.heap.size w w'
theorem Up.below {w w' : World} (h : Up w w') : Below w.heap.size w w' := h
theorem Up.refl (w : World) : Up w w := Below.refl _ _
theorem Up.size {w w' : World} (h : Up w w') : w.heap.size ≤ w'.heap.size := Below.size h
theorem Up.trans {a b c : World} (h : Up a b) (k : Up b c) : Up a c := Below.trans h (Below.mono k h.size)
theorem Up.drew {w w' : World} (h : Up w w') : Up w w'.drew := Below.drew h
theorem Up.drewN {w w' : World} (h : Up w w') (n : Nat) : Up w (w'.drewN n) := ⟨h.os, h.tape, h.output, h.size, h.block⟩
theorem Up.alloc {w w' : World} (h : Up w w') (o : Obj) : Up w (w'.alloc o) := Below.alloc h h.size o
theorem Up.set {w w' : World} (h : Up w w') {p : Addr} (hp : w.heap.size ≤ p.block) (u : Value) : Up w (w'.setCell p u) := Below.setCell h hp u
theorem Up.grown {w a b : World} {row : Option Nat} (h : Up w a) (hg : a.grownBy b row) (hr : ∀ k, row = some k → w.heap.size ≤ k) : Up w b := Below.grown h hg h.size hr
theorem Up.of_below {w a b : World} {B : Nat} (h : Up w a) (k : Below B a b) (hB : w.heap.size ≤ B) : Up w b := Below.trans h (Below.mono k hB)
theorem Up.cell {w w' : World} (h : Up w w') {p : Addr} (hp : p.block < w.heap.size) : w'.cell? p = w.cell? p := Below.cell h hp
theorem Up.frozen {w w' : World} (h : Up w w') {p : Addr} (hp : p.block < w.heap.size) : w'.frozen? p = w.frozen? p := Below.frozen h hp
theorem Up.block {w w' : World} (h : Up w w') {k : Nat} (hk : k < w.heap.size) : w'.heap[k]? = w.heap[k]? := Below.block h k hk

/-- the call hands back v; whatever was there is as it was -/
def Gives (w : World) (v : Value) (e : Ending) (w' : World) : Prop := e = .returned v ∧ Up w w'
theorem Gives.mk {w : World} {v v' : Value} {w' : World} (h : v' = v) (hu : Up w w') : Gives w v (.returned v') w' := ⟨by rw [h], hu⟩

/-- a slice type, its element, the element's zero, cells and bytes -/
def Row1 (P : Program) (t e : TypeId) (z : Value) (size bytes : Nat) : Prop :=
  P.underlying t = some (.slice e) ∧ (P.info? e).map (fun i => (i.zero, i.size, i.bytes)) = some (some z, size, bytes) ∧ z.cells.size = size ∧ 0 < size

/-- append of one element that was just laid in a block of its own -/
theorem wpList_app1 {P : Program} {ops : Array Oper} {rest : List Oper} {o : Oper} {a : Act} {Q : Exit → Act → World → Prop} (hgd : o.guard = none) (s x : Operand) (t e : TypeId)
    (ho : o.op = .call { callee := .builtin .append, args := #[s, x], argTypes := #[t, t] })
    {z : Value} {size bytes : Nat} (hr : Row1 P t e z size bytes) {w0 wr : World} (hup : Up w0 wr)
    {v : Value} {n : Nat} {xs : List Value} (hown : wr.ownsRow w0.heap.size e size v n xs) (hs : a.eval s = v) (us : Array Value) (hx : a.eval x = .slice (some ⟨wr.heap.size, 0, none⟩) 1 1)
    (hl : us.size = size) (h1 : ∀ u ∈ us.toList, u.oneCell' = true) (h63 : n + 1 ≤ maxLen) (hbytes : (n + 1) * bytes ≤ 140737488355328)
    (h : ∀ v' w', w'.ownsRow w0.heap.size e size v' (n + 1) (xs ++ us.toList) → Up w0 w' → wpList P ops Q rest (a.put o.dst v') w') :
    wpList P ops Q (o :: rest) a (wr.alloc (.cells us e (0, 0))) := by
  obtain ⟨ht, hi, hzs, hsz⟩ := hr
  obtain ⟨i0, hi0, hz0, hz1, hz2⟩ := info_parts hi
  refine wpList_append_own _ hgd s x t ho w0.heap.size e i0 z size bytes ht hi0 hz0 hz1 hz2 hzs hsz v n xs hs (hown.alloc _) ⟨wr.heap.size, 0, none⟩ 1 1 us.toList hx (by simp [hl]) ?_ h1 h63 hbytes ?_ ?_
  · intro j u hj
    have := World.cell?_alloc_mark wr us e (0, 0) j
    have hadd : (⟨wr.heap.size, 0, none⟩ : Addr).add j = ⟨wr.heap.size, j, none⟩ := by unfold Addr.add; split <;> simp_all
    rw [hadd, this]
    simpa using hj
  · have := hup.size; simp; omega
  · intro v' w' hown' hg _
    refine h v' w' hown' ((hup.alloc _).grown hg ?_)
    intro k hk
    exact ((hown.lt) k hk).1

/-- 'string(b)' of a row of bytes of the call's own -/
theorem conv_row {P : Program} {w : World} (src dst e : TypeId) {base n : Nat} {v : Value} {l : List UInt8} (hs : P.underlying src = some (.slice e)) (he : P.underlying e = some (.int .u8)) (hd : P.underlying dst = some .string)
    (hown : w.ownsRow base e 1 v n (l.map fun b => .int .u8 (b.toNat : Int))) : (convert src dst v).run P w = .ok (.string (S l)) w := by
  have hlen : n = l.length := by have := hown.1; simp at this; omega
  subst hlen
  rcases hown.2 with ⟨rfl, h0⟩ | ⟨g, cap, cur, rfl, _, _, _, _, _, _⟩
  · have : l = [] := List.eq_nil_of_length_eq_zero h0
    subst this
    exact run_convert_bytes_nil (P := P) w src e hs he 0 0 dst hd
  · refine run_convert_bytes_back (P := P) w src dst e ⟨g, 0, none⟩ cap l hs he hd ?_
    intro j hj
    have := hown.cells (g := g) rfl j (.int .u8 (l[j].toNat : Int)) (by simp [hj])
    exact this

/-- 'string(b)' of a new block of one byte -/
theorem conv_one {P : Program} (w : World) (src dst e t : TypeId) (n : Int) (hs : P.underlying src = some (.slice e)) (he : P.underlying e = some (.int .u8)) (hd : P.underlying dst = some .string) (h0 : 0 ≤ n) (h1 : n ≤ 255) :
    (convert src dst (.slice (some ⟨w.heap.size, 0, none⟩) 1 1)).run P (w.alloc (.cells #[.int .u8 n] t (0, 0))) = .ok (.string (S [UInt8.ofNat n.toNat])) (w.alloc (.cells #[.int .u8 n] t (0, 0))) := by
  have h := run_convert_bytes_back (P := P) (w.alloc (.cells #[.int .u8 n] t (0, 0))) src dst e ⟨w.heap.size, 0, none⟩ 1 [UInt8.ofNat n.toNat] hs he hd (by
    intro j hj
    obtain rfl : j = 0 := by simp at hj; exact hj
    have := World.cell?_alloc_mark w #[.int .u8 n] t (0, 0) 0
    simp only [Addr.add] at *
    simp
    omega)
  exact h

/-- a world that has only grown out of w0: the class in which a region that draws its order is walked once -/
structure Grow (w0 : World) where
  world : World
  up : Up w0 world
def gro {w0 : World} (e : Grow w0) : World := e.world
instance (w0 : World) : Nonempty (Grow w0) := ⟨⟨w0, Up.refl _⟩⟩
theorem gro_up {w0 : World} (e : Grow w0) : Up w0 (gro e) := e.up
@[go_sem] theorem gro_cell {w0 : World} (e : Grow w0) (b o : Nat) (s : Option Nat) (h : b < w0.heap.size) : (gro e).cell? ⟨b, o, s⟩ = w0.cell? ⟨b, o, s⟩ := (gro_up e).cell h
@[go_sem] theorem gro_frozen {w0 : World} (e : Grow w0) (b o : Nat) (s : Option Nat) (h : b < w0.heap.size) : (gro e).frozen? ⟨b, o, s⟩ = w0.frozen? ⟨b, o, s⟩ := (gro_up e).frozen h
theorem quiet_up {P : Program} {f : FuncId} {args : Array Value} {w0 : World} {e : Grow w0} {v : Value} (h : Calls P f args (gro e) (Gives (gro e) v)) :
    Calls P f args (gro e) (fun x w'' => x = .returned v ∧ ∃ e2 : Grow w0, w'' = gro e2) :=
  h.mono fun _ w'' ⟨he, hw⟩ => ⟨he, ⟨w'', Up.trans (gro_up e) hw⟩, rfl⟩
theorem wpQuiet_mono {P : Program} {ops : Array Oper} {C : World → Prop} {Q Q' : Act → Prop} (hq : ∀ a, Q a → Q' a) : ∀ (l : List Oper) (a : Act), wpQuiet P ops C Q l a → wpQuiet P ops C Q' l a
  | [], a, h => hq a h
  | o :: l, a, h => by
    unfold wpQuiet at *
    split
    · rename_i hw; rw [if_pos hw] at h; exact Oper.quiet_mono (wpQuiet_mono hq l) h
    · rename_i hw; rw [if_neg hw] at h; exact wpQuiet_mono hq l _ h
theorem wp_region_up {P : Program} {id : Nat} {Q : Exit → Act → World → Prop} {a : Act} {w w0 : World} {l : List Oper} (hm : P.follows .mixedOrders = true) (hB : Region.lexB .any l.toArray = true)
    (hup : Up w0 w) (h : wpQuiet P l.toArray (fun w' => ∃ e : Grow w0, w' = gro e) (fun a' => ∀ w', Up w0 w' → Q .normal a' w') l a) : (Code.region id l.toArray true).wp P Q a w :=
  wp_region_quiet (C := fun w' => ∃ e : Grow w0, w' = gro e) hm hB ⟨⟨_, Up.drew hup⟩, rfl⟩ (by
    rw [show l.toArray.toList = l from rfl]
    exact wpQuiet_mono (fun a' h w' ⟨e, he⟩ => h w' (by rw [he]; exact gro_up e)) l a h)

/-- 's[lo:hi]' of a string, within its bounds -/
theorem run_strslice {P : Program} {t : TypeId} (ht : P.underlying t = some .string) (b : ByteArray) (lo hi : Int) (h0 : 0 ≤ lo) (h1 : lo ≤ hi) (h2 : hi ≤ b.size) (w : World) :
    (Instr.slice t (.string b) (some (.int .i64 lo)) (some (.int .i64 hi)) none).run P w = .ok (.string (b.extract lo.toNat hi.toNat)) w := by
  have e0 : (0 : Int) ≤ hi := by omega
  have e1 : hi.toNat ≤ b.size := by omega
  simp [Instr.slice, Instr.sliceBounds, Instr.sliceBound, run_underlying ht, asIntOf, h0, h2, e0, Sem.run_bind, Sem.run_pure]
  intro h
  omega

/-- a block of cells of the call's own: what it holds, and what a store makes of it -/
theorem blk_cell {w : World} {g : Nat} {cs : Array Value} {T : TypeId} {fr : Nat × Nat} (h : w.heap[g]? = some (.cells cs T fr)) (o : Nat) : w.cell? ⟨g, o, none⟩ = cs[o]? := by simp [World.cell?, h]
theorem blk_free {w : World} {g : Nat} {cs : Array Value} {T : TypeId} (h : w.heap[g]? = some (.cells cs T (0, 0))) (o : Nat) : w.frozen? ⟨g, o, none⟩ = false := by simp [World.frozen?, h]
theorem blk_lt {w : World} {g : Nat} {o : Obj} (h : w.heap[g]? = some o) : g < w.heap.size := lt_of_block h
theorem blk_set {w : World} {g : Nat} {cs : Array Value} {T : TypeId} {fr : Nat × Nat} (h : w.heap[g]? = some (.cells cs T fr)) (o : Nat) (v : Value) : (w.setCell ⟨g, o, none⟩ v).heap[g]? = some (.cells (cs.setIfInBounds o v) T fr) := by
  have hg := blk_lt h
  simp only [World.setCell, Array.getElem?_modify, h]
  simp
theorem blk_alloc {w : World} {g : Nat} {o o' : Obj} (h : w.heap[g]? = some o) : (w.alloc o').heap[g]? = some o := by rw [Below.heap_alloc _ _ _ (blk_lt h)]; exact h
theorem blk_new (w : World) (o : Obj) : (w.alloc o).heap[w.heap.size]? = some o := by
  show (w.heap.push o)[w.heap.size]? = _
  simp

/-- of the blocks that were there at most block g has turned -/
def Only (g : Nat) (w w' : World) : Prop := w.grownBy w' (some g)
theorem Only.refl (g : Nat) (w : World) : Only g w w := ⟨rfl, rfl, rfl, Nat.le_refl _, fun _ _ _ => rfl⟩
theorem Only.size {g : Nat} {w w' : World} (h : Only g w w') : w.heap.size ≤ w'.heap.size := World.grownBy.size h
theorem Only.block {g : Nat} {w w' : World} (h : Only g w w') {k : Nat} (hk : k < w.heap.size) (hne : k ≠ g) : w'.heap[k]? = w.heap[k]? := World.grownBy.block h k hk (by simpa using hne)
theorem Only.trans {g : Nat} {a b c : World} (h : Only g a b) (k : Only g b c) : Only g a c :=
  ⟨k.os.trans h.os, k.tape.trans h.tape, k.output.trans h.output, Nat.le_trans h.size k.size, fun i hi hne =>
    (World.grownBy.block k i (Nat.lt_of_lt_of_le hi h.size) hne).trans (World.grownBy.block h i hi hne)⟩
theorem Only.of_up {g : Nat} {a b c : World} (h : Only g a b) (k : Up b c) : Only g a c :=
  ⟨k.os.trans h.os, k.tape.trans h.tape, k.output.trans h.output, Nat.le_trans h.size k.size, fun i hi hne => (Up.block k (Nat.lt_of_lt_of_le hi h.size)).trans (World.grownBy.block h i hi hne)⟩
theorem Only.up {g : Nat} {a b : World} (h : Up a b) : Only g a b := (Only.refl g a).of_up h
theorem Only.drew {g : Nat} {a b : World} (h : Only g a b) : Only g a b.drew := h.of_up ((Up.refl _).drew)
theorem Only.alloc {g : Nat} {a b : World} (h : Only g a b) (o : Obj) : Only g a (b.alloc o) := h.of_up ((Up.refl _).alloc o)
theorem Only.set {g : Nat} {a b : World} (h : Only g a b) (o : Nat) (v : Value) : Only g a (b.setCell ⟨g, o, none⟩ v) :=
  ⟨h.os, h.tape, h.output, by have := h.size; simp [World.setCell]; exact this, fun i hi hne => by
    rw [Below.heap_setCell _ _ _ _ (by simpa using fun e => hne (by rw [e]))]; exact World.grownBy.block h i hi hne⟩
theorem Up.only {g : Nat} {a b c : World} (h : Up a b) (k : Only g b c) (hg : a.heap.size ≤ g) : Up a c := h.grown k (fun i hi => by cases hi; exact hg)

theorem Up.keep {w w' : World} (hu : Up w w') {k : Nat} {o : Obj} (h : w.heap[k]? = some o) : w'.heap[k]? = some o := by rw [hu.block (blk_lt h)]; exact h
theorem Only.keep {g : Nat} {w w' : World} (hu : Only g w w') {k : Nat} {o : Obj} (h : w.heap[k]? = some o) (hne : k ≠ g) : w'.heap[k]? = some o := by rw [hu.block (blk_lt h) hne]; exact h

theorem results_tmp4 {fn : Func} {t u v x : Tmp} (h : fn.results = #[.tmp t, .tmp u, .tmp v, .tmp x]) (tmps : Array Value) (P : Program) (w : World) :
    (results fn tmps).run P w = .ok (.tuple #[tmps.getD t undef, tmps.getD u undef, tmps.getD v undef, tmps.getD x undef]) w := by
  simp [results, h]

theorem ret_eq {a b : Value} (h : a = b) : Ending.returned a = .returned b := by rw [h]
end Go.Proofs.YtgedlbfdhekdgaaDoor
