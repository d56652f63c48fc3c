/- What an abstract value says of a value in memory: data that nobody writes any more, rows of the call's own, boxes; who owns which block. -/
import Derived.Test.YtmmmaekaoanceaaAv
import Derived.MapKept
import Derived.Lib.AppendStr
namespace Go.Proofs.Ytmmmaekaoanceaa
open Go Go.RowKit
open Go.MapKept (Stamped)

/-- whose a block is: nobody writes it; nobody but a caller does, and its first cells are data; a shared box; a local box; a row of the call's own, its first n cells being data; such a row in a shared box -/
inductive Own where
  | frz
  | prot (n : Nat)
  | gbox (b : Nat)
  | lbox (j : Nat)
  | tok (j n : Nat)
  | gtok (b off n : Nat)
def Own.lim : Own → Nat → Prop
  | .frz, _ => True
  | .prot n, i => i < n
  | .tok _ n, i => i < n
  | .gtok _ _ n, i => i < n
  | _, _ => False
/-- the block is a shared box's, or of a row that the box owns -/
def Own.ofBox : Own → Nat → Prop
  | .gbox b, c => b = c
  | .gtok b _ _, c => b = c
  | _, _ => False
def Own.kept : Own → Prop
  | .frz => True
  | .prot _ => True
  | _ => False
structure Gh where
  own : Nat → Own
  beta : Nat → Nat
  nb : Nat
  lam : Nat → Nat
  nl : Nat
  tau : Nat → Option Nat
  nt : Nat
def Gh.frz (g : Gh) (k i : Nat) : Prop := (g.own k).lim i

section
variable (T : TypeId → TR)
/-- pure data -/
inductive Dz (g : Gh) (w : World) : AV → Value → Prop
  | top (u : Value) (h : u.oneCell' = true) : Dz g w .top u
  | int (k : IntKind) (n : Int) : Dz g w (.int k n) (.int k n)
  | bool (b : Bool) : Dz g w (.bool b) (.bool b)
  | str (s : ByteArray) : Dz g w (.str s) (.string s)
  | agg (cs : List AV) (us : Array Value) (hl : cs.length = us.size) (h1 : ∀ u ∈ us, u.oneCell' = true) (h : ∀ (i : Nat) (c : AV) (u : Value), cs[i]? = some c → us[i]? = some u → Dz g w c u) : Dz g w (.agg cs) (.agg us)
  | tup (cs : List AV) (us : Array Value) (hl : cs.length = us.size) (h : ∀ (i : Nat) (c : AV) (u : Value), cs[i]? = some c → us[i]? = some u → Dz g w c u) : Dz g w (.tup cs) (.tuple us)
  | nils : Dz g w .nils (.slice none 0 0)
  | slc (e : TypeId) (els : List (List AV)) (p : Option Addr) (cap : Nat) (F : Nat → Nat → Value) (hc : els.length ≤ cap) (hm : cap ≤ maxLen) (hs : ∀ cells ∈ els, cells.length = (T e).cells)
      (hp : 0 < els.length → ∃ b off, p = some ⟨b, off, none⟩ ∧ ∀ (i : Nat) (cells : List AV), els[i]? = some cells → ∀ j, j < (T e).cells → g.frz b (off + (i * (T e).cells + j)) ∧ w.cell? ⟨b, off + (i * (T e).cells + j), none⟩ = some (F i j) ∧ (F i j).oneCell' = true)
      (hd : ∀ (i : Nat) (cells : List AV), els[i]? = some cells → ∀ (j : Nat) (x : AV), cells[j]? = some x → Dz g w x (F i j)) : Dz g w (.slc e els) (.slice p els.length cap)
  | eref (cells : List AV) (off b o : Nat) (F : Nat → Value) (hp : ∀ j, j < cells.length → g.frz b (o + j) ∧ w.cell? ⟨b, o + j, none⟩ = some (F j) ∧ (F j).oneCell' = true)
      (hd : ∀ (j : Nat) (x : AV), cells[j]? = some x → Dz g w x (F j)) : Dz g w (.eref cells off) (.pointer (some ⟨b, o + off, none⟩))
  | gptr (b off : Nat) (hb : b < g.nb) : Dz g w (.gptr b off) (.pointer (some ⟨g.beta b, off, none⟩))
  | nilp : Dz g w .nilp (.pointer none)
  | fn (f : Fn) (a b : List AV) (us vs : Array Value) (ha : a.length = us.size) (hb : b.length = vs.size) (h1 : ∀ (i : Nat) (c : AV) (u : Value), a[i]? = some c → us[i]? = some u → Dz g w c u) (h2 : ∀ (i : Nat) (c : AV) (u : Value), b[i]? = some c → vs[i]? = some u → Dz g w c u) : Dz g w (.fn f a b) (.func f us vs)
  | nilf : Dz g w .nilf .nilFunc
  | ifc (t : TypeId) (v : AV) (u : Value) (h : Dz g w v u) : Dz g w (.ifc t v) (.iface t u)
  | nili : Dz g w .nili .nilIface
  | nilm : Dz g w .nilm (.map none)
  | mp (b : Nat) (hb : b < g.nb) : Dz g w (.mp b) (.map (some (g.beta b)))

/-- a row of the call's own: nobody else writes behind it -/
def OwnAt (g : Gh) (w : World) (o : Nat → Own) (kopt : Option Nat) (e : TypeId) (els : List (List AV)) (u : Value) : Prop :=
  ∃ xs : List Value, w.ownsRow 0 e (T e).cells u els.length xs ∧ u.ownBlock = kopt ∧ (∀ k, kopt = some k → g.own k = o (els.length * (T e).cells)) ∧ (∀ cells ∈ els, cells.length = (T e).cells) ∧
    ∀ (i : Nat) (cells : List AV), els[i]? = some cells → ∀ (j : Nat) (x : AV), cells[j]? = some x → ∃ y, xs[i * (T e).cells + j]? = some y ∧ y.oneCell' = true ∧ Dz T g w x y

/-- a value within a call -/
inductive Cz (g : Gh) (w : World) : AV → Value → Prop
  | dz (v : AV) (u : Value) (h : Dz T g w v u) : Cz g w v u
  | any (u : Value) : Cz g w .top u
  | own (j : Nat) (e : TypeId) (els : List (List AV)) (u : Value) (hj : j < g.nt) (h : OwnAt T g w (.tok j) (g.tau j) e els u) : Cz g w (.own j e els) u
  | lptr (j off : Nat) (hj : j < g.nl) : Cz g w (.lptr j off) (.pointer (some ⟨g.lam j, off, none⟩))
  | agg (cs : List AV) (us : Array Value) (hl : cs.length = us.size) (h1 : ∀ u ∈ us, u.oneCell' = true) (h : ∀ (i : Nat) (c : AV) (u : Value), cs[i]? = some c → us[i]? = some u → Cz g w c u) : Cz g w (.agg cs) (.agg us)
  | tup (cs : List AV) (us : Array Value) (hl : cs.length = us.size) (h : ∀ (i : Nat) (c : AV) (u : Value), cs[i]? = some c → us[i]? = some u → Cz g w c u) : Cz g w (.tup cs) (.tuple us)
  | fn (f : Fn) (a b : List AV) (us vs : Array Value) (ha : a.length = us.size) (hb : b.length = vs.size) (h1 : ∀ (i : Nat) (c : AV) (u : Value), a[i]? = some c → us[i]? = some u → Cz g w c u) (h2 : ∀ (i : Nat) (c : AV) (u : Value), b[i]? = some c → vs[i]? = some u → Cz g w c u) : Cz g w (.fn f a b) (.func f us vs)
  | ifc (t : TypeId) (v : AV) (u : Value) (h : Cz g w v u) : Cz g w (.ifc t v) (.iface t u)

/-- a block holds cells -/
def CellsAt (w : World) (k : Nat) (R : AV → Value → Prop) (cells : List AV) : Prop :=
  ∃ us e, w.heap[k]? = some (.cells us e (0, 0)) ∧ us.size = cells.length ∧ (∀ u ∈ us, u.oneCell' = true) ∧ ∀ (i : Nat) (c : AV) (u : Value), cells[i]? = some c → us[i]? = some u → R c u
/-- a row that a box owns, at a place of its cells -/
def RowAt (g : Gh) (w : World) (b : Nat) (us : Array Value) (x : Nat × TypeId × List (List AV)) : Prop :=
  ∃ u, us[x.1]? = some u ∧ OwnAt T g w (.gtok b x.1) u.ownBlock x.2.1 x.2.2 u
def keyAt : Option IntKind → AV → Value → Prop
  | none, .str a, .string b => a = b
  | some q, .int q' a, .int q'' b => q' = q ∧ q'' = q ∧ a = b
  | _, _, _ => False
def BoxAt (g : Gh) (w : World) (b : Nat) : GB → Prop
  | .cells cs => CellsAt w (g.beta b) (Dz T g w) cs
  | .box cs gs => ∃ us e, w.heap[g.beta b]? = some (.cells us e (0, 0)) ∧ us.size = cs.length ∧ (∀ u ∈ us, u.oneCell' = true) ∧ (∀ (i : Nat) (c : AV) (u : Value), cs[i]? = some c → us[i]? = some u → Dz T g w c u) ∧ ∀ x ∈ gs, RowAt T g w b us x
  | .bld s => ∃ t e p v, (T t).bld = some e ∧ w.heap[g.beta b]? = some (.cells #[p, v] t (0, 0)) ∧ (p = .pointer none ∨ p = .pointer (some ⟨g.beta b, 0, none⟩)) ∧ w.ownsRow 0 e 1 v s.size (Lib.strCells s) ∧ v.ownBlock ≠ some (g.beta b) ∧ (∀ k, v.ownBlock = some k → g.own k = .gtok b 1 0) ∧ (s.size = 0 → v = .slice none 0 0)
  | .map kd m => ∃ es clock, w.heap[g.beta b]? = some (.map es clock) ∧ Stamped es clock ∧ es.size = m.length ∧ ∀ (i : Nat) (x : AV × AV) (y : MapEntry), m[i]? = some x → es[i]? = some y → keyAt kd x.1 y.key ∧ Dz T g w x.2 y.val
def LocAt (g : Gh) (w : World) (j : Nat) : LB → Prop
  | .live org cells => g.own (g.lam j) = .lbox j ∧ CellsAt w (g.lam j) (Cz T g w) cells ∧ ∀ b, org = some b → b < g.nb ∧ g.beta b = g.lam j
  | .away b => b < g.nb ∧ g.beta b = g.lam j
  | .dead => True
def GRel (g : Gh) (G : Glob) (w : World) : Prop := ∀ b bx, G b = some bx → b < g.nb ∧ g.own (g.beta b) = .gbox b ∧ BoxAt T g w b bx
structure Rel (g : Gh) (L : List LB) (nl nt : Nat) (G : Glob) (w : World) : Prop where
  glob : GRel T g G w
  loc : ∀ (j : Nat) (bx : LB), L[j]? = some bx → LocAt T g w j bx
  hL : L.length = nl
  hl : g.nl = nl
  ht : g.nt = nt
end
/-- what goes on: data stay, names stay, what is kept is as it was -/
structure Ext (g : Gh) (w : World) (g' : Gh) (w' : World) : Prop where
  cell : ∀ k i u, g.frz k i → w.cell? ⟨k, i, none⟩ = some u → g'.frz k i ∧ w'.cell? ⟨k, i, none⟩ = some u
  nb : g.nb ≤ g'.nb
  beta : ∀ b, b < g.nb → g'.beta b = g.beta b
  kept : ∀ k, k < w.heap.size → (g.own k).kept → g'.own k = g.own k ∧ w'.heap[k]? = w.heap[k]?
  size : w.heap.size ≤ w'.heap.size
  os : w'.os = w.os
  tape : w'.tape = w.tape
  output : w'.output = w.output
/-- the call hands back a value, and leaves shared boxes, so that Q -/
structure CallOk (P : Program) (T : TypeId → TR) (f : FuncId) (args : List AV) (G : Glob) (Q : AV → Glob → Prop) : Prop where
  enters : ∃ fn, P.funcs[f]? = some fn ∧ (fn.name == "runtime.NumGoroutine") = false ∧ fn.body.isNone = false
  calls : ∀ (g : Gh) (us : Array Value) (w : World), GRel T g G w → us.size = args.length → (∀ (i : Nat) (a : AV) (u : Value), args[i]? = some a → us[i]? = some u → Dz T g w a u) →
    Calls P f us w (fun e w' => ∃ u g' G' v, e = .returned u ∧ Q v G' ∧ GRel T g' G' w' ∧ Ext g w g' w' ∧ Dz T g' w' v u)
end Go.Proofs.Ytmmmaekaoanceaa
