/- Values in plain words: trees, their texts. -/
import Derived.Test.YtgedlbfdhekdgaaDoorBase
import Derived.Lib.ItoaNum
namespace Go.Proofs.YtgedlbfdhekdgaaDoor
open Go Go.RowKit

inductive VT where
  | mk (kind num : Int) (text : List UInt8) (tags : List Int) (items : List VT)
def VT.kind : VT → Int
  | .mk k _ _ _ _ => k
def VT.num : VT → Int
  | .mk _ n _ _ _ => n
def VT.text : VT → List UInt8
  | .mk _ _ s _ _ => s
def VT.tags : VT → List Int
  | .mk _ _ _ t _ => t
def VT.items : VT → List VT
  | .mk _ _ _ _ l => l
theorem VT.ind {P : VT → Prop} (h : ∀ k n s t l, (∀ x ∈ l, P x) → P (.mk k n s t l)) : ∀ v, P v
  | .mk k n s t l => h k n s t l fun x hx => have := List.sizeOf_lt_of_mem hx; VT.ind h x
termination_by v => SizeOf.sizeOf v
decreasing_by simp; omega
def fig (n : Nat) : UInt8 := if n < 10 then UInt8.ofNat (48 + n) else UInt8.ofNat (97 + n - 10)
def qc (c : UInt8) : List UInt8 := if c.toNat < 32 ∨ c.toNat = 34 ∨ c.toNat = 92 ∨ 126 < c.toNat then [92, fig (c.toNat / 16), fig (c.toNat % 16)] else [c]
def quoteT (s : List UInt8) : List UInt8 := 34 :: (s.flatMap qc ++ [34])
def sepV (i how : Nat) : List UInt8 := if i = 0 then [] else if how < 2 ∨ i % 2 = 0 then [44] else [58]
def tagV (i how : Nat) (tags : List Int) : List UInt8 := if how = 1 then Lib.itoa (tags.getD i 0) ++ [61] else []
def u64N (n : Int) : Nat := (n % 18446744073709551616).toNat
mutual
def textT : VT → List UInt8
  | .mk k n s tags l =>
    if k = 1 then (if n = 0 then [102, 97, 108, 115, 101] else [116, 114, 117, 101])
    else if k = 2 ∨ k = 6 then Lib.itoa n
    else if k = 3 then Lib.decDigits (u64N n)
    else if k = 4 ∨ k = 5 then quoteT s
    else if k = 7 then [91] ++ itemsT l 0 0 tags ++ [93]
    else if k = 8 then [123] ++ itemsT l 0 2 tags ++ [125]
    else if k = 9 then [40] ++ itemsT l 0 1 tags ++ [41]
    else if k = 10 then [60] ++ itemsT l 0 1 tags ++ [62]
    else [63]
def itemsT : List VT → Nat → Nat → List Int → List UInt8
  | [], _, _, _ => []
  | x :: r, i, how, tags => sepV i how ++ tagV i how tags ++ textT x ++ itemsT r (i + 1) how tags
end
theorem textT_mk (k n : Int) (s : List UInt8) (tags : List Int) (l : List VT) : textT (.mk k n s tags l) =
    if k = 1 then (if n = 0 then [102, 97, 108, 115, 101] else [116, 114, 117, 101])
    else if k = 2 ∨ k = 6 then Lib.itoa n
    else if k = 3 then Lib.decDigits (u64N n)
    else if k = 4 ∨ k = 5 then quoteT s
    else if k = 7 then [91] ++ itemsT l 0 0 tags ++ [93]
    else if k = 8 then [123] ++ itemsT l 0 2 tags ++ [125]
    else if k = 9 then [40] ++ itemsT l 0 1 tags ++ [41]
    else if k = 10 then [60] ++ itemsT l 0 1 tags ++ [62]
    else [63] := by rw [textT]
theorem itemsT_app : ∀ (l : List VT) (x : VT) (i how : Nat) (tags : List Int), itemsT (l ++ [x]) i how tags = itemsT l i how tags ++ (sepV (i + l.length) how ++ tagV (i + l.length) how tags ++ textT x)
  | [], x, i, how, tags => by simp [itemsT]
  | y :: l, x, i, how, tags => by
    rw [List.cons_append, itemsT, itemsT_app l x, itemsT, List.length_cons, show i + 1 + l.length = i + (l.length + 1) by omega]
    simp
end Go.Proofs.YtgedlbfdhekdgaaDoor
