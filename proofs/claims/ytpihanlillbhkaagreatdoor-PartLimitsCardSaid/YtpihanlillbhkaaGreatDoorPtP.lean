/- PartSteps. Printed by genptp.py. -/
import Derived.Test.YtpihanlillbhkaaGreatDoorPtL
import Derived.Test.YtpihanlillbhkaaGreatDoorGu
set_option maxRecDepth 100000
set_option linter.unusedSimpArgs false
set_option linter.unusedVariables false
namespace Go.Proofs.YtpihanlillbhkaaGreatDoor
open Go Go.RowKit Go.Proofs

theorem ptx_new {G : Glob} {b : Nat} (h : G b = some (.cells [.nilm, .int .i64 0, .nilm, .int .i64 0, .nilm, .int .i64 0, .nilm, .int .i64 0])) : PtX G b ⟨[], [], [], []⟩ :=
  ⟨⟨[], [], [], []⟩, ⟨.nilm, .nilm, .nilm, .nilm⟩, ⟨h, .inl ⟨rfl, rfl⟩, .inl ⟨rfl, rfl⟩, ⟨⟨h, .inl ⟨rfl, rfl⟩⟩, List.nodup_nil, fun e he => by (cases he), fun e he => by (cases he)⟩, .inl ⟨rfl, rfl⟩, fun i e => by (cases e), fun i e => by (cases e), fun i e => by (cases e), fun i e => by (cases e), fun i e => by (cases e), fun i e => by (cases e)⟩,
    ⟨⟨List.nodup_nil, .refl _, .nil⟩, CInv.nil, FInv.nil, ⟨List.nodup_nil, .refl _, .nil⟩, fun x hx => by (cases hx)⟩⟩
structure PSt (l : List St31) (b : Nat) (G0 : Glob) where
  i : Nat
  hi : i ≤ l.length
  G : Glob
  q : PQ
  X : PtX G b q
  pin : PinK G0 G
  sz : q.size ≤ 56 * i + zws (l.take i)
  cn : q.cn.length ≤ i
end Go.Proofs.YtpihanlillbhkaaGreatDoor
