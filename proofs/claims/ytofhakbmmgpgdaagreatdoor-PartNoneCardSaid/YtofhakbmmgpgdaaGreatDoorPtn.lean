/- A partition's box: four stores, each a map and a number. -/
import Derived.Test.YtofhakbmmgpgdaaGreatDoorMapA
set_option maxRecDepth 100000
namespace Go.Proofs.YtofhakbmmgpgdaaGreatDoor
open Go Go.RowKit Go.Proofs

/-- what else lies in the box -/
structure Oth where
  a : AV
  b : AV
  c : AV
  d : AV
  e : AV
  f : AV
def StK (s : Oth) (G : Glob) (b : Nat) (mv : AV) (n : Int) (m : List (AV × AV)) : Prop := G b = some (.cells [mv, .int .i64 n, s.a, s.b, s.c, s.d, s.e, s.f]) ∧ MapG G mv m
def StC (s : Oth) (G : Glob) (b : Nat) (mv : AV) (n : Int) (m : List (AV × AV)) : Prop := G b = some (.cells [s.a, s.b, mv, .int .i64 n, s.c, s.d, s.e, s.f]) ∧ MapG G mv m
def StQ (s : Oth) (G : Glob) (b : Nat) (mv : AV) (n : Int) (m : List (AV × AV)) : Prop := G b = some (.cells [s.a, s.b, s.c, s.d, mv, .int .i64 n, s.e, s.f]) ∧ MapG G mv m
def StL (s : Oth) (G : Glob) (b : Nat) (mv : AV) (n : Int) (m : List (AV × AV)) : Prop := G b = some (.cells [s.a, s.b, s.c, s.d, s.e, s.f, mv, .int .i64 n]) ∧ MapG G mv m
end Go.Proofs.YtofhakbmmgpgdaaGreatDoor
