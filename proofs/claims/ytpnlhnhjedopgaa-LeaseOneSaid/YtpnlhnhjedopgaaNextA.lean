/- The walk of the document's step of reading (concourseref02.Next): it is the reader's step. -/
import Derived.Test.YtpnlhnhjedopgaaReadB
namespace Go.Proofs.Ytpnlhnhjedopgaa
open Go Go.RowKit

/-- a step of reading: a number (1), one up to most (2), a span (3), all (else) -/
structure Stp where
  kind : Int
  most : Int
structure Gt where
  num : Nat
  text : ByteArray
  at_ : Nat
  e : Int
def Stp.val (s : Stp) : Value := .agg #[.int .i64 s.kind, .int .i64 s.most]
def Gt.vals (g : Gt) : List Value := [.int .u64 (g.num : Nat), .string g.text, .int .i64 (g.at_ : Nat), .int .i64 g.e]
def Gt.val (g : Gt) : Value := .agg #[.int .u64 (g.num : Nat), .string g.text, .int .i64 (g.at_ : Nat), .int .i64 g.e]
def nextS (b : ByteArray) (a : Nat) (e : Int) (s : Stp) : Gt :=
  if e ≠ 0 then ⟨0, ⟨#[]⟩, a, e⟩
  else if s.kind = 1 then ⟨(numS b a e).1, ⟨#[]⟩, (numS b a e).2.1, (numS b a e).2.2⟩
  else if s.kind = 2 then ⟨(intS b a e s.most).1, ⟨#[]⟩, (intS b a e s.most).2.1, (intS b a e s.most).2.2⟩
  else if s.kind = 3 then ⟨0, (textS b a e s.most).1, (textS b a e s.most).2.1, (textS b a e s.most).2.2⟩
  else ⟨0, (restS b a e).1, (restS b a e).2.1, (restS b a e).2.2⟩
structure Stp.Ok (s : Stp) : Prop where
  k0 : -9223372036854775808 ≤ s.kind
  k1 : s.kind ≤ 9223372036854775807
  m0 : -9223372036854775808 ≤ s.most
  m1 : s.most ≤ 9223372036854775807
structure Gt.Ok (b : ByteArray) (g : Gt) : Prop where
  n1 : g.num < 18446744073709551616
  t1 : g.text.size ≤ b.size
  a1 : g.at_ ≤ b.size
  e0 : 0 ≤ g.e
  e1 : g.e ≤ 9
theorem nextS_ok {b : ByteArray} {a : Nat} {e : Int} {s : Stp} (hs : s.Ok) (ha : a ≤ b.size) (h0 : 0 ≤ e) (h1 : e ≤ 9) : (nextS b a e s).Ok b := by
  have r1 := numS_bd (b := b) ha h0 h1
  have r2 := intS_bd (b := b) s.most ha h0 h1
  have r3 := textS_bd (b := b) s.most ha h0 h1
  have r4 := restS_bd (b := b) ha h0 h1
  have m1 := hs.m1
  unfold nextS
  split
  · exact ⟨by show 0 < _; omega, by show 0 ≤ _; omega, ha, h0, h1⟩
  · split
    · exact ⟨r1.2.2.2, by show 0 ≤ _; omega, r1.1, r1.2.1, r1.2.2.1⟩
    · split
      · exact ⟨by show (intS b a e s.most).1 < _; omega, by show 0 ≤ _; omega, r2.1, r2.2.1, r2.2.2.1⟩
      · split
        · exact ⟨by show 0 < _; omega, r3.2.2.2, r3.1, r3.2.1, r3.2.2.1⟩
        · exact ⟨by show 0 < _; omega, r4.2.2.2, r4.1, r4.2.1, r4.2.2.1⟩

theorem run_strfrom {P : Program} {t : TypeId} (ht : P.underlying t = some .string) (b : ByteArray) (lo : Int) (h0 : 0 ≤ lo) (h1 : lo ≤ b.size) (w : World) :
    (Instr.slice t (.string b) (some (.int .i64 lo)) none none).run P w = .ok (.string (b.extract lo.toNat b.size)) w := by
  have e1 : lo.toNat ≤ b.size := by omega
  simp [Instr.slice, Instr.sliceBounds, Instr.sliceBound, run_underlying ht, asIntOf, h0, Sem.run_bind, Sem.run_pure]
  omega

theorem nextS_one {b : ByteArray} {a : Nat} {e : Int} {s : Stp} (h : s.kind = 1) : nextS b a e s = ⟨(numS b a e).1, ⟨#[]⟩, (numS b a e).2.1, (numS b a e).2.2⟩ := by
  unfold nextS
  by_cases he : e ≠ 0
  · unfold numS; simp only [if_pos he]
  · rw [if_neg he, if_pos h]
theorem nextS_two {b : ByteArray} {a : Nat} {e : Int} {s : Stp} (h : s.kind = 2) : nextS b a e s = ⟨(intS b a e s.most).1, ⟨#[]⟩, (intS b a e s.most).2.1, (intS b a e s.most).2.2⟩ := by
  unfold nextS
  by_cases he : e ≠ 0
  · unfold intS; simp only [if_pos he]
  · rw [if_neg he, if_neg (by rw [h]; decide), if_pos h]
theorem nextS_three {b : ByteArray} {a : Nat} {e : Int} {s : Stp} (h : s.kind = 3) : nextS b a e s = ⟨0, (textS b a e s.most).1, (textS b a e s.most).2.1, (textS b a e s.most).2.2⟩ := by
  unfold nextS
  by_cases he : e ≠ 0
  · unfold textS; simp only [if_pos he]
  · rw [if_neg he, if_neg (by rw [h]; decide), if_neg (by rw [h]; decide), if_pos h]
theorem nextS_all {b : ByteArray} {a : Nat} {e : Int} {s : Stp} (h1 : ¬ s.kind = 1) (h2 : ¬ s.kind = 2) (h3 : ¬ s.kind = 3) : nextS b a e s = ⟨0, (restS b a e).1, (restS b a e).2.1, (restS b a e).2.2⟩ := by
  unfold nextS
  by_cases he : e ≠ 0
  · unfold restS; simp only [if_pos he]
  · rw [if_neg he, if_neg h1, if_neg h2, if_neg h3]
end Go.Proofs.Ytpnlhnhjedopgaa
