/- A step of a partition, as an argument. -/
import Derived.Test.YtofhakbmmgpgdaaGreatDoorLaw
import Derived.Test.YtofhakbmmgpgdaaGreatDoorOpen
import Derived.Test.YtofhakbmmgpgdaaGreatDoorFrame
set_option maxRecDepth 100000
namespace Go.Proofs.YtofhakbmmgpgdaaGreatDoor
open Go Go.RowKit Go.ChangeShapes Go.WideShapes Go.ChangeAt Go.Deep Go.Proofs

structure St31 where
  op : Int
  name : ByteArray
  text : ByteArray
  num : Int
  ticks : Int
  now : Int
  limit : Int
def St31.vals (s : St31) : List Value := [.int .i64 s.op, .string s.name, .string s.text, .int .i64 s.num, .int .u64 s.ticks, .int .i64 s.now, .int .i64 s.limit]
def St31.args (s : St31) : List AV := [.str s.name, .str s.text, .int .i64 s.num, .int .u64 s.ticks]
def St31.av (s : St31) : List AV := [.int .i64 s.op, .str s.name, .str s.text, .int .i64 s.num, .int .u64 s.ticks, .int .i64 s.now, .int .i64 s.limit]
section
variable {H : Type} {enc : TypeId × Value → H} {w : World} {base : Nat} {spare : Nat → Bool} {held : Bool}
theorem st31_cells {n : Nat} {cs : List Value} {y : DataW H × List MemPlace} (h : DataW.trod enc Tryz.prog w base spare held n 37 cs = some y) : ∃ s : St31, cs = s.vals := by
  obtain ⟨ys, m, _, hx, hl, hyl, hf⟩ := DataW.trod_struct Tryz.underlying37 h
  have hl' : cs.length = 7 := hl.trans (by kernel_rfl)
  have h0 := hf 0 _ rfl
  have h1 := hf 1 _ rfl
  have h2 := hf 2 _ rfl
  have h3 := hf 3 _ rfl
  obtain ⟨y0, y1, y2, y3, rfl⟩ := list4 hyl
  match cs, hl' with
  | [x0, x1, x2, x3, x4, x5, x6], _ =>
    obtain ⟨a0, rfl, _, w0⟩ := int_field Tryz.underlying3 h0
    obtain ⟨a5, rfl, _, w5⟩ := int_field Tryz.underlying3 h2
    obtain ⟨a6, rfl, _, w6⟩ := int_field Tryz.underlying3 h3
    obtain ⟨zs, m2, g1, g2, g3, g4⟩ := struct_cells Tryz.underlying35 (by kernel_rfl) (by kernel_rfl) h1
    have g1' : ([x1, x2, x3, x4] : List Value).length = 4 := rfl
    obtain ⟨z0, z1, z2, z3, rfl⟩ := list4 g2
    obtain ⟨a1, rfl, _, _⟩ := string_field Tryz.underlying9 (g4 0 _ _ rfl rfl)
    obtain ⟨a2, rfl, _, _⟩ := string_field Tryz.underlying9 (g4 1 _ _ rfl rfl)
    obtain ⟨a3, rfl, _, _⟩ := int_field Tryz.underlying2 (g4 2 _ _ rfl rfl)
    obtain ⟨a4, rfl, _, _⟩ := int_field Tryz.underlying33 (g4 3 _ _ rfl rfl)
    exact ⟨⟨a0, a1, a2, a3, a4, a5, a6⟩, rfl⟩
theorem st31_arg {r : Reach} {b0 : Nat} {v : Value} {d : DataW H} {p : List MemPlace} (hv : Value.okWide Tryz.prog w r b0 37 v) (h : DataW.Trod enc Tryz.prog w base spare held 37 v d p) : ∃ s : St31, v = .agg s.vals.toArray := by
  obtain ⟨cs, rfl, hsz⟩ := okWide_struct Tryz.underlying37 hv
  obtain ⟨fuel, hf⟩ := h
  obtain ⟨o, h1⟩ := st31_cells (cs := cs.toList) (by simpa [Value.cells] using hf)
  exact ⟨o, by rw [← h1]⟩
end
theorem st31_dz {w : World} (s : St31) : Dz TT gh0 w (.agg s.av) (.agg s.vals.toArray) := by
  refine .agg _ _ rfl (fun u hu => ?_) fun i c u hc hu => ?_
  · simp [St31.vals] at hu
    rcases hu with rfl | rfl | rfl | rfl | rfl | rfl | rfl <;> rfl
  · match i with
    | 0 | 3 | 4 | 5 | 6 => simp [St31.av, St31.vals] at hc hu; subst hc hu; exact .int _ _
    | 1 | 2 => simp [St31.av, St31.vals] at hc hu; subst hc hu; exact .str _
    | i + 7 => simp [St31.av] at hc
end Go.Proofs.YtofhakbmmgpgdaaGreatDoor
