/- The program's types, a row each, and that the rows are the program's. -/
import Derived.Test.YtofhakbmmgpgdaaProg
import Derived.Test.YtofhakbmmgpgdaaGb
set_option maxRecDepth 100000
namespace Go.Proofs.Ytofhakbmmgpgdaa
open Go Go.RowKit Go.Proofs

structure RowOk (P : Program) (t : TypeId) (r : TR) : Prop where
  und : P.underlying t = some r.desc
  info : (P.info? t).map (fun i => (i.size, i.bytes, i.zero)) = some (r.cells, r.bytes, some r.zero)
  size : r.zero.cells.size = r.cells
  eq : r.eqok = true → P.stoodInHeld t = false ∧ P.eqGuardType P.depth t = false
def AllOk (P : Program) : List (TypeId × TR) → Prop
  | [] => True
  | (t, r) :: l => RowOk P t r ∧ AllOk P l
def rowNone : TR := ⟨.invalid, 0, 0, .tuple #[], false, none⟩
def lookT : List (TypeId × TR) → TypeId → TR
  | [], _ => rowNone
  | (k, r) :: l, t => match Nat.beq k t with
    | true => r
    | false => lookT l t
theorem lookT_ok {P : Program} : ∀ (l : List (TypeId × TR)), AllOk P l → TOk P (lookT l)
  | [], _ => fun t h => absurd rfl h
  | (k, r) :: l, ⟨h1, h2⟩ => fun t h => by
    unfold lookT at h ⊢
    cases hb : Nat.beq k t with
    | true =>
      have e := Nat.eq_of_beq_eq_true hb
      subst e
      obtain ⟨i, hi, he⟩ := Option.map_eq_some_iff.1 h1.info
      simp only [Prod.mk.injEq] at he
      exact ⟨h1.und, i, hi, he.1, he.2.1, he.2.2, h1.size, h1.eq⟩
    | false =>
      rw [hb] at h
      exact lookT_ok l h2 t h
def row1 : TR := ⟨.func #[] #[] false, 1, 8, .nilFunc, false, none⟩
theorem row1_ok : RowOk Try.prog 1 row1 := ⟨by kernel_rfl, by kernel_rfl, by kernel_rfl, fun h => (by cases h)⟩
def row2 : TR := ⟨.int .i64, 1, 8, .int .i64 0, false, none⟩
theorem row2_ok : RowOk Try.prog 2 row2 := ⟨by kernel_rfl, by kernel_rfl, by kernel_rfl, fun h => (by cases h)⟩
def row3 : TR := ⟨.int .i64, 1, 8, .int .i64 0, false, none⟩
theorem row3_ok : RowOk Try.prog 3 row3 := ⟨by kernel_rfl, by kernel_rfl, by kernel_rfl, fun h => (by cases h)⟩
def row4 : TR := ⟨.bool, 1, 1, .bool false, false, none⟩
theorem row4_ok : RowOk Try.prog 4 row4 := ⟨by kernel_rfl, by kernel_rfl, by kernel_rfl, fun h => (by cases h)⟩
def row5 : TR := ⟨.int .u8, 1, 1, .int .u8 0, false, none⟩
theorem row5_ok : RowOk Try.prog 5 row5 := ⟨by kernel_rfl, by kernel_rfl, by kernel_rfl, fun h => (by cases h)⟩
def row9 : TR := ⟨.string, 1, 16, .string ⟨#[]⟩, false, none⟩
theorem row9_ok : RowOk Try.prog 9 row9 := ⟨by kernel_rfl, by kernel_rfl, by kernel_rfl, fun h => (by cases h)⟩
def row12 : TR := ⟨.int .u64, 1, 8, .int .u64 0, false, none⟩
theorem row12_ok : RowOk Try.prog 12 row12 := ⟨by kernel_rfl, by kernel_rfl, by kernel_rfl, fun h => (by cases h)⟩
def row20 : TR := ⟨.interface #[], 1, 16, .nilIface, false, none⟩
theorem row20_ok : RowOk Try.prog 20 row20 := ⟨by kernel_rfl, by kernel_rfl, by kernel_rfl, fun h => (by cases h)⟩
def row21 : TR := ⟨.int .i32, 1, 4, .int .i32 0, false, none⟩
theorem row21_ok : RowOk Try.prog 21 row21 := ⟨by kernel_rfl, by kernel_rfl, by kernel_rfl, fun h => (by cases h)⟩
def row22 : TR := ⟨.func #[9] #[4] false, 1, 8, .nilFunc, false, none⟩
theorem row22_ok : RowOk Try.prog 22 row22 := ⟨by kernel_rfl, by kernel_rfl, by kernel_rfl, fun h => (by cases h)⟩
def row23 : TR := ⟨.func #[] #[4] false, 1, 8, .nilFunc, false, none⟩
theorem row23_ok : RowOk Try.prog 23 row23 := ⟨by kernel_rfl, by kernel_rfl, by kernel_rfl, fun h => (by cases h)⟩
def row24 : TR := ⟨.slice 36, 1, 24, .slice none 0 0, false, none⟩
theorem row24_ok : RowOk Try.prog 24 row24 := ⟨by kernel_rfl, by kernel_rfl, by kernel_rfl, fun h => (by cases h)⟩
def row25 : TR := ⟨.int .i64, 1, 8, .int .i64 0, false, none⟩
theorem row25_ok : RowOk Try.prog 25 row25 := ⟨by kernel_rfl, by kernel_rfl, by kernel_rfl, fun h => (by cases h)⟩
def row26 : TR := ⟨.struct #[⟨ "Err", 25, 0, false, "", "", 0⟩, ⟨ "At", 3, 1, false, "", "", 8⟩], 2, 16, .agg #[.int .i64 0, .int .i64 0], true, none⟩
theorem row26_ok : RowOk Try.prog 26 row26 := ⟨by kernel_rfl, by kernel_rfl, by kernel_rfl, fun _ => ⟨by kernel_rfl, by kernel_rfl⟩⟩
def row27 : TR := ⟨.struct #[⟨ "Err", 25, 0, false, "", "", 0⟩, ⟨ "At", 3, 1, false, "", "", 8⟩], 2, 16, .agg #[.int .i64 0, .int .i64 0], true, none⟩
theorem row27_ok : RowOk Try.prog 27 row27 := ⟨by kernel_rfl, by kernel_rfl, by kernel_rfl, fun _ => ⟨by kernel_rfl, by kernel_rfl⟩⟩
def row29 : TR := ⟨.func #[9] #[24, 27] false, 1, 8, .nilFunc, false, none⟩
theorem row29_ok : RowOk Try.prog 29 row29 := ⟨by kernel_rfl, by kernel_rfl, by kernel_rfl, fun h => (by cases h)⟩
def row30 : TR := ⟨.func #[24, 24, 4] #[4] false, 1, 8, .nilFunc, false, none⟩
theorem row30_ok : RowOk Try.prog 30 row30 := ⟨by kernel_rfl, by kernel_rfl, by kernel_rfl, fun h => (by cases h)⟩
def row31 : TR := ⟨.func #[9, 9] #[4] false, 1, 8, .nilFunc, false, none⟩
theorem row31_ok : RowOk Try.prog 31 row31 := ⟨by kernel_rfl, by kernel_rfl, by kernel_rfl, fun h => (by cases h)⟩
def row32 : TR := ⟨.slice 9, 1, 24, .slice none 0 0, false, none⟩
theorem row32_ok : RowOk Try.prog 32 row32 := ⟨by kernel_rfl, by kernel_rfl, by kernel_rfl, fun h => (by cases h)⟩
def row33 : TR := ⟨.slice 41, 1, 24, .slice none 0 0, false, none⟩
theorem row33_ok : RowOk Try.prog 33 row33 := ⟨by kernel_rfl, by kernel_rfl, by kernel_rfl, fun h => (by cases h)⟩
def row34 : TR := ⟨.slice 65, 1, 24, .slice none 0 0, false, none⟩
theorem row34_ok : RowOk Try.prog 34 row34 := ⟨by kernel_rfl, by kernel_rfl, by kernel_rfl, fun h => (by cases h)⟩
def row35 : TR := ⟨.struct #[⟨ "Kind", 3, 0, false, "", "", 0⟩, ⟨ "Name", 9, 1, false, "", "", 8⟩, ⟨ "Fields", 33, 2, false, "", "", 24⟩, ⟨ "Methods", 34, 3, false, "", "", 48⟩, ⟨ "At", 3, 4, false, "", "", 72⟩], 5, 80, .agg #[.int .i64 0, .string ⟨#[]⟩, .slice none 0 0, .slice none 0 0, .int .i64 0], false, none⟩
theorem row35_ok : RowOk Try.prog 35 row35 := ⟨by kernel_rfl, by kernel_rfl, by kernel_rfl, fun h => (by cases h)⟩
def row36 : TR := ⟨.struct #[⟨ "Kind", 3, 0, false, "", "", 0⟩, ⟨ "Name", 9, 1, false, "", "", 8⟩, ⟨ "Fields", 33, 2, false, "", "", 24⟩, ⟨ "Methods", 34, 3, false, "", "", 48⟩, ⟨ "At", 3, 4, false, "", "", 72⟩], 5, 80, .agg #[.int .i64 0, .string ⟨#[]⟩, .slice none 0 0, .slice none 0 0, .int .i64 0], false, none⟩
theorem row36_ok : RowOk Try.prog 36 row36 := ⟨by kernel_rfl, by kernel_rfl, by kernel_rfl, fun h => (by cases h)⟩
def row37 : TR := ⟨.slice 39, 1, 24, .slice none 0 0, false, none⟩
theorem row37_ok : RowOk Try.prog 37 row37 := ⟨by kernel_rfl, by kernel_rfl, by kernel_rfl, fun h => (by cases h)⟩
def row38 : TR := ⟨.struct #[⟨ "Kind", 3, 0, false, "", "", 0⟩, ⟨ "Name", 9, 1, false, "", "", 8⟩, ⟨ "Of", 37, 2, false, "", "", 24⟩], 3, 48, .agg #[.int .i64 0, .string ⟨#[]⟩, .slice none 0 0], false, none⟩
theorem row38_ok : RowOk Try.prog 38 row38 := ⟨by kernel_rfl, by kernel_rfl, by kernel_rfl, fun h => (by cases h)⟩
def row39 : TR := ⟨.struct #[⟨ "Kind", 3, 0, false, "", "", 0⟩, ⟨ "Name", 9, 1, false, "", "", 8⟩, ⟨ "Of", 37, 2, false, "", "", 24⟩], 3, 48, .agg #[.int .i64 0, .string ⟨#[]⟩, .slice none 0 0], false, none⟩
theorem row39_ok : RowOk Try.prog 39 row39 := ⟨by kernel_rfl, by kernel_rfl, by kernel_rfl, fun h => (by cases h)⟩
def row40 : TR := ⟨.struct #[⟨ "Tag", 3, 0, false, "", "", 0⟩, ⟨ "Name", 9, 1, false, "", "", 8⟩, ⟨ "Type", 39, 2, false, "", "", 24⟩], 5, 72, .agg #[.int .i64 0, .string ⟨#[]⟩, .int .i64 0, .string ⟨#[]⟩, .slice none 0 0], false, none⟩
theorem row40_ok : RowOk Try.prog 40 row40 := ⟨by kernel_rfl, by kernel_rfl, by kernel_rfl, fun h => (by cases h)⟩
def row41 : TR := ⟨.struct #[⟨ "Tag", 3, 0, false, "", "", 0⟩, ⟨ "Name", 9, 1, false, "", "", 8⟩, ⟨ "Type", 39, 2, false, "", "", 24⟩], 5, 72, .agg #[.int .i64 0, .string ⟨#[]⟩, .int .i64 0, .string ⟨#[]⟩, .slice none 0 0], false, none⟩
theorem row41_ok : RowOk Try.prog 41 row41 := ⟨by kernel_rfl, by kernel_rfl, by kernel_rfl, fun h => (by cases h)⟩
def row42 : TR := ⟨.slice 50, 1, 24, .slice none 0 0, false, none⟩
theorem row42_ok : RowOk Try.prog 42 row42 := ⟨by kernel_rfl, by kernel_rfl, by kernel_rfl, fun h => (by cases h)⟩
def row44 : TR := ⟨.func #[9] #[42, 27] false, 1, 8, .nilFunc, false, none⟩
theorem row44_ok : RowOk Try.prog 44 row44 := ⟨by kernel_rfl, by kernel_rfl, by kernel_rfl, fun h => (by cases h)⟩
def row45 : TR := ⟨.pointer 47, 1, 8, .pointer none, false, none⟩
theorem row45_ok : RowOk Try.prog 45 row45 := ⟨by kernel_rfl, by kernel_rfl, by kernel_rfl, fun h => (by cases h)⟩
def row46 : TR := ⟨.struct #[⟨ "l", 42, 0, false, "", "concourse/parse", 0⟩, ⟨ "at", 3, 1, false, "", "concourse/parse", 24⟩, ⟨ "f", 27, 2, false, "", "concourse/parse", 32⟩], 4, 48, .agg #[.slice none 0 0, .int .i64 0, .int .i64 0, .int .i64 0], false, none⟩
theorem row46_ok : RowOk Try.prog 46 row46 := ⟨by kernel_rfl, by kernel_rfl, by kernel_rfl, fun h => (by cases h)⟩
def row47 : TR := ⟨.struct #[⟨ "l", 42, 0, false, "", "concourse/parse", 0⟩, ⟨ "at", 3, 1, false, "", "concourse/parse", 24⟩, ⟨ "f", 27, 2, false, "", "concourse/parse", 32⟩], 4, 48, .agg #[.slice none 0 0, .int .i64 0, .int .i64 0, .int .i64 0], false, none⟩
theorem row47_ok : RowOk Try.prog 47 row47 := ⟨by kernel_rfl, by kernel_rfl, by kernel_rfl, fun h => (by cases h)⟩
def row48 : TR := ⟨.func #[] #[36] false, 1, 8, .nilFunc, false, none⟩
theorem row48_ok : RowOk Try.prog 48 row48 := ⟨by kernel_rfl, by kernel_rfl, by kernel_rfl, fun h => (by cases h)⟩
def row49 : TR := ⟨.struct #[⟨ "Kind", 3, 0, false, "", "", 0⟩, ⟨ "Text", 9, 1, false, "", "", 8⟩, ⟨ "Num", 3, 2, false, "", "", 24⟩, ⟨ "At", 3, 3, false, "", "", 32⟩], 4, 40, .agg #[.int .i64 0, .string ⟨#[]⟩, .int .i64 0, .int .i64 0], true, none⟩
theorem row49_ok : RowOk Try.prog 49 row49 := ⟨by kernel_rfl, by kernel_rfl, by kernel_rfl, fun _ => ⟨by kernel_rfl, by kernel_rfl⟩⟩
def row50 : TR := ⟨.struct #[⟨ "Kind", 3, 0, false, "", "", 0⟩, ⟨ "Text", 9, 1, false, "", "", 8⟩, ⟨ "Num", 3, 2, false, "", "", 24⟩, ⟨ "At", 3, 3, false, "", "", 32⟩], 4, 40, .agg #[.int .i64 0, .string ⟨#[]⟩, .int .i64 0, .int .i64 0], true, none⟩
theorem row50_ok : RowOk Try.prog 50 row50 := ⟨by kernel_rfl, by kernel_rfl, by kernel_rfl, fun _ => ⟨by kernel_rfl, by kernel_rfl⟩⟩
def row51 : TR := ⟨.func #[] #[50] false, 1, 8, .nilFunc, false, none⟩
theorem row51_ok : RowOk Try.prog 51 row51 := ⟨by kernel_rfl, by kernel_rfl, by kernel_rfl, fun h => (by cases h)⟩
def row52 : TR := ⟨.func #[25] #[] false, 1, 8, .nilFunc, false, none⟩
theorem row52_ok : RowOk Try.prog 52 row52 := ⟨by kernel_rfl, by kernel_rfl, by kernel_rfl, fun h => (by cases h)⟩
def row53 : TR := ⟨.func #[36, 36] #[4] false, 1, 8, .nilFunc, false, none⟩
theorem row53_ok : RowOk Try.prog 53 row53 := ⟨by kernel_rfl, by kernel_rfl, by kernel_rfl, fun h => (by cases h)⟩
def row54 : TR := ⟨.func #[9, 9] #[3] false, 1, 8, .nilFunc, false, none⟩
theorem row54_ok : RowOk Try.prog 54 row54 := ⟨by kernel_rfl, by kernel_rfl, by kernel_rfl, fun h => (by cases h)⟩
def row55 : TR := ⟨.pointer 57, 1, 8, .pointer none, false, none⟩
theorem row55_ok : RowOk Try.prog 55 row55 := ⟨by kernel_rfl, by kernel_rfl, by kernel_rfl, fun h => (by cases h)⟩
def row56 : TR := ⟨.struct #[⟨ "s", 9, 0, false, "", "concourse/lex", 0⟩, ⟨ "at", 3, 1, false, "", "concourse/lex", 16⟩, ⟨ "out", 42, 2, false, "", "concourse/lex", 24⟩], 3, 48, .agg #[.string ⟨#[]⟩, .int .i64 0, .slice none 0 0], false, none⟩
theorem row56_ok : RowOk Try.prog 56 row56 := ⟨by kernel_rfl, by kernel_rfl, by kernel_rfl, fun h => (by cases h)⟩
def row57 : TR := ⟨.struct #[⟨ "s", 9, 0, false, "", "concourse/lex", 0⟩, ⟨ "at", 3, 1, false, "", "concourse/lex", 16⟩, ⟨ "out", 42, 2, false, "", "concourse/lex", 24⟩], 3, 48, .agg #[.string ⟨#[]⟩, .int .i64 0, .slice none 0 0], false, none⟩
theorem row57_ok : RowOk Try.prog 57 row57 := ⟨by kernel_rfl, by kernel_rfl, by kernel_rfl, fun h => (by cases h)⟩
def row58 : TR := ⟨.func #[] #[25] false, 1, 8, .nilFunc, false, none⟩
theorem row58_ok : RowOk Try.prog 58 row58 := ⟨by kernel_rfl, by kernel_rfl, by kernel_rfl, fun h => (by cases h)⟩
def row59 : TR := ⟨.func #[3, 9, 3, 3] #[] false, 1, 8, .nilFunc, false, none⟩
theorem row59_ok : RowOk Try.prog 59 row59 := ⟨by kernel_rfl, by kernel_rfl, by kernel_rfl, fun h => (by cases h)⟩
def row60 : TR := ⟨.func #[] #[3] false, 1, 8, .nilFunc, false, none⟩
theorem row60_ok : RowOk Try.prog 60 row60 := ⟨by kernel_rfl, by kernel_rfl, by kernel_rfl, fun h => (by cases h)⟩
def row61 : TR := ⟨.func #[] #[9] false, 1, 8, .nilFunc, false, none⟩
theorem row61_ok : RowOk Try.prog 61 row61 := ⟨by kernel_rfl, by kernel_rfl, by kernel_rfl, fun h => (by cases h)⟩
def row62 : TR := ⟨.func #[9] #[] false, 1, 8, .nilFunc, false, none⟩
theorem row62_ok : RowOk Try.prog 62 row62 := ⟨by kernel_rfl, by kernel_rfl, by kernel_rfl, fun h => (by cases h)⟩
def row63 : TR := ⟨.func #[3] #[39] false, 1, 8, .nilFunc, false, none⟩
theorem row63_ok : RowOk Try.prog 63 row63 := ⟨by kernel_rfl, by kernel_rfl, by kernel_rfl, fun h => (by cases h)⟩
def row64 : TR := ⟨.struct #[⟨ "Tag", 3, 0, false, "", "", 0⟩, ⟨ "Name", 9, 1, false, "", "", 8⟩, ⟨ "In", 9, 2, false, "", "", 24⟩, ⟨ "Out", 9, 3, false, "", "", 40⟩, ⟨ "OneWay", 4, 4, false, "", "", 56⟩], 5, 64, .agg #[.int .i64 0, .string ⟨#[]⟩, .string ⟨#[]⟩, .string ⟨#[]⟩, .bool false], true, none⟩
theorem row64_ok : RowOk Try.prog 64 row64 := ⟨by kernel_rfl, by kernel_rfl, by kernel_rfl, fun _ => ⟨by kernel_rfl, by kernel_rfl⟩⟩
def row65 : TR := ⟨.struct #[⟨ "Tag", 3, 0, false, "", "", 0⟩, ⟨ "Name", 9, 1, false, "", "", 8⟩, ⟨ "In", 9, 2, false, "", "", 24⟩, ⟨ "Out", 9, 3, false, "", "", 40⟩, ⟨ "OneWay", 4, 4, false, "", "", 56⟩], 5, 64, .agg #[.int .i64 0, .string ⟨#[]⟩, .string ⟨#[]⟩, .string ⟨#[]⟩, .bool false], true, none⟩
theorem row65_ok : RowOk Try.prog 65 row65 := ⟨by kernel_rfl, by kernel_rfl, by kernel_rfl, fun _ => ⟨by kernel_rfl, by kernel_rfl⟩⟩
def row66 : TR := ⟨.func #[] #[65] false, 1, 8, .nilFunc, false, none⟩
theorem row66_ok : RowOk Try.prog 66 row66 := ⟨by kernel_rfl, by kernel_rfl, by kernel_rfl, fun h => (by cases h)⟩
def row67 : TR := ⟨.func #[1] #[] false, 1, 8, .nilFunc, false, none⟩
theorem row67_ok : RowOk Try.prog 67 row67 := ⟨by kernel_rfl, by kernel_rfl, by kernel_rfl, fun h => (by cases h)⟩
def row68 : TR := ⟨.func #[39, 39] #[4] false, 1, 8, .nilFunc, false, none⟩
theorem row68_ok : RowOk Try.prog 68 row68 := ⟨by kernel_rfl, by kernel_rfl, by kernel_rfl, fun h => (by cases h)⟩
def row69 : TR := ⟨.func #[5] #[4] false, 1, 8, .nilFunc, false, none⟩
theorem row69_ok : RowOk Try.prog 69 row69 := ⟨by kernel_rfl, by kernel_rfl, by kernel_rfl, fun h => (by cases h)⟩
def row70 : TR := ⟨.func #[9, 5] #[3] false, 1, 8, .nilFunc, false, none⟩
theorem row70_ok : RowOk Try.prog 70 row70 := ⟨by kernel_rfl, by kernel_rfl, by kernel_rfl, fun h => (by cases h)⟩
def row71 : TR := ⟨.func #[3] #[3] false, 1, 8, .nilFunc, false, none⟩
theorem row71_ok : RowOk Try.prog 71 row71 := ⟨by kernel_rfl, by kernel_rfl, by kernel_rfl, fun h => (by cases h)⟩
def row72 : TR := ⟨.int .u64, 1, 8, .int .u64 0, false, none⟩
theorem row72_ok : RowOk Try.prog 72 row72 := ⟨by kernel_rfl, by kernel_rfl, by kernel_rfl, fun h => (by cases h)⟩
def row73 : TR := ⟨.func #[69] #[9] false, 1, 8, .nilFunc, false, none⟩
theorem row73_ok : RowOk Try.prog 73 row73 := ⟨by kernel_rfl, by kernel_rfl, by kernel_rfl, fun h => (by cases h)⟩
def row74 : TR := ⟨.func #[9] #[3] false, 1, 8, .nilFunc, false, none⟩
theorem row74_ok : RowOk Try.prog 74 row74 := ⟨by kernel_rfl, by kernel_rfl, by kernel_rfl, fun h => (by cases h)⟩
def row75 : TR := ⟨.int .u32, 1, 4, .int .u32 0, false, none⟩
theorem row75_ok : RowOk Try.prog 75 row75 := ⟨by kernel_rfl, by kernel_rfl, by kernel_rfl, fun h => (by cases h)⟩
def row77 : TR := ⟨.func #[9] #[75, 75] false, 1, 8, .nilFunc, false, none⟩
theorem row77_ok : RowOk Try.prog 77 row77 := ⟨by kernel_rfl, by kernel_rfl, by kernel_rfl, fun h => (by cases h)⟩
def row80 : TR := ⟨.array 0 16, 0, 0, .agg #[], false, none⟩
theorem row80_ok : RowOk Try.prog 80 row80 := ⟨by kernel_rfl, by kernel_rfl, by kernel_rfl, fun h => (by cases h)⟩
def row85 : TR := ⟨.func #[91, 91] #[4] false, 1, 8, .nilFunc, false, none⟩
theorem row85_ok : RowOk Try.prog 85 row85 := ⟨by kernel_rfl, by kernel_rfl, by kernel_rfl, fun h => (by cases h)⟩
def row86 : TR := ⟨.pointer 5, 1, 8, .pointer none, false, none⟩
theorem row86_ok : RowOk Try.prog 86 row86 := ⟨by kernel_rfl, by kernel_rfl, by kernel_rfl, fun h => (by cases h)⟩
def tyTab : List (TypeId × TR) := [(1, row1), (2, row2), (3, row3), (4, row4), (5, row5), (9, row9), (12, row12), (20, row20), (21, row21), (22, row22), (23, row23), (24, row24), (25, row25), (26, row26), (27, row27), (29, row29), (30, row30), (31, row31), (32, row32), (33, row33), (34, row34), (35, row35), (36, row36), (37, row37), (38, row38), (39, row39), (40, row40), (41, row41), (42, row42), (44, row44), (45, row45), (46, row46), (47, row47), (48, row48), (49, row49), (50, row50), (51, row51), (52, row52), (53, row53), (54, row54), (55, row55), (56, row56), (57, row57), (58, row58), (59, row59), (60, row60), (61, row61), (62, row62), (63, row63), (64, row64), (65, row65), (66, row66), (67, row67), (68, row68), (69, row69), (70, row70), (71, row71), (72, row72), (73, row73), (74, row74), (75, row75), (77, row77), (80, row80), (85, row85), (86, row86)]
theorem tyTab_ok : AllOk Try.prog tyTab := ⟨row1_ok, row2_ok, row3_ok, row4_ok, row5_ok, row9_ok, row12_ok, row20_ok, row21_ok, row22_ok, row23_ok, row24_ok, row25_ok, row26_ok, row27_ok, row29_ok, row30_ok, row31_ok, row32_ok, row33_ok, row34_ok, row35_ok, row36_ok, row37_ok, row38_ok, row39_ok, row40_ok, row41_ok, row42_ok, row44_ok, row45_ok, row46_ok, row47_ok, row48_ok, row49_ok, row50_ok, row51_ok, row52_ok, row53_ok, row54_ok, row55_ok, row56_ok, row57_ok, row58_ok, row59_ok, row60_ok, row61_ok, row62_ok, row63_ok, row64_ok, row65_ok, row66_ok, row67_ok, row68_ok, row69_ok, row70_ok, row71_ok, row72_ok, row73_ok, row74_ok, row75_ok, row77_ok, row80_ok, row85_ok, row86_ok, trivial⟩
def TT : TypeId → TR := lookT tyTab
theorem tt_ok : TOk Try.prog TT := lookT_ok tyTab tyTab_ok
end Go.Proofs.Ytofhakbmmgpgdaa
