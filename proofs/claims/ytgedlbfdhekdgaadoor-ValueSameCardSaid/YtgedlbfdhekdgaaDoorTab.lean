/- The program's types, a row each, and that the rows are the program's. -/
import Derived.Test.YtgedlbfdhekdgaaDoorProg
import Derived.Test.YtgedlbfdhekdgaaDoorGb
set_option maxRecDepth 100000
namespace Go.Proofs.YtgedlbfdhekdgaaDoor
open Go Go.RowKit Go.Proofs

structure RowOk (P : Program) (t : TypeId) (r : TR) : Prop where
  und : P.underlying t = some r.desc
  info : (P.info? t).map (fun i => (i.size, i.bytes, i.zero)) = some (r.cells, r.bytes, some r.zero)
  size : r.zero.cells.size = r.cells
  eq : r.eqok = true → P.stoodInHeld t = false ∧ P.eqGuardType P.depth t = false
def AllOk (P : Program) : List (TypeId × TR) → Prop
  | [] => True
  | (t, r) :: l => RowOk P t r ∧ AllOk P l
def rowNone : TR := ⟨.invalid, 0, 0, .tuple #[], false, none, none⟩
def lookT : List (TypeId × TR) → TypeId → TR
  | [], _ => rowNone
  | (k, r) :: l, t => match Nat.beq k t with
    | true => r
    | false => lookT l t
theorem lookT_ok {P : Program} : ∀ (l : List (TypeId × TR)), AllOk P l → TOk P (lookT l)
  | [], _ => fun t h => absurd rfl h
  | (k, r) :: l, ⟨h1, h2⟩ => fun t h => by
    unfold lookT at h ⊢
    cases hb : Nat.beq k t with
    | true =>
      have e := Nat.eq_of_beq_eq_true hb
      subst e
      obtain ⟨i, hi, he⟩ := Option.map_eq_some_iff.1 h1.info
      simp only [Prod.mk.injEq] at he
      exact ⟨h1.und, i, hi, he.1, he.2.1, he.2.2, h1.size, h1.eq⟩
    | false =>
      rw [hb] at h
      exact lookT_ok l h2 t h
def row1 : TR := ⟨.func #[] #[] false, 1, 8, .nilFunc, false, none, none⟩
theorem row1_ok : RowOk Tryd.prog 1 row1 := ⟨by kernel_rfl, by kernel_rfl, by kernel_rfl, fun h => (by cases h)⟩
def row2 : TR := ⟨.int .i64, 1, 8, .int .i64 0, false, none, none⟩
theorem row2_ok : RowOk Tryd.prog 2 row2 := ⟨by kernel_rfl, by kernel_rfl, by kernel_rfl, fun h => (by cases h)⟩
def row3 : TR := ⟨.int .i64, 1, 8, .int .i64 0, false, none, none⟩
theorem row3_ok : RowOk Tryd.prog 3 row3 := ⟨by kernel_rfl, by kernel_rfl, by kernel_rfl, fun h => (by cases h)⟩
def row4 : TR := ⟨.bool, 1, 1, .bool false, false, none, none⟩
theorem row4_ok : RowOk Tryd.prog 4 row4 := ⟨by kernel_rfl, by kernel_rfl, by kernel_rfl, fun h => (by cases h)⟩
def row5 : TR := ⟨.int .u8, 1, 1, .int .u8 0, false, none, none⟩
theorem row5_ok : RowOk Tryd.prog 5 row5 := ⟨by kernel_rfl, by kernel_rfl, by kernel_rfl, fun h => (by cases h)⟩
def row9 : TR := ⟨.string, 1, 16, .string ⟨#[]⟩, false, none, none⟩
theorem row9_ok : RowOk Tryd.prog 9 row9 := ⟨by kernel_rfl, by kernel_rfl, by kernel_rfl, fun h => (by cases h)⟩
def row12 : TR := ⟨.int .u64, 1, 8, .int .u64 0, false, none, none⟩
theorem row12_ok : RowOk Tryd.prog 12 row12 := ⟨by kernel_rfl, by kernel_rfl, by kernel_rfl, fun h => (by cases h)⟩
def row20 : TR := ⟨.interface #[], 1, 16, .nilIface, false, none, none⟩
theorem row20_ok : RowOk Tryd.prog 20 row20 := ⟨by kernel_rfl, by kernel_rfl, by kernel_rfl, fun h => (by cases h)⟩
def row21 : TR := ⟨.int .i32, 1, 4, .int .i32 0, false, none, none⟩
theorem row21_ok : RowOk Tryd.prog 21 row21 := ⟨by kernel_rfl, by kernel_rfl, by kernel_rfl, fun h => (by cases h)⟩
def row22 : TR := ⟨.slice 3, 1, 24, .slice none 0 0, false, none, none⟩
theorem row22_ok : RowOk Tryd.prog 22 row22 := ⟨by kernel_rfl, by kernel_rfl, by kernel_rfl, fun h => (by cases h)⟩
def row23 : TR := ⟨.slice 25, 1, 24, .slice none 0 0, false, none, none⟩
theorem row23_ok : RowOk Tryd.prog 23 row23 := ⟨by kernel_rfl, by kernel_rfl, by kernel_rfl, fun h => (by cases h)⟩
def row24 : TR := ⟨.struct #[⟨ "Kind", 3, 0, false, "", "", 0⟩, ⟨ "Num", 2, 1, false, "", "", 8⟩, ⟨ "Text", 9, 2, false, "", "", 16⟩, ⟨ "Tags", 22, 3, false, "", "", 32⟩, ⟨ "Items", 23, 4, false, "", "", 56⟩], 5, 80, .agg #[.int .i64 0, .int .i64 0, .string ⟨#[]⟩, .slice none 0 0, .slice none 0 0], false, none, none⟩
theorem row24_ok : RowOk Tryd.prog 24 row24 := ⟨by kernel_rfl, by kernel_rfl, by kernel_rfl, fun h => (by cases h)⟩
def row25 : TR := ⟨.struct #[⟨ "Kind", 3, 0, false, "", "", 0⟩, ⟨ "Num", 2, 1, false, "", "", 8⟩, ⟨ "Text", 9, 2, false, "", "", 16⟩, ⟨ "Tags", 22, 3, false, "", "", 32⟩, ⟨ "Items", 23, 4, false, "", "", 56⟩], 5, 80, .agg #[.int .i64 0, .int .i64 0, .string ⟨#[]⟩, .slice none 0 0, .slice none 0 0], false, none, none⟩
theorem row25_ok : RowOk Tryd.prog 25 row25 := ⟨by kernel_rfl, by kernel_rfl, by kernel_rfl, fun h => (by cases h)⟩
def row26 : TR := ⟨.func #[25, 3] #[4] false, 1, 8, .nilFunc, false, none, none⟩
theorem row26_ok : RowOk Tryd.prog 26 row26 := ⟨by kernel_rfl, by kernel_rfl, by kernel_rfl, fun h => (by cases h)⟩
def row27 : TR := ⟨.func #[] #[4] false, 1, 8, .nilFunc, false, none, none⟩
theorem row27_ok : RowOk Tryd.prog 27 row27 := ⟨by kernel_rfl, by kernel_rfl, by kernel_rfl, fun h => (by cases h)⟩
def row28 : TR := ⟨.func #[25] #[9] false, 1, 8, .nilFunc, false, none, none⟩
theorem row28_ok : RowOk Tryd.prog 28 row28 := ⟨by kernel_rfl, by kernel_rfl, by kernel_rfl, fun h => (by cases h)⟩
def row29 : TR := ⟨.func #[25] #[4] false, 1, 8, .nilFunc, false, none, none⟩
theorem row29_ok : RowOk Tryd.prog 29 row29 := ⟨by kernel_rfl, by kernel_rfl, by kernel_rfl, fun h => (by cases h)⟩
def row30 : TR := ⟨.func #[25, 25] #[4] false, 1, 8, .nilFunc, false, none, none⟩
theorem row30_ok : RowOk Tryd.prog 30 row30 := ⟨by kernel_rfl, by kernel_rfl, by kernel_rfl, fun h => (by cases h)⟩
def row31 : TR := ⟨.func #[25, 25] #[3] false, 1, 8, .nilFunc, false, none, none⟩
theorem row31_ok : RowOk Tryd.prog 31 row31 := ⟨by kernel_rfl, by kernel_rfl, by kernel_rfl, fun h => (by cases h)⟩
def row32 : TR := ⟨.func #[25] #[3] false, 1, 8, .nilFunc, false, none, none⟩
theorem row32_ok : RowOk Tryd.prog 32 row32 := ⟨by kernel_rfl, by kernel_rfl, by kernel_rfl, fun h => (by cases h)⟩
def row33 : TR := ⟨.interface #[("concourse/value.well", 29)], 1, 16, .nilIface, false, none, none⟩
theorem row33_ok : RowOk Tryd.prog 33 row33 := ⟨by kernel_rfl, by kernel_rfl, by kernel_rfl, fun h => (by cases h)⟩
def row34 : TR := ⟨.interface #[("concourse/value.well", 29)], 1, 16, .nilIface, false, none, none⟩
theorem row34_ok : RowOk Tryd.prog 34 row34 := ⟨by kernel_rfl, by kernel_rfl, by kernel_rfl, fun h => (by cases h)⟩
def row35 : TR := ⟨.func #[3] #[34] false, 1, 8, .nilFunc, false, none, none⟩
theorem row35_ok : RowOk Tryd.prog 35 row35 := ⟨by kernel_rfl, by kernel_rfl, by kernel_rfl, fun h => (by cases h)⟩
def row36 : TR := ⟨.struct #[⟨ "least", 2, 0, false, "", "concourse/value", 0⟩, ⟨ "most", 2, 1, false, "", "concourse/value", 8⟩], 2, 16, .agg #[.int .i64 0, .int .i64 0], true, none, none⟩
theorem row36_ok : RowOk Tryd.prog 36 row36 := ⟨by kernel_rfl, by kernel_rfl, by kernel_rfl, fun _ => ⟨by kernel_rfl, by kernel_rfl⟩⟩
def row37 : TR := ⟨.struct #[⟨ "least", 2, 0, false, "", "concourse/value", 0⟩, ⟨ "most", 2, 1, false, "", "concourse/value", 8⟩], 2, 16, .agg #[.int .i64 0, .int .i64 0], true, none, none⟩
theorem row37_ok : RowOk Tryd.prog 37 row37 := ⟨by kernel_rfl, by kernel_rfl, by kernel_rfl, fun _ => ⟨by kernel_rfl, by kernel_rfl⟩⟩
def row38 : TR := ⟨.func #[4] #[9] false, 1, 8, .nilFunc, false, none, none⟩
theorem row38_ok : RowOk Tryd.prog 38 row38 := ⟨by kernel_rfl, by kernel_rfl, by kernel_rfl, fun h => (by cases h)⟩
def row39 : TR := ⟨.func #[40, 3] #[9] false, 1, 8, .nilFunc, false, none, none⟩
theorem row39_ok : RowOk Tryd.prog 39 row39 := ⟨by kernel_rfl, by kernel_rfl, by kernel_rfl, fun h => (by cases h)⟩
def row40 : TR := ⟨.int .u64, 1, 8, .int .u64 0, false, none, none⟩
theorem row40_ok : RowOk Tryd.prog 40 row40 := ⟨by kernel_rfl, by kernel_rfl, by kernel_rfl, fun h => (by cases h)⟩
def row41 : TR := ⟨.func #[2, 3] #[9] false, 1, 8, .nilFunc, false, none, none⟩
theorem row41_ok : RowOk Tryd.prog 41 row41 := ⟨by kernel_rfl, by kernel_rfl, by kernel_rfl, fun h => (by cases h)⟩
def row42 : TR := ⟨.struct #[⟨ "right", 4, 0, false, "", "concourse/value", 0⟩], 1, 1, .agg #[.bool false], true, none, none⟩
theorem row42_ok : RowOk Tryd.prog 42 row42 := ⟨by kernel_rfl, by kernel_rfl, by kernel_rfl, fun _ => ⟨by kernel_rfl, by kernel_rfl⟩⟩
def row43 : TR := ⟨.struct #[⟨ "right", 4, 0, false, "", "concourse/value", 0⟩], 1, 1, .agg #[.bool false], true, none, none⟩
theorem row43_ok : RowOk Tryd.prog 43 row43 := ⟨by kernel_rfl, by kernel_rfl, by kernel_rfl, fun _ => ⟨by kernel_rfl, by kernel_rfl⟩⟩
def row44 : TR := ⟨.func #[9] #[9] false, 1, 8, .nilFunc, false, none, none⟩
theorem row44_ok : RowOk Tryd.prog 44 row44 := ⟨by kernel_rfl, by kernel_rfl, by kernel_rfl, fun h => (by cases h)⟩
def row45 : TR := ⟨.struct #[], 0, 0, .agg #[], true, none, none⟩
theorem row45_ok : RowOk Tryd.prog 45 row45 := ⟨by kernel_rfl, by kernel_rfl, by kernel_rfl, fun _ => ⟨by kernel_rfl, by kernel_rfl⟩⟩
def row46 : TR := ⟨.struct #[], 0, 0, .agg #[], true, none, none⟩
theorem row46_ok : RowOk Tryd.prog 46 row46 := ⟨by kernel_rfl, by kernel_rfl, by kernel_rfl, fun _ => ⟨by kernel_rfl, by kernel_rfl⟩⟩
def row47 : TR := ⟨.func #[25, 4] #[9] false, 1, 8, .nilFunc, false, none, none⟩
theorem row47_ok : RowOk Tryd.prog 47 row47 := ⟨by kernel_rfl, by kernel_rfl, by kernel_rfl, fun h => (by cases h)⟩
def row48 : TR := ⟨.struct #[], 0, 0, .agg #[], true, none, none⟩
theorem row48_ok : RowOk Tryd.prog 48 row48 := ⟨by kernel_rfl, by kernel_rfl, by kernel_rfl, fun _ => ⟨by kernel_rfl, by kernel_rfl⟩⟩
def row49 : TR := ⟨.struct #[⟨ "most", 3, 0, false, "", "concourse/value", 0⟩], 1, 8, .agg #[.int .i64 0], true, none, none⟩
theorem row49_ok : RowOk Tryd.prog 49 row49 := ⟨by kernel_rfl, by kernel_rfl, by kernel_rfl, fun _ => ⟨by kernel_rfl, by kernel_rfl⟩⟩
def row50 : TR := ⟨.struct #[⟨ "most", 3, 0, false, "", "concourse/value", 0⟩], 1, 8, .agg #[.int .i64 0], true, none, none⟩
theorem row50_ok : RowOk Tryd.prog 50 row50 := ⟨by kernel_rfl, by kernel_rfl, by kernel_rfl, fun _ => ⟨by kernel_rfl, by kernel_rfl⟩⟩
def row51 : TR := ⟨.func #[2] #[9] false, 1, 8, .nilFunc, false, none, none⟩
theorem row51_ok : RowOk Tryd.prog 51 row51 := ⟨by kernel_rfl, by kernel_rfl, by kernel_rfl, fun h => (by cases h)⟩
def row52 : TR := ⟨.func #[40] #[9] false, 1, 8, .nilFunc, false, none, none⟩
theorem row52_ok : RowOk Tryd.prog 52 row52 := ⟨by kernel_rfl, by kernel_rfl, by kernel_rfl, fun h => (by cases h)⟩
def row53 : TR := ⟨.func #[25, 3] #[9] false, 1, 8, .nilFunc, false, none, none⟩
theorem row53_ok : RowOk Tryd.prog 53 row53 := ⟨by kernel_rfl, by kernel_rfl, by kernel_rfl, fun h => (by cases h)⟩
def row54 : TR := ⟨.func #[22, 22] #[4] false, 1, 8, .nilFunc, false, none, none⟩
theorem row54_ok : RowOk Tryd.prog 54 row54 := ⟨by kernel_rfl, by kernel_rfl, by kernel_rfl, fun h => (by cases h)⟩
def row55 : TR := ⟨.func #[23, 23, 30] #[4] false, 1, 8, .nilFunc, false, none, none⟩
theorem row55_ok : RowOk Tryd.prog 55 row55 := ⟨by kernel_rfl, by kernel_rfl, by kernel_rfl, fun h => (by cases h)⟩
def row56 : TR := ⟨.func #[3, 3] #[3] false, 1, 8, .nilFunc, false, none, none⟩
theorem row56_ok : RowOk Tryd.prog 56 row56 := ⟨by kernel_rfl, by kernel_rfl, by kernel_rfl, fun h => (by cases h)⟩
def row57 : TR := ⟨.func #[3] #[4] false, 1, 8, .nilFunc, false, none, none⟩
theorem row57_ok : RowOk Tryd.prog 57 row57 := ⟨by kernel_rfl, by kernel_rfl, by kernel_rfl, fun h => (by cases h)⟩
def row58 : TR := ⟨.func #[9, 9] #[3] false, 1, 8, .nilFunc, false, none, none⟩
theorem row58_ok : RowOk Tryd.prog 58 row58 := ⟨by kernel_rfl, by kernel_rfl, by kernel_rfl, fun h => (by cases h)⟩
def row59 : TR := ⟨.func #[40, 40] #[3] false, 1, 8, .nilFunc, false, none, none⟩
theorem row59_ok : RowOk Tryd.prog 59 row59 := ⟨by kernel_rfl, by kernel_rfl, by kernel_rfl, fun h => (by cases h)⟩
def row60 : TR := ⟨.func #[2, 2] #[3] false, 1, 8, .nilFunc, false, none, none⟩
theorem row60_ok : RowOk Tryd.prog 60 row60 := ⟨by kernel_rfl, by kernel_rfl, by kernel_rfl, fun h => (by cases h)⟩
def row61 : TR := ⟨.func #[4, 4] #[3] false, 1, 8, .nilFunc, false, none, none⟩
theorem row61_ok : RowOk Tryd.prog 61 row61 := ⟨by kernel_rfl, by kernel_rfl, by kernel_rfl, fun h => (by cases h)⟩
def row62 : TR := ⟨.func #[23, 29] #[4] false, 1, 8, .nilFunc, false, none, none⟩
theorem row62_ok : RowOk Tryd.prog 62 row62 := ⟨by kernel_rfl, by kernel_rfl, by kernel_rfl, fun h => (by cases h)⟩
def row63 : TR := ⟨.pointer 66, 1, 8, .pointer none, false, none, none⟩
theorem row63_ok : RowOk Tryd.prog 63 row63 := ⟨by kernel_rfl, by kernel_rfl, by kernel_rfl, fun h => (by cases h)⟩
def row64 : TR := ⟨.slice 5, 1, 24, .slice none 0 0, false, none, none⟩
theorem row64_ok : RowOk Tryd.prog 64 row64 := ⟨by kernel_rfl, by kernel_rfl, by kernel_rfl, fun h => (by cases h)⟩
def row65 : TR := ⟨.struct #[⟨ "addr", 63, 0, false, "", "strings", 0⟩, ⟨ "buf", 64, 1, false, "", "strings", 8⟩], 2, 32, .agg #[.pointer none, .slice none 0 0], false, none, none⟩
theorem row65_ok : RowOk Tryd.prog 65 row65 := ⟨by kernel_rfl, by kernel_rfl, by kernel_rfl, fun h => (by cases h)⟩
def row66 : TR := ⟨.struct #[⟨ "addr", 63, 0, false, "", "strings", 0⟩, ⟨ "buf", 64, 1, false, "", "strings", 8⟩], 2, 32, .agg #[.pointer none, .slice none 0 0], false, some 5, none⟩
theorem row66_ok : RowOk Tryd.prog 66 row66 := ⟨by kernel_rfl, by kernel_rfl, by kernel_rfl, fun h => (by cases h)⟩
def row67 : TR := ⟨.interface #[("Error", 71)], 1, 16, .nilIface, false, none, none⟩
theorem row67_ok : RowOk Tryd.prog 67 row67 := ⟨by kernel_rfl, by kernel_rfl, by kernel_rfl, fun h => (by cases h)⟩
def row68 : TR := ⟨.interface #[("Error", 71)], 1, 16, .nilIface, false, none, none⟩
theorem row68_ok : RowOk Tryd.prog 68 row68 := ⟨by kernel_rfl, by kernel_rfl, by kernel_rfl, fun h => (by cases h)⟩
def row69 : TR := ⟨.func #[5] #[68] false, 1, 8, .nilFunc, false, none, none⟩
theorem row69_ok : RowOk Tryd.prog 69 row69 := ⟨by kernel_rfl, by kernel_rfl, by kernel_rfl, fun h => (by cases h)⟩
def row70 : TR := ⟨.int .u64, 1, 8, .int .u64 0, false, none, none⟩
theorem row70_ok : RowOk Tryd.prog 70 row70 := ⟨by kernel_rfl, by kernel_rfl, by kernel_rfl, fun h => (by cases h)⟩
def row71 : TR := ⟨.func #[] #[9] false, 1, 8, .nilFunc, false, none, none⟩
theorem row71_ok : RowOk Tryd.prog 71 row71 := ⟨by kernel_rfl, by kernel_rfl, by kernel_rfl, fun h => (by cases h)⟩
def row72 : TR := ⟨.slice 9, 1, 24, .slice none 0 0, false, none, none⟩
theorem row72_ok : RowOk Tryd.prog 72 row72 := ⟨by kernel_rfl, by kernel_rfl, by kernel_rfl, fun h => (by cases h)⟩
def row73 : TR := ⟨.func #[3] #[9] false, 1, 8, .nilFunc, false, none, none⟩
theorem row73_ok : RowOk Tryd.prog 73 row73 := ⟨by kernel_rfl, by kernel_rfl, by kernel_rfl, fun h => (by cases h)⟩
def row74 : TR := ⟨.func #[72, 9] #[9] false, 1, 8, .nilFunc, false, none, none⟩
theorem row74_ok : RowOk Tryd.prog 74 row74 := ⟨by kernel_rfl, by kernel_rfl, by kernel_rfl, fun h => (by cases h)⟩
def row75 : TR := ⟨.func #[40] #[4] false, 1, 8, .nilFunc, false, none, none⟩
theorem row75_ok : RowOk Tryd.prog 75 row75 := ⟨by kernel_rfl, by kernel_rfl, by kernel_rfl, fun h => (by cases h)⟩
def row76 : TR := ⟨.func #[2] #[4] false, 1, 8, .nilFunc, false, none, none⟩
theorem row76_ok : RowOk Tryd.prog 76 row76 := ⟨by kernel_rfl, by kernel_rfl, by kernel_rfl, fun h => (by cases h)⟩
def row77 : TR := ⟨.func #[23, 29] #[3] false, 1, 8, .nilFunc, false, none, none⟩
theorem row77_ok : RowOk Tryd.prog 77 row77 := ⟨by kernel_rfl, by kernel_rfl, by kernel_rfl, fun h => (by cases h)⟩
def row78 : TR := ⟨.array 24 5, 24, 24, .agg #[.int .u8 0, .int .u8 0, .int .u8 0, .int .u8 0, .int .u8 0, .int .u8 0, .int .u8 0, .int .u8 0, .int .u8 0, .int .u8 0, .int .u8 0, .int .u8 0, .int .u8 0, .int .u8 0, .int .u8 0, .int .u8 0, .int .u8 0, .int .u8 0, .int .u8 0, .int .u8 0, .int .u8 0, .int .u8 0, .int .u8 0, .int .u8 0], false, none, none⟩
theorem row78_ok : RowOk Tryd.prog 78 row78 := ⟨by kernel_rfl, by kernel_rfl, by kernel_rfl, fun h => (by cases h)⟩
def row79 : TR := ⟨.func #[40] #[3] false, 1, 8, .nilFunc, false, none, none⟩
theorem row79_ok : RowOk Tryd.prog 79 row79 := ⟨by kernel_rfl, by kernel_rfl, by kernel_rfl, fun h => (by cases h)⟩
def row80 : TR := ⟨.func #[64, 40] #[] false, 1, 8, .nilFunc, false, none, none⟩
theorem row80_ok : RowOk Tryd.prog 80 row80 := ⟨by kernel_rfl, by kernel_rfl, by kernel_rfl, fun h => (by cases h)⟩
def row82 : TR := ⟨.func #[64, 40, 3, 4, 4] #[64, 9] false, 1, 8, .nilFunc, false, none, none⟩
theorem row82_ok : RowOk Tryd.prog 82 row82 := ⟨by kernel_rfl, by kernel_rfl, by kernel_rfl, fun h => (by cases h)⟩
def row83 : TR := ⟨.pointer 5, 1, 8, .pointer none, false, none, none⟩
theorem row83_ok : RowOk Tryd.prog 83 row83 := ⟨by kernel_rfl, by kernel_rfl, by kernel_rfl, fun h => (by cases h)⟩
def row84 : TR := ⟨.func #[3] #[] false, 1, 8, .nilFunc, false, none, none⟩
theorem row84_ok : RowOk Tryd.prog 84 row84 := ⟨by kernel_rfl, by kernel_rfl, by kernel_rfl, fun h => (by cases h)⟩
def row86 : TR := ⟨.func #[9] #[3, 68] false, 1, 8, .nilFunc, false, none, none⟩
theorem row86_ok : RowOk Tryd.prog 86 row86 := ⟨by kernel_rfl, by kernel_rfl, by kernel_rfl, fun h => (by cases h)⟩
def row87 : TR := ⟨.func #[3] #[3] false, 1, 8, .nilFunc, false, none, none⟩
theorem row87_ok : RowOk Tryd.prog 87 row87 := ⟨by kernel_rfl, by kernel_rfl, by kernel_rfl, fun h => (by cases h)⟩
def row88 : TR := ⟨.func #[4] #[3] false, 1, 8, .nilFunc, false, none, none⟩
theorem row88_ok : RowOk Tryd.prog 88 row88 := ⟨by kernel_rfl, by kernel_rfl, by kernel_rfl, fun h => (by cases h)⟩
def row89 : TR := ⟨.array 20 40, 20, 160, .agg #[.int .u64 0, .int .u64 0, .int .u64 0, .int .u64 0, .int .u64 0, .int .u64 0, .int .u64 0, .int .u64 0, .int .u64 0, .int .u64 0, .int .u64 0, .int .u64 0, .int .u64 0, .int .u64 0, .int .u64 0, .int .u64 0, .int .u64 0, .int .u64 0, .int .u64 0, .int .u64 0], false, none, none⟩
theorem row89_ok : RowOk Tryd.prog 89 row89 := ⟨by kernel_rfl, by kernel_rfl, by kernel_rfl, fun h => (by cases h)⟩
def row90 : TR := ⟨.int .u32, 1, 4, .int .u32 0, false, none, none⟩
theorem row90_ok : RowOk Tryd.prog 90 row90 := ⟨by kernel_rfl, by kernel_rfl, by kernel_rfl, fun h => (by cases h)⟩
def row91 : TR := ⟨.array 65 5, 65, 65, .agg #[.int .u8 0, .int .u8 0, .int .u8 0, .int .u8 0, .int .u8 0, .int .u8 0, .int .u8 0, .int .u8 0, .int .u8 0, .int .u8 0, .int .u8 0, .int .u8 0, .int .u8 0, .int .u8 0, .int .u8 0, .int .u8 0, .int .u8 0, .int .u8 0, .int .u8 0, .int .u8 0, .int .u8 0, .int .u8 0, .int .u8 0, .int .u8 0, .int .u8 0, .int .u8 0, .int .u8 0, .int .u8 0, .int .u8 0, .int .u8 0, .int .u8 0, .int .u8 0, .int .u8 0, .int .u8 0, .int .u8 0, .int .u8 0, .int .u8 0, .int .u8 0, .int .u8 0, .int .u8 0, .int .u8 0, .int .u8 0, .int .u8 0, .int .u8 0, .int .u8 0, .int .u8 0, .int .u8 0, .int .u8 0, .int .u8 0, .int .u8 0, .int .u8 0, .int .u8 0, .int .u8 0, .int .u8 0, .int .u8 0, .int .u8 0, .int .u8 0, .int .u8 0, .int .u8 0, .int .u8 0, .int .u8 0, .int .u8 0, .int .u8 0, .int .u8 0, .int .u8 0], false, none, none⟩
theorem row91_ok : RowOk Tryd.prog 91 row91 := ⟨by kernel_rfl, by kernel_rfl, by kernel_rfl, fun h => (by cases h)⟩
def row92 : TR := ⟨.func #[70] #[3] false, 1, 8, .nilFunc, false, none, none⟩
theorem row92_ok : RowOk Tryd.prog 92 row92 := ⟨by kernel_rfl, by kernel_rfl, by kernel_rfl, fun h => (by cases h)⟩
def row94 : TR := ⟨.func #[93] #[93] false, 1, 8, .nilFunc, false, none, none⟩
theorem row94_ok : RowOk Tryd.prog 94 row94 := ⟨by kernel_rfl, by kernel_rfl, by kernel_rfl, fun h => (by cases h)⟩
def row95 : TR := ⟨.func #[90] #[3] false, 1, 8, .nilFunc, false, none, none⟩
theorem row95_ok : RowOk Tryd.prog 95 row95 := ⟨by kernel_rfl, by kernel_rfl, by kernel_rfl, fun h => (by cases h)⟩
def row96 : TR := ⟨.func #[3] #[64] false, 1, 8, .nilFunc, false, none, none⟩
theorem row96_ok : RowOk Tryd.prog 96 row96 := ⟨by kernel_rfl, by kernel_rfl, by kernel_rfl, fun h => (by cases h)⟩
def row97 : TR := ⟨.array 32 5, 32, 32, .agg #[.int .u8 0, .int .u8 0, .int .u8 0, .int .u8 0, .int .u8 0, .int .u8 0, .int .u8 0, .int .u8 0, .int .u8 0, .int .u8 0, .int .u8 0, .int .u8 0, .int .u8 0, .int .u8 0, .int .u8 0, .int .u8 0, .int .u8 0, .int .u8 0, .int .u8 0, .int .u8 0, .int .u8 0, .int .u8 0, .int .u8 0, .int .u8 0, .int .u8 0, .int .u8 0, .int .u8 0, .int .u8 0, .int .u8 0, .int .u8 0, .int .u8 0, .int .u8 0], false, none, none⟩
theorem row97_ok : RowOk Tryd.prog 97 row97 := ⟨by kernel_rfl, by kernel_rfl, by kernel_rfl, fun h => (by cases h)⟩
def row98 : TR := ⟨.array 64 5, 64, 64, .agg #[.int .u8 0, .int .u8 0, .int .u8 0, .int .u8 0, .int .u8 0, .int .u8 0, .int .u8 0, .int .u8 0, .int .u8 0, .int .u8 0, .int .u8 0, .int .u8 0, .int .u8 0, .int .u8 0, .int .u8 0, .int .u8 0, .int .u8 0, .int .u8 0, .int .u8 0, .int .u8 0, .int .u8 0, .int .u8 0, .int .u8 0, .int .u8 0, .int .u8 0, .int .u8 0, .int .u8 0, .int .u8 0, .int .u8 0, .int .u8 0, .int .u8 0, .int .u8 0, .int .u8 0, .int .u8 0, .int .u8 0, .int .u8 0, .int .u8 0, .int .u8 0, .int .u8 0, .int .u8 0, .int .u8 0, .int .u8 0, .int .u8 0, .int .u8 0, .int .u8 0, .int .u8 0, .int .u8 0, .int .u8 0, .int .u8 0, .int .u8 0, .int .u8 0, .int .u8 0, .int .u8 0, .int .u8 0, .int .u8 0, .int .u8 0, .int .u8 0, .int .u8 0, .int .u8 0, .int .u8 0, .int .u8 0, .int .u8 0, .int .u8 0, .int .u8 0], false, none, none⟩
theorem row98_ok : RowOk Tryd.prog 98 row98 := ⟨by kernel_rfl, by kernel_rfl, by kernel_rfl, fun h => (by cases h)⟩
def row101 : TR := ⟨.array 0 16, 0, 0, .agg #[], false, none, none⟩
theorem row101_ok : RowOk Tryd.prog 101 row101 := ⟨by kernel_rfl, by kernel_rfl, by kernel_rfl, fun h => (by cases h)⟩
def row104 : TR := ⟨.func #[] #[3] false, 1, 8, .nilFunc, false, none, none⟩
theorem row104_ok : RowOk Tryd.prog 104 row104 := ⟨by kernel_rfl, by kernel_rfl, by kernel_rfl, fun h => (by cases h)⟩
def row107 : TR := ⟨.func #[93, 93] #[4] false, 1, 8, .nilFunc, false, none, none⟩
theorem row107_ok : RowOk Tryd.prog 107 row107 := ⟨by kernel_rfl, by kernel_rfl, by kernel_rfl, fun h => (by cases h)⟩
def row112 : TR := ⟨.func #[9] #[4] false, 1, 8, .nilFunc, false, none, none⟩
theorem row112_ok : RowOk Tryd.prog 112 row112 := ⟨by kernel_rfl, by kernel_rfl, by kernel_rfl, fun h => (by cases h)⟩
def row113 : TR := ⟨.func #[9] #[3] false, 1, 8, .nilFunc, false, none, none⟩
theorem row113_ok : RowOk Tryd.prog 113 row113 := ⟨by kernel_rfl, by kernel_rfl, by kernel_rfl, fun h => (by cases h)⟩
def row115 : TR := ⟨.func #[9] #[21, 3] false, 1, 8, .nilFunc, false, none, none⟩
theorem row115_ok : RowOk Tryd.prog 115 row115 := ⟨by kernel_rfl, by kernel_rfl, by kernel_rfl, fun h => (by cases h)⟩
def row117 : TR := ⟨.struct #[⟨ "lo", 5, 0, false, "", "unicode/utf8", 0⟩, ⟨ "hi", 5, 1, false, "", "unicode/utf8", 1⟩], 2, 2, .agg #[.int .u8 0, .int .u8 0], true, none, none⟩
theorem row117_ok : RowOk Tryd.prog 117 row117 := ⟨by kernel_rfl, by kernel_rfl, by kernel_rfl, fun _ => ⟨by kernel_rfl, by kernel_rfl⟩⟩
def row118 : TR := ⟨.struct #[⟨ "lo", 5, 0, false, "", "unicode/utf8", 0⟩, ⟨ "hi", 5, 1, false, "", "unicode/utf8", 1⟩], 2, 2, .agg #[.int .u8 0, .int .u8 0], true, none, none⟩
theorem row118_ok : RowOk Tryd.prog 118 row118 := ⟨by kernel_rfl, by kernel_rfl, by kernel_rfl, fun _ => ⟨by kernel_rfl, by kernel_rfl⟩⟩
def row119 : TR := ⟨.array 16 118, 32, 32, .agg #[.int .u8 0, .int .u8 0, .int .u8 0, .int .u8 0, .int .u8 0, .int .u8 0, .int .u8 0, .int .u8 0, .int .u8 0, .int .u8 0, .int .u8 0, .int .u8 0, .int .u8 0, .int .u8 0, .int .u8 0, .int .u8 0, .int .u8 0, .int .u8 0, .int .u8 0, .int .u8 0, .int .u8 0, .int .u8 0, .int .u8 0, .int .u8 0, .int .u8 0, .int .u8 0, .int .u8 0, .int .u8 0, .int .u8 0, .int .u8 0, .int .u8 0, .int .u8 0], false, none, none⟩
theorem row119_ok : RowOk Tryd.prog 119 row119 := ⟨by kernel_rfl, by kernel_rfl, by kernel_rfl, fun h => (by cases h)⟩
def tyTab : List (TypeId × TR) := [(1, row1), (2, row2), (3, row3), (4, row4), (5, row5), (9, row9), (12, row12), (20, row20), (21, row21), (22, row22), (23, row23), (24, row24), (25, row25), (26, row26), (27, row27), (28, row28), (29, row29), (30, row30), (31, row31), (32, row32), (33, row33), (34, row34), (35, row35), (36, row36), (37, row37), (38, row38), (39, row39), (40, row40), (41, row41), (42, row42), (43, row43), (44, row44), (45, row45), (46, row46), (47, row47), (48, row48), (49, row49), (50, row50), (51, row51), (52, row52), (53, row53), (54, row54), (55, row55), (56, row56), (57, row57), (58, row58), (59, row59), (60, row60), (61, row61), (62, row62), (63, row63), (64, row64), (65, row65), (66, row66), (67, row67), (68, row68), (69, row69), (70, row70), (71, row71), (72, row72), (73, row73), (74, row74), (75, row75), (76, row76), (77, row77), (78, row78), (79, row79), (80, row80), (82, row82), (83, row83), (84, row84), (86, row86), (87, row87), (88, row88), (89, row89), (90, row90), (91, row91), (92, row92), (94, row94), (95, row95), (96, row96), (97, row97), (98, row98), (101, row101), (104, row104), (107, row107), (112, row112), (113, row113), (115, row115), (117, row117), (118, row118), (119, row119)]
theorem tyTab_ok : AllOk Tryd.prog tyTab := ⟨row1_ok, row2_ok, row3_ok, row4_ok, row5_ok, row9_ok, row12_ok, row20_ok, row21_ok, row22_ok, row23_ok, row24_ok, row25_ok, row26_ok, row27_ok, row28_ok, row29_ok, row30_ok, row31_ok, row32_ok, row33_ok, row34_ok, row35_ok, row36_ok, row37_ok, row38_ok, row39_ok, row40_ok, row41_ok, row42_ok, row43_ok, row44_ok, row45_ok, row46_ok, row47_ok, row48_ok, row49_ok, row50_ok, row51_ok, row52_ok, row53_ok, row54_ok, row55_ok, row56_ok, row57_ok, row58_ok, row59_ok, row60_ok, row61_ok, row62_ok, row63_ok, row64_ok, row65_ok, row66_ok, row67_ok, row68_ok, row69_ok, row70_ok, row71_ok, row72_ok, row73_ok, row74_ok, row75_ok, row76_ok, row77_ok, row78_ok, row79_ok, row80_ok, row82_ok, row83_ok, row84_ok, row86_ok, row87_ok, row88_ok, row89_ok, row90_ok, row91_ok, row92_ok, row94_ok, row95_ok, row96_ok, row97_ok, row98_ok, row101_ok, row104_ok, row107_ok, row112_ok, row113_ok, row115_ok, row117_ok, row118_ok, row119_ok, trivial⟩
def TT : TypeId → TR := lookT tyTab
theorem tt_ok : TOk Tryd.prog TT := lookT_ok tyTab tyTab_ok
end Go.Proofs.YtgedlbfdhekdgaaDoor
