/- The program's types, a row each, and that the rows are the program's. -/
import Derived.Test.YtofhakbmmgpgdaaDoorProg
import Derived.Test.YtofhakbmmgpgdaaDoorGb
set_option maxRecDepth 100000
namespace Go.Proofs.YtofhakbmmgpgdaaDoor
open Go Go.RowKit Go.Proofs

structure RowOk (P : Program) (t : TypeId) (r : TR) : Prop where
  und : P.underlying t = some r.desc
  info : (P.info? t).map (fun i => (i.size, i.bytes, i.zero)) = some (r.cells, r.bytes, some r.zero)
  size : r.zero.cells.size = r.cells
  eq : r.eqok = true → P.stoodInHeld t = false ∧ P.eqGuardType P.depth t = false
def AllOk (P : Program) : List (TypeId × TR) → Prop
  | [] => True
  | (t, r) :: l => RowOk P t r ∧ AllOk P l
def rowNone : TR := ⟨.invalid, 0, 0, .tuple #[], false, none, none⟩
def lookT : List (TypeId × TR) → TypeId → TR
  | [], _ => rowNone
  | (k, r) :: l, t => match Nat.beq k t with
    | true => r
    | false => lookT l t
theorem lookT_ok {P : Program} : ∀ (l : List (TypeId × TR)), AllOk P l → TOk P (lookT l)
  | [], _ => fun t h => absurd rfl h
  | (k, r) :: l, ⟨h1, h2⟩ => fun t h => by
    unfold lookT at h ⊢
    cases hb : Nat.beq k t with
    | true =>
      have e := Nat.eq_of_beq_eq_true hb
      subst e
      obtain ⟨i, hi, he⟩ := Option.map_eq_some_iff.1 h1.info
      simp only [Prod.mk.injEq] at he
      exact ⟨h1.und, i, hi, he.1, he.2.1, he.2.2, h1.size, h1.eq⟩
    | false =>
      rw [hb] at h
      exact lookT_ok l h2 t h
def row1 : TR := ⟨.func #[] #[] false, 1, 8, .nilFunc, false, none, none⟩
theorem row1_ok : RowOk Tryd.prog 1 row1 := ⟨by kernel_rfl, by kernel_rfl, by kernel_rfl, fun h => (by cases h)⟩
def row2 : TR := ⟨.int .i64, 1, 8, .int .i64 0, false, none, none⟩
theorem row2_ok : RowOk Tryd.prog 2 row2 := ⟨by kernel_rfl, by kernel_rfl, by kernel_rfl, fun h => (by cases h)⟩
def row3 : TR := ⟨.int .i64, 1, 8, .int .i64 0, false, none, none⟩
theorem row3_ok : RowOk Tryd.prog 3 row3 := ⟨by kernel_rfl, by kernel_rfl, by kernel_rfl, fun h => (by cases h)⟩
def row4 : TR := ⟨.bool, 1, 1, .bool false, false, none, none⟩
theorem row4_ok : RowOk Tryd.prog 4 row4 := ⟨by kernel_rfl, by kernel_rfl, by kernel_rfl, fun h => (by cases h)⟩
def row5 : TR := ⟨.int .u8, 1, 1, .int .u8 0, false, none, none⟩
theorem row5_ok : RowOk Tryd.prog 5 row5 := ⟨by kernel_rfl, by kernel_rfl, by kernel_rfl, fun h => (by cases h)⟩
def row9 : TR := ⟨.string, 1, 16, .string ⟨#[]⟩, false, none, none⟩
theorem row9_ok : RowOk Tryd.prog 9 row9 := ⟨by kernel_rfl, by kernel_rfl, by kernel_rfl, fun h => (by cases h)⟩
def row12 : TR := ⟨.int .u64, 1, 8, .int .u64 0, false, none, none⟩
theorem row12_ok : RowOk Tryd.prog 12 row12 := ⟨by kernel_rfl, by kernel_rfl, by kernel_rfl, fun h => (by cases h)⟩
def row20 : TR := ⟨.interface #[], 1, 16, .nilIface, false, none, none⟩
theorem row20_ok : RowOk Tryd.prog 20 row20 := ⟨by kernel_rfl, by kernel_rfl, by kernel_rfl, fun h => (by cases h)⟩
def row21 : TR := ⟨.int .i32, 1, 4, .int .i32 0, false, none, none⟩
theorem row21_ok : RowOk Tryd.prog 21 row21 := ⟨by kernel_rfl, by kernel_rfl, by kernel_rfl, fun h => (by cases h)⟩
def row22 : TR := ⟨.slice 3, 1, 24, .slice none 0 0, false, none, none⟩
theorem row22_ok : RowOk Tryd.prog 22 row22 := ⟨by kernel_rfl, by kernel_rfl, by kernel_rfl, fun h => (by cases h)⟩
def row23 : TR := ⟨.slice 25, 1, 24, .slice none 0 0, false, none, none⟩
theorem row23_ok : RowOk Tryd.prog 23 row23 := ⟨by kernel_rfl, by kernel_rfl, by kernel_rfl, fun h => (by cases h)⟩
def row24 : TR := ⟨.struct #[⟨ "Kind", 3, 0, false, "", "", 0⟩, ⟨ "Num", 2, 1, false, "", "", 8⟩, ⟨ "Text", 9, 2, false, "", "", 16⟩, ⟨ "Tags", 22, 3, false, "", "", 32⟩, ⟨ "Items", 23, 4, false, "", "", 56⟩], 5, 80, .agg #[.int .i64 0, .int .i64 0, .string ⟨#[]⟩, .slice none 0 0, .slice none 0 0], false, none, none⟩
theorem row24_ok : RowOk Tryd.prog 24 row24 := ⟨by kernel_rfl, by kernel_rfl, by kernel_rfl, fun h => (by cases h)⟩
def row25 : TR := ⟨.struct #[⟨ "Kind", 3, 0, false, "", "", 0⟩, ⟨ "Num", 2, 1, false, "", "", 8⟩, ⟨ "Text", 9, 2, false, "", "", 16⟩, ⟨ "Tags", 22, 3, false, "", "", 32⟩, ⟨ "Items", 23, 4, false, "", "", 56⟩], 5, 80, .agg #[.int .i64 0, .int .i64 0, .string ⟨#[]⟩, .slice none 0 0, .slice none 0 0], false, none, none⟩
theorem row25_ok : RowOk Tryd.prog 25 row25 := ⟨by kernel_rfl, by kernel_rfl, by kernel_rfl, fun h => (by cases h)⟩
def row26 : TR := ⟨.func #[25, 3] #[4] false, 1, 8, .nilFunc, false, none, none⟩
theorem row26_ok : RowOk Tryd.prog 26 row26 := ⟨by kernel_rfl, by kernel_rfl, by kernel_rfl, fun h => (by cases h)⟩
def row27 : TR := ⟨.func #[] #[4] false, 1, 8, .nilFunc, false, none, none⟩
theorem row27_ok : RowOk Tryd.prog 27 row27 := ⟨by kernel_rfl, by kernel_rfl, by kernel_rfl, fun h => (by cases h)⟩
def row28 : TR := ⟨.func #[25] #[9] false, 1, 8, .nilFunc, false, none, none⟩
theorem row28_ok : RowOk Tryd.prog 28 row28 := ⟨by kernel_rfl, by kernel_rfl, by kernel_rfl, fun h => (by cases h)⟩
def row29 : TR := ⟨.func #[25] #[4] false, 1, 8, .nilFunc, false, none, none⟩
theorem row29_ok : RowOk Tryd.prog 29 row29 := ⟨by kernel_rfl, by kernel_rfl, by kernel_rfl, fun h => (by cases h)⟩
def row30 : TR := ⟨.func #[25] #[3] false, 1, 8, .nilFunc, false, none, none⟩
theorem row30_ok : RowOk Tryd.prog 30 row30 := ⟨by kernel_rfl, by kernel_rfl, by kernel_rfl, fun h => (by cases h)⟩
def row31 : TR := ⟨.func #[25, 25] #[4] false, 1, 8, .nilFunc, false, none, none⟩
theorem row31_ok : RowOk Tryd.prog 31 row31 := ⟨by kernel_rfl, by kernel_rfl, by kernel_rfl, fun h => (by cases h)⟩
def row32 : TR := ⟨.func #[25, 25] #[3] false, 1, 8, .nilFunc, false, none, none⟩
theorem row32_ok : RowOk Tryd.prog 32 row32 := ⟨by kernel_rfl, by kernel_rfl, by kernel_rfl, fun h => (by cases h)⟩
def row33 : TR := ⟨.func #[3] #[4] false, 1, 8, .nilFunc, false, none, none⟩
theorem row33_ok : RowOk Tryd.prog 33 row33 := ⟨by kernel_rfl, by kernel_rfl, by kernel_rfl, fun h => (by cases h)⟩
def row34 : TR := ⟨.slice 77, 1, 24, .slice none 0 0, false, none, none⟩
theorem row34_ok : RowOk Tryd.prog 34 row34 := ⟨by kernel_rfl, by kernel_rfl, by kernel_rfl, fun h => (by cases h)⟩
def row35 : TR := ⟨.func #[34] #[4] false, 1, 8, .nilFunc, false, none, none⟩
theorem row35_ok : RowOk Tryd.prog 35 row35 := ⟨by kernel_rfl, by kernel_rfl, by kernel_rfl, fun h => (by cases h)⟩
def row36 : TR := ⟨.int .i64, 1, 8, .int .i64 0, false, none, none⟩
theorem row36_ok : RowOk Tryd.prog 36 row36 := ⟨by kernel_rfl, by kernel_rfl, by kernel_rfl, fun h => (by cases h)⟩
def row38 : TR := ⟨.func #[34] #[9, 36] false, 1, 8, .nilFunc, false, none, none⟩
theorem row38_ok : RowOk Tryd.prog 38 row38 := ⟨by kernel_rfl, by kernel_rfl, by kernel_rfl, fun h => (by cases h)⟩
def row39 : TR := ⟨.struct #[⟨ "Err", 36, 0, false, "", "", 0⟩, ⟨ "At", 3, 1, false, "", "", 8⟩], 2, 16, .agg #[.int .i64 0, .int .i64 0], true, none, none⟩
theorem row39_ok : RowOk Tryd.prog 39 row39 := ⟨by kernel_rfl, by kernel_rfl, by kernel_rfl, fun _ => ⟨by kernel_rfl, by kernel_rfl⟩⟩
def row40 : TR := ⟨.struct #[⟨ "Err", 36, 0, false, "", "", 0⟩, ⟨ "At", 3, 1, false, "", "", 8⟩], 2, 16, .agg #[.int .i64 0, .int .i64 0], true, none, none⟩
theorem row40_ok : RowOk Tryd.prog 40 row40 := ⟨by kernel_rfl, by kernel_rfl, by kernel_rfl, fun _ => ⟨by kernel_rfl, by kernel_rfl⟩⟩
def row42 : TR := ⟨.func #[9] #[34, 40] false, 1, 8, .nilFunc, false, none, none⟩
theorem row42_ok : RowOk Tryd.prog 42 row42 := ⟨by kernel_rfl, by kernel_rfl, by kernel_rfl, fun h => (by cases h)⟩
def row43 : TR := ⟨.func #[34, 34, 4] #[4] false, 1, 8, .nilFunc, false, none, none⟩
theorem row43_ok : RowOk Tryd.prog 43 row43 := ⟨by kernel_rfl, by kernel_rfl, by kernel_rfl, fun h => (by cases h)⟩
def row44 : TR := ⟨.func #[9] #[4] false, 1, 8, .nilFunc, false, none, none⟩
theorem row44_ok : RowOk Tryd.prog 44 row44 := ⟨by kernel_rfl, by kernel_rfl, by kernel_rfl, fun h => (by cases h)⟩
def row45 : TR := ⟨.interface #[("concourse/value.well", 29)], 1, 16, .nilIface, false, none, none⟩
theorem row45_ok : RowOk Tryd.prog 45 row45 := ⟨by kernel_rfl, by kernel_rfl, by kernel_rfl, fun h => (by cases h)⟩
def row46 : TR := ⟨.interface #[("concourse/value.well", 29)], 1, 16, .nilIface, false, none, none⟩
theorem row46_ok : RowOk Tryd.prog 46 row46 := ⟨by kernel_rfl, by kernel_rfl, by kernel_rfl, fun h => (by cases h)⟩
def row47 : TR := ⟨.func #[3] #[46] false, 1, 8, .nilFunc, false, none, none⟩
theorem row47_ok : RowOk Tryd.prog 47 row47 := ⟨by kernel_rfl, by kernel_rfl, by kernel_rfl, fun h => (by cases h)⟩
def row48 : TR := ⟨.struct #[⟨ "least", 2, 0, false, "", "concourse/value", 0⟩, ⟨ "most", 2, 1, false, "", "concourse/value", 8⟩], 2, 16, .agg #[.int .i64 0, .int .i64 0], true, none, none⟩
theorem row48_ok : RowOk Tryd.prog 48 row48 := ⟨by kernel_rfl, by kernel_rfl, by kernel_rfl, fun _ => ⟨by kernel_rfl, by kernel_rfl⟩⟩
def row49 : TR := ⟨.struct #[⟨ "least", 2, 0, false, "", "concourse/value", 0⟩, ⟨ "most", 2, 1, false, "", "concourse/value", 8⟩], 2, 16, .agg #[.int .i64 0, .int .i64 0], true, none, none⟩
theorem row49_ok : RowOk Tryd.prog 49 row49 := ⟨by kernel_rfl, by kernel_rfl, by kernel_rfl, fun _ => ⟨by kernel_rfl, by kernel_rfl⟩⟩
def row50 : TR := ⟨.func #[4] #[9] false, 1, 8, .nilFunc, false, none, none⟩
theorem row50_ok : RowOk Tryd.prog 50 row50 := ⟨by kernel_rfl, by kernel_rfl, by kernel_rfl, fun h => (by cases h)⟩
def row51 : TR := ⟨.func #[52, 3] #[9] false, 1, 8, .nilFunc, false, none, none⟩
theorem row51_ok : RowOk Tryd.prog 51 row51 := ⟨by kernel_rfl, by kernel_rfl, by kernel_rfl, fun h => (by cases h)⟩
def row52 : TR := ⟨.int .u64, 1, 8, .int .u64 0, false, none, none⟩
theorem row52_ok : RowOk Tryd.prog 52 row52 := ⟨by kernel_rfl, by kernel_rfl, by kernel_rfl, fun h => (by cases h)⟩
def row53 : TR := ⟨.func #[2, 3] #[9] false, 1, 8, .nilFunc, false, none, none⟩
theorem row53_ok : RowOk Tryd.prog 53 row53 := ⟨by kernel_rfl, by kernel_rfl, by kernel_rfl, fun h => (by cases h)⟩
def row54 : TR := ⟨.struct #[⟨ "right", 4, 0, false, "", "concourse/value", 0⟩], 1, 1, .agg #[.bool false], true, none, none⟩
theorem row54_ok : RowOk Tryd.prog 54 row54 := ⟨by kernel_rfl, by kernel_rfl, by kernel_rfl, fun _ => ⟨by kernel_rfl, by kernel_rfl⟩⟩
def row55 : TR := ⟨.struct #[⟨ "right", 4, 0, false, "", "concourse/value", 0⟩], 1, 1, .agg #[.bool false], true, none, none⟩
theorem row55_ok : RowOk Tryd.prog 55 row55 := ⟨by kernel_rfl, by kernel_rfl, by kernel_rfl, fun _ => ⟨by kernel_rfl, by kernel_rfl⟩⟩
def row56 : TR := ⟨.func #[9] #[9] false, 1, 8, .nilFunc, false, none, none⟩
theorem row56_ok : RowOk Tryd.prog 56 row56 := ⟨by kernel_rfl, by kernel_rfl, by kernel_rfl, fun h => (by cases h)⟩
def row57 : TR := ⟨.struct #[], 0, 0, .agg #[], true, none, none⟩
theorem row57_ok : RowOk Tryd.prog 57 row57 := ⟨by kernel_rfl, by kernel_rfl, by kernel_rfl, fun _ => ⟨by kernel_rfl, by kernel_rfl⟩⟩
def row58 : TR := ⟨.struct #[], 0, 0, .agg #[], true, none, none⟩
theorem row58_ok : RowOk Tryd.prog 58 row58 := ⟨by kernel_rfl, by kernel_rfl, by kernel_rfl, fun _ => ⟨by kernel_rfl, by kernel_rfl⟩⟩
def row59 : TR := ⟨.func #[25, 4] #[9] false, 1, 8, .nilFunc, false, none, none⟩
theorem row59_ok : RowOk Tryd.prog 59 row59 := ⟨by kernel_rfl, by kernel_rfl, by kernel_rfl, fun h => (by cases h)⟩
def row60 : TR := ⟨.struct #[], 0, 0, .agg #[], true, none, none⟩
theorem row60_ok : RowOk Tryd.prog 60 row60 := ⟨by kernel_rfl, by kernel_rfl, by kernel_rfl, fun _ => ⟨by kernel_rfl, by kernel_rfl⟩⟩
def row61 : TR := ⟨.struct #[⟨ "most", 3, 0, false, "", "concourse/value", 0⟩], 1, 8, .agg #[.int .i64 0], true, none, none⟩
theorem row61_ok : RowOk Tryd.prog 61 row61 := ⟨by kernel_rfl, by kernel_rfl, by kernel_rfl, fun _ => ⟨by kernel_rfl, by kernel_rfl⟩⟩
def row62 : TR := ⟨.struct #[⟨ "most", 3, 0, false, "", "concourse/value", 0⟩], 1, 8, .agg #[.int .i64 0], true, none, none⟩
theorem row62_ok : RowOk Tryd.prog 62 row62 := ⟨by kernel_rfl, by kernel_rfl, by kernel_rfl, fun _ => ⟨by kernel_rfl, by kernel_rfl⟩⟩
def row63 : TR := ⟨.func #[2] #[9] false, 1, 8, .nilFunc, false, none, none⟩
theorem row63_ok : RowOk Tryd.prog 63 row63 := ⟨by kernel_rfl, by kernel_rfl, by kernel_rfl, fun h => (by cases h)⟩
def row64 : TR := ⟨.func #[52] #[9] false, 1, 8, .nilFunc, false, none, none⟩
theorem row64_ok : RowOk Tryd.prog 64 row64 := ⟨by kernel_rfl, by kernel_rfl, by kernel_rfl, fun h => (by cases h)⟩
def row65 : TR := ⟨.func #[25, 3] #[9] false, 1, 8, .nilFunc, false, none, none⟩
theorem row65_ok : RowOk Tryd.prog 65 row65 := ⟨by kernel_rfl, by kernel_rfl, by kernel_rfl, fun h => (by cases h)⟩
def row66 : TR := ⟨.func #[23, 29] #[4] false, 1, 8, .nilFunc, false, none, none⟩
theorem row66_ok : RowOk Tryd.prog 66 row66 := ⟨by kernel_rfl, by kernel_rfl, by kernel_rfl, fun h => (by cases h)⟩
def row67 : TR := ⟨.func #[22, 22] #[4] false, 1, 8, .nilFunc, false, none, none⟩
theorem row67_ok : RowOk Tryd.prog 67 row67 := ⟨by kernel_rfl, by kernel_rfl, by kernel_rfl, fun h => (by cases h)⟩
def row68 : TR := ⟨.func #[23, 23, 31] #[4] false, 1, 8, .nilFunc, false, none, none⟩
theorem row68_ok : RowOk Tryd.prog 68 row68 := ⟨by kernel_rfl, by kernel_rfl, by kernel_rfl, fun h => (by cases h)⟩
def row69 : TR := ⟨.func #[3, 3] #[3] false, 1, 8, .nilFunc, false, none, none⟩
theorem row69_ok : RowOk Tryd.prog 69 row69 := ⟨by kernel_rfl, by kernel_rfl, by kernel_rfl, fun h => (by cases h)⟩
def row70 : TR := ⟨.func #[9, 9] #[3] false, 1, 8, .nilFunc, false, none, none⟩
theorem row70_ok : RowOk Tryd.prog 70 row70 := ⟨by kernel_rfl, by kernel_rfl, by kernel_rfl, fun h => (by cases h)⟩
def row71 : TR := ⟨.func #[52, 52] #[3] false, 1, 8, .nilFunc, false, none, none⟩
theorem row71_ok : RowOk Tryd.prog 71 row71 := ⟨by kernel_rfl, by kernel_rfl, by kernel_rfl, fun h => (by cases h)⟩
def row72 : TR := ⟨.func #[2, 2] #[3] false, 1, 8, .nilFunc, false, none, none⟩
theorem row72_ok : RowOk Tryd.prog 72 row72 := ⟨by kernel_rfl, by kernel_rfl, by kernel_rfl, fun h => (by cases h)⟩
def row73 : TR := ⟨.func #[4, 4] #[3] false, 1, 8, .nilFunc, false, none, none⟩
theorem row73_ok : RowOk Tryd.prog 73 row73 := ⟨by kernel_rfl, by kernel_rfl, by kernel_rfl, fun h => (by cases h)⟩
def row74 : TR := ⟨.slice 83, 1, 24, .slice none 0 0, false, none, none⟩
theorem row74_ok : RowOk Tryd.prog 74 row74 := ⟨by kernel_rfl, by kernel_rfl, by kernel_rfl, fun h => (by cases h)⟩
def row75 : TR := ⟨.slice 123, 1, 24, .slice none 0 0, false, none, none⟩
theorem row75_ok : RowOk Tryd.prog 75 row75 := ⟨by kernel_rfl, by kernel_rfl, by kernel_rfl, fun h => (by cases h)⟩
def row76 : TR := ⟨.struct #[⟨ "Kind", 3, 0, false, "", "", 0⟩, ⟨ "Name", 9, 1, false, "", "", 8⟩, ⟨ "Fields", 74, 2, false, "", "", 24⟩, ⟨ "Methods", 75, 3, false, "", "", 48⟩, ⟨ "At", 3, 4, false, "", "", 72⟩], 5, 80, .agg #[.int .i64 0, .string ⟨#[]⟩, .slice none 0 0, .slice none 0 0, .int .i64 0], false, none, none⟩
theorem row76_ok : RowOk Tryd.prog 76 row76 := ⟨by kernel_rfl, by kernel_rfl, by kernel_rfl, fun h => (by cases h)⟩
def row77 : TR := ⟨.struct #[⟨ "Kind", 3, 0, false, "", "", 0⟩, ⟨ "Name", 9, 1, false, "", "", 8⟩, ⟨ "Fields", 74, 2, false, "", "", 24⟩, ⟨ "Methods", 75, 3, false, "", "", 48⟩, ⟨ "At", 3, 4, false, "", "", 72⟩], 5, 80, .agg #[.int .i64 0, .string ⟨#[]⟩, .slice none 0 0, .slice none 0 0, .int .i64 0], false, none, none⟩
theorem row77_ok : RowOk Tryd.prog 77 row77 := ⟨by kernel_rfl, by kernel_rfl, by kernel_rfl, fun h => (by cases h)⟩
def row78 : TR := ⟨.func #[81, 3] #[4] false, 1, 8, .nilFunc, false, none, none⟩
theorem row78_ok : RowOk Tryd.prog 78 row78 := ⟨by kernel_rfl, by kernel_rfl, by kernel_rfl, fun h => (by cases h)⟩
def row79 : TR := ⟨.slice 81, 1, 24, .slice none 0 0, false, none, none⟩
theorem row79_ok : RowOk Tryd.prog 79 row79 := ⟨by kernel_rfl, by kernel_rfl, by kernel_rfl, fun h => (by cases h)⟩
def row80 : TR := ⟨.struct #[⟨ "Kind", 3, 0, false, "", "", 0⟩, ⟨ "Name", 9, 1, false, "", "", 8⟩, ⟨ "Of", 79, 2, false, "", "", 24⟩], 3, 48, .agg #[.int .i64 0, .string ⟨#[]⟩, .slice none 0 0], false, none, none⟩
theorem row80_ok : RowOk Tryd.prog 80 row80 := ⟨by kernel_rfl, by kernel_rfl, by kernel_rfl, fun h => (by cases h)⟩
def row81 : TR := ⟨.struct #[⟨ "Kind", 3, 0, false, "", "", 0⟩, ⟨ "Name", 9, 1, false, "", "", 8⟩, ⟨ "Of", 79, 2, false, "", "", 24⟩], 3, 48, .agg #[.int .i64 0, .string ⟨#[]⟩, .slice none 0 0], false, none, none⟩
theorem row81_ok : RowOk Tryd.prog 81 row81 := ⟨by kernel_rfl, by kernel_rfl, by kernel_rfl, fun h => (by cases h)⟩
def row82 : TR := ⟨.struct #[⟨ "Tag", 3, 0, false, "", "", 0⟩, ⟨ "Name", 9, 1, false, "", "", 8⟩, ⟨ "Type", 81, 2, false, "", "", 24⟩], 5, 72, .agg #[.int .i64 0, .string ⟨#[]⟩, .int .i64 0, .string ⟨#[]⟩, .slice none 0 0], false, none, none⟩
theorem row82_ok : RowOk Tryd.prog 82 row82 := ⟨by kernel_rfl, by kernel_rfl, by kernel_rfl, fun h => (by cases h)⟩
def row83 : TR := ⟨.struct #[⟨ "Tag", 3, 0, false, "", "", 0⟩, ⟨ "Name", 9, 1, false, "", "", 8⟩, ⟨ "Type", 81, 2, false, "", "", 24⟩], 5, 72, .agg #[.int .i64 0, .string ⟨#[]⟩, .int .i64 0, .string ⟨#[]⟩, .slice none 0 0], false, none, none⟩
theorem row83_ok : RowOk Tryd.prog 83 row83 := ⟨by kernel_rfl, by kernel_rfl, by kernel_rfl, fun h => (by cases h)⟩
def row84 : TR := ⟨.pointer 90, 1, 8, .pointer none, false, none, none⟩
theorem row84_ok : RowOk Tryd.prog 84 row84 := ⟨by kernel_rfl, by kernel_rfl, by kernel_rfl, fun h => (by cases h)⟩
def row85 : TR := ⟨.pointer 88, 1, 8, .pointer none, false, none, none⟩
theorem row85_ok : RowOk Tryd.prog 85 row85 := ⟨by kernel_rfl, by kernel_rfl, by kernel_rfl, fun h => (by cases h)⟩
def row86 : TR := ⟨.slice 5, 1, 24, .slice none 0 0, false, none, none⟩
theorem row86_ok : RowOk Tryd.prog 86 row86 := ⟨by kernel_rfl, by kernel_rfl, by kernel_rfl, fun h => (by cases h)⟩
def row87 : TR := ⟨.struct #[⟨ "addr", 85, 0, false, "", "strings", 0⟩, ⟨ "buf", 86, 1, false, "", "strings", 8⟩], 2, 32, .agg #[.pointer none, .slice none 0 0], false, none, none⟩
theorem row87_ok : RowOk Tryd.prog 87 row87 := ⟨by kernel_rfl, by kernel_rfl, by kernel_rfl, fun h => (by cases h)⟩
def row88 : TR := ⟨.struct #[⟨ "addr", 85, 0, false, "", "strings", 0⟩, ⟨ "buf", 86, 1, false, "", "strings", 8⟩], 2, 32, .agg #[.pointer none, .slice none 0 0], false, some 5, none⟩
theorem row88_ok : RowOk Tryd.prog 88 row88 := ⟨by kernel_rfl, by kernel_rfl, by kernel_rfl, fun h => (by cases h)⟩
def row89 : TR := ⟨.struct #[⟨ "Builder", 88, 0, true, "", "", 0⟩, ⟨ "ok", 4, 2, false, "", "concourse/show", 32⟩], 3, 40, .agg #[.pointer none, .slice none 0 0, .bool false], false, none, some 5⟩
theorem row89_ok : RowOk Tryd.prog 89 row89 := ⟨by kernel_rfl, by kernel_rfl, by kernel_rfl, fun h => (by cases h)⟩
def row90 : TR := ⟨.struct #[⟨ "Builder", 88, 0, true, "", "", 0⟩, ⟨ "ok", 4, 2, false, "", "concourse/show", 32⟩], 3, 40, .agg #[.pointer none, .slice none 0 0, .bool false], false, none, some 5⟩
theorem row90_ok : RowOk Tryd.prog 90 row90 := ⟨by kernel_rfl, by kernel_rfl, by kernel_rfl, fun h => (by cases h)⟩
def row91 : TR := ⟨.func #[77] #[] false, 1, 8, .nilFunc, false, none, none⟩
theorem row91_ok : RowOk Tryd.prog 91 row91 := ⟨by kernel_rfl, by kernel_rfl, by kernel_rfl, fun h => (by cases h)⟩
def row92 : TR := ⟨.func #[] #[9, 36] false, 1, 8, .nilFunc, false, none, none⟩
theorem row92_ok : RowOk Tryd.prog 92 row92 := ⟨by kernel_rfl, by kernel_rfl, by kernel_rfl, fun h => (by cases h)⟩
def row93 : TR := ⟨.slice 101, 1, 24, .slice none 0 0, false, none, none⟩
theorem row93_ok : RowOk Tryd.prog 93 row93 := ⟨by kernel_rfl, by kernel_rfl, by kernel_rfl, fun h => (by cases h)⟩
def row95 : TR := ⟨.func #[9] #[93, 40] false, 1, 8, .nilFunc, false, none, none⟩
theorem row95_ok : RowOk Tryd.prog 95 row95 := ⟨by kernel_rfl, by kernel_rfl, by kernel_rfl, fun h => (by cases h)⟩
def row96 : TR := ⟨.pointer 98, 1, 8, .pointer none, false, none, none⟩
theorem row96_ok : RowOk Tryd.prog 96 row96 := ⟨by kernel_rfl, by kernel_rfl, by kernel_rfl, fun h => (by cases h)⟩
def row97 : TR := ⟨.struct #[⟨ "l", 93, 0, false, "", "concourse/parse", 0⟩, ⟨ "at", 3, 1, false, "", "concourse/parse", 24⟩, ⟨ "f", 40, 2, false, "", "concourse/parse", 32⟩], 4, 48, .agg #[.slice none 0 0, .int .i64 0, .int .i64 0, .int .i64 0], false, none, none⟩
theorem row97_ok : RowOk Tryd.prog 97 row97 := ⟨by kernel_rfl, by kernel_rfl, by kernel_rfl, fun h => (by cases h)⟩
def row98 : TR := ⟨.struct #[⟨ "l", 93, 0, false, "", "concourse/parse", 0⟩, ⟨ "at", 3, 1, false, "", "concourse/parse", 24⟩, ⟨ "f", 40, 2, false, "", "concourse/parse", 32⟩], 4, 48, .agg #[.slice none 0 0, .int .i64 0, .int .i64 0, .int .i64 0], false, none, none⟩
theorem row98_ok : RowOk Tryd.prog 98 row98 := ⟨by kernel_rfl, by kernel_rfl, by kernel_rfl, fun h => (by cases h)⟩
def row99 : TR := ⟨.func #[] #[77] false, 1, 8, .nilFunc, false, none, none⟩
theorem row99_ok : RowOk Tryd.prog 99 row99 := ⟨by kernel_rfl, by kernel_rfl, by kernel_rfl, fun h => (by cases h)⟩
def row100 : TR := ⟨.struct #[⟨ "Kind", 3, 0, false, "", "", 0⟩, ⟨ "Text", 9, 1, false, "", "", 8⟩, ⟨ "Num", 3, 2, false, "", "", 24⟩, ⟨ "At", 3, 3, false, "", "", 32⟩], 4, 40, .agg #[.int .i64 0, .string ⟨#[]⟩, .int .i64 0, .int .i64 0], true, none, none⟩
theorem row100_ok : RowOk Tryd.prog 100 row100 := ⟨by kernel_rfl, by kernel_rfl, by kernel_rfl, fun _ => ⟨by kernel_rfl, by kernel_rfl⟩⟩
def row101 : TR := ⟨.struct #[⟨ "Kind", 3, 0, false, "", "", 0⟩, ⟨ "Text", 9, 1, false, "", "", 8⟩, ⟨ "Num", 3, 2, false, "", "", 24⟩, ⟨ "At", 3, 3, false, "", "", 32⟩], 4, 40, .agg #[.int .i64 0, .string ⟨#[]⟩, .int .i64 0, .int .i64 0], true, none, none⟩
theorem row101_ok : RowOk Tryd.prog 101 row101 := ⟨by kernel_rfl, by kernel_rfl, by kernel_rfl, fun _ => ⟨by kernel_rfl, by kernel_rfl⟩⟩
def row102 : TR := ⟨.func #[] #[101] false, 1, 8, .nilFunc, false, none, none⟩
theorem row102_ok : RowOk Tryd.prog 102 row102 := ⟨by kernel_rfl, by kernel_rfl, by kernel_rfl, fun h => (by cases h)⟩
def row103 : TR := ⟨.func #[36] #[] false, 1, 8, .nilFunc, false, none, none⟩
theorem row103_ok : RowOk Tryd.prog 103 row103 := ⟨by kernel_rfl, by kernel_rfl, by kernel_rfl, fun h => (by cases h)⟩
def row104 : TR := ⟨.func #[77, 77] #[4] false, 1, 8, .nilFunc, false, none, none⟩
theorem row104_ok : RowOk Tryd.prog 104 row104 := ⟨by kernel_rfl, by kernel_rfl, by kernel_rfl, fun h => (by cases h)⟩
def row105 : TR := ⟨.interface #[("Error", 109)], 1, 16, .nilIface, false, none, none⟩
theorem row105_ok : RowOk Tryd.prog 105 row105 := ⟨by kernel_rfl, by kernel_rfl, by kernel_rfl, fun h => (by cases h)⟩
def row106 : TR := ⟨.interface #[("Error", 109)], 1, 16, .nilIface, false, none, none⟩
theorem row106_ok : RowOk Tryd.prog 106 row106 := ⟨by kernel_rfl, by kernel_rfl, by kernel_rfl, fun h => (by cases h)⟩
def row107 : TR := ⟨.func #[5] #[106] false, 1, 8, .nilFunc, false, none, none⟩
theorem row107_ok : RowOk Tryd.prog 107 row107 := ⟨by kernel_rfl, by kernel_rfl, by kernel_rfl, fun h => (by cases h)⟩
def row108 : TR := ⟨.int .u64, 1, 8, .int .u64 0, false, none, none⟩
theorem row108_ok : RowOk Tryd.prog 108 row108 := ⟨by kernel_rfl, by kernel_rfl, by kernel_rfl, fun h => (by cases h)⟩
def row109 : TR := ⟨.func #[] #[9] false, 1, 8, .nilFunc, false, none, none⟩
theorem row109_ok : RowOk Tryd.prog 109 row109 := ⟨by kernel_rfl, by kernel_rfl, by kernel_rfl, fun h => (by cases h)⟩
def row110 : TR := ⟨.slice 9, 1, 24, .slice none 0 0, false, none, none⟩
theorem row110_ok : RowOk Tryd.prog 110 row110 := ⟨by kernel_rfl, by kernel_rfl, by kernel_rfl, fun h => (by cases h)⟩
def row111 : TR := ⟨.func #[3] #[9] false, 1, 8, .nilFunc, false, none, none⟩
theorem row111_ok : RowOk Tryd.prog 111 row111 := ⟨by kernel_rfl, by kernel_rfl, by kernel_rfl, fun h => (by cases h)⟩
def row112 : TR := ⟨.func #[110, 9] #[9] false, 1, 8, .nilFunc, false, none, none⟩
theorem row112_ok : RowOk Tryd.prog 112 row112 := ⟨by kernel_rfl, by kernel_rfl, by kernel_rfl, fun h => (by cases h)⟩
def row113 : TR := ⟨.func #[23, 29] #[3] false, 1, 8, .nilFunc, false, none, none⟩
theorem row113_ok : RowOk Tryd.prog 113 row113 := ⟨by kernel_rfl, by kernel_rfl, by kernel_rfl, fun h => (by cases h)⟩
def row114 : TR := ⟨.func #[9] #[3] false, 1, 8, .nilFunc, false, none, none⟩
theorem row114_ok : RowOk Tryd.prog 114 row114 := ⟨by kernel_rfl, by kernel_rfl, by kernel_rfl, fun h => (by cases h)⟩
def row115 : TR := ⟨.func #[23] #[4] false, 1, 8, .nilFunc, false, none, none⟩
theorem row115_ok : RowOk Tryd.prog 115 row115 := ⟨by kernel_rfl, by kernel_rfl, by kernel_rfl, fun h => (by cases h)⟩
def row116 : TR := ⟨.func #[22] #[4] false, 1, 8, .nilFunc, false, none, none⟩
theorem row116_ok : RowOk Tryd.prog 116 row116 := ⟨by kernel_rfl, by kernel_rfl, by kernel_rfl, fun h => (by cases h)⟩
def row117 : TR := ⟨.func #[52] #[4] false, 1, 8, .nilFunc, false, none, none⟩
theorem row117_ok : RowOk Tryd.prog 117 row117 := ⟨by kernel_rfl, by kernel_rfl, by kernel_rfl, fun h => (by cases h)⟩
def row118 : TR := ⟨.func #[2] #[4] false, 1, 8, .nilFunc, false, none, none⟩
theorem row118_ok : RowOk Tryd.prog 118 row118 := ⟨by kernel_rfl, by kernel_rfl, by kernel_rfl, fun h => (by cases h)⟩
def row119 : TR := ⟨.array 5 9, 5, 80, .agg #[.string ⟨#[]⟩, .string ⟨#[]⟩, .string ⟨#[]⟩, .string ⟨#[]⟩, .string ⟨#[]⟩], false, none, none⟩
theorem row119_ok : RowOk Tryd.prog 119 row119 := ⟨by kernel_rfl, by kernel_rfl, by kernel_rfl, fun h => (by cases h)⟩
def row120 : TR := ⟨.func #[110] #[] true, 1, 8, .nilFunc, false, none, none⟩
theorem row120_ok : RowOk Tryd.prog 120 row120 := ⟨by kernel_rfl, by kernel_rfl, by kernel_rfl, fun h => (by cases h)⟩
def row121 : TR := ⟨.func #[83, 4] #[] false, 1, 8, .nilFunc, false, none, none⟩
theorem row121_ok : RowOk Tryd.prog 121 row121 := ⟨by kernel_rfl, by kernel_rfl, by kernel_rfl, fun h => (by cases h)⟩
def row122 : TR := ⟨.struct #[⟨ "Tag", 3, 0, false, "", "", 0⟩, ⟨ "Name", 9, 1, false, "", "", 8⟩, ⟨ "In", 9, 2, false, "", "", 24⟩, ⟨ "Out", 9, 3, false, "", "", 40⟩, ⟨ "OneWay", 4, 4, false, "", "", 56⟩], 5, 64, .agg #[.int .i64 0, .string ⟨#[]⟩, .string ⟨#[]⟩, .string ⟨#[]⟩, .bool false], true, none, none⟩
theorem row122_ok : RowOk Tryd.prog 122 row122 := ⟨by kernel_rfl, by kernel_rfl, by kernel_rfl, fun _ => ⟨by kernel_rfl, by kernel_rfl⟩⟩
def row123 : TR := ⟨.struct #[⟨ "Tag", 3, 0, false, "", "", 0⟩, ⟨ "Name", 9, 1, false, "", "", 8⟩, ⟨ "In", 9, 2, false, "", "", 24⟩, ⟨ "Out", 9, 3, false, "", "", 40⟩, ⟨ "OneWay", 4, 4, false, "", "", 56⟩], 5, 64, .agg #[.int .i64 0, .string ⟨#[]⟩, .string ⟨#[]⟩, .string ⟨#[]⟩, .bool false], true, none, none⟩
theorem row123_ok : RowOk Tryd.prog 123 row123 := ⟨by kernel_rfl, by kernel_rfl, by kernel_rfl, fun _ => ⟨by kernel_rfl, by kernel_rfl⟩⟩
def row124 : TR := ⟨.func #[123] #[] false, 1, 8, .nilFunc, false, none, none⟩
theorem row124_ok : RowOk Tryd.prog 124 row124 := ⟨by kernel_rfl, by kernel_rfl, by kernel_rfl, fun h => (by cases h)⟩
def row125 : TR := ⟨.pointer 127, 1, 8, .pointer none, false, none, none⟩
theorem row125_ok : RowOk Tryd.prog 125 row125 := ⟨by kernel_rfl, by kernel_rfl, by kernel_rfl, fun h => (by cases h)⟩
def row126 : TR := ⟨.struct #[⟨ "s", 9, 0, false, "", "concourse/lex", 0⟩, ⟨ "at", 3, 1, false, "", "concourse/lex", 16⟩, ⟨ "out", 93, 2, false, "", "concourse/lex", 24⟩], 3, 48, .agg #[.string ⟨#[]⟩, .int .i64 0, .slice none 0 0], false, none, none⟩
theorem row126_ok : RowOk Tryd.prog 126 row126 := ⟨by kernel_rfl, by kernel_rfl, by kernel_rfl, fun h => (by cases h)⟩
def row127 : TR := ⟨.struct #[⟨ "s", 9, 0, false, "", "concourse/lex", 0⟩, ⟨ "at", 3, 1, false, "", "concourse/lex", 16⟩, ⟨ "out", 93, 2, false, "", "concourse/lex", 24⟩], 3, 48, .agg #[.string ⟨#[]⟩, .int .i64 0, .slice none 0 0], false, none, none⟩
theorem row127_ok : RowOk Tryd.prog 127 row127 := ⟨by kernel_rfl, by kernel_rfl, by kernel_rfl, fun h => (by cases h)⟩
def row128 : TR := ⟨.func #[] #[36] false, 1, 8, .nilFunc, false, none, none⟩
theorem row128_ok : RowOk Tryd.prog 128 row128 := ⟨by kernel_rfl, by kernel_rfl, by kernel_rfl, fun h => (by cases h)⟩
def row129 : TR := ⟨.func #[3, 9, 3, 3] #[] false, 1, 8, .nilFunc, false, none, none⟩
theorem row129_ok : RowOk Tryd.prog 129 row129 := ⟨by kernel_rfl, by kernel_rfl, by kernel_rfl, fun h => (by cases h)⟩
def row130 : TR := ⟨.func #[] #[3] false, 1, 8, .nilFunc, false, none, none⟩
theorem row130_ok : RowOk Tryd.prog 130 row130 := ⟨by kernel_rfl, by kernel_rfl, by kernel_rfl, fun h => (by cases h)⟩
def row131 : TR := ⟨.func #[9] #[] false, 1, 8, .nilFunc, false, none, none⟩
theorem row131_ok : RowOk Tryd.prog 131 row131 := ⟨by kernel_rfl, by kernel_rfl, by kernel_rfl, fun h => (by cases h)⟩
def row132 : TR := ⟨.func #[3] #[81] false, 1, 8, .nilFunc, false, none, none⟩
theorem row132_ok : RowOk Tryd.prog 132 row132 := ⟨by kernel_rfl, by kernel_rfl, by kernel_rfl, fun h => (by cases h)⟩
def row133 : TR := ⟨.func #[] #[123] false, 1, 8, .nilFunc, false, none, none⟩
theorem row133_ok : RowOk Tryd.prog 133 row133 := ⟨by kernel_rfl, by kernel_rfl, by kernel_rfl, fun h => (by cases h)⟩
def row134 : TR := ⟨.func #[1] #[] false, 1, 8, .nilFunc, false, none, none⟩
theorem row134_ok : RowOk Tryd.prog 134 row134 := ⟨by kernel_rfl, by kernel_rfl, by kernel_rfl, fun h => (by cases h)⟩
def row135 : TR := ⟨.func #[81, 81] #[4] false, 1, 8, .nilFunc, false, none, none⟩
theorem row135_ok : RowOk Tryd.prog 135 row135 := ⟨by kernel_rfl, by kernel_rfl, by kernel_rfl, fun h => (by cases h)⟩
def row136 : TR := ⟨.array 24 5, 24, 24, .agg #[.int .u8 0, .int .u8 0, .int .u8 0, .int .u8 0, .int .u8 0, .int .u8 0, .int .u8 0, .int .u8 0, .int .u8 0, .int .u8 0, .int .u8 0, .int .u8 0, .int .u8 0, .int .u8 0, .int .u8 0, .int .u8 0, .int .u8 0, .int .u8 0, .int .u8 0, .int .u8 0, .int .u8 0, .int .u8 0, .int .u8 0, .int .u8 0], false, none, none⟩
theorem row136_ok : RowOk Tryd.prog 136 row136 := ⟨by kernel_rfl, by kernel_rfl, by kernel_rfl, fun h => (by cases h)⟩
def row137 : TR := ⟨.func #[52] #[3] false, 1, 8, .nilFunc, false, none, none⟩
theorem row137_ok : RowOk Tryd.prog 137 row137 := ⟨by kernel_rfl, by kernel_rfl, by kernel_rfl, fun h => (by cases h)⟩
def row138 : TR := ⟨.func #[86, 52] #[] false, 1, 8, .nilFunc, false, none, none⟩
theorem row138_ok : RowOk Tryd.prog 138 row138 := ⟨by kernel_rfl, by kernel_rfl, by kernel_rfl, fun h => (by cases h)⟩
def row140 : TR := ⟨.func #[86, 52, 3, 4, 4] #[86, 9] false, 1, 8, .nilFunc, false, none, none⟩
theorem row140_ok : RowOk Tryd.prog 140 row140 := ⟨by kernel_rfl, by kernel_rfl, by kernel_rfl, fun h => (by cases h)⟩
def row141 : TR := ⟨.pointer 5, 1, 8, .pointer none, false, none, none⟩
theorem row141_ok : RowOk Tryd.prog 141 row141 := ⟨by kernel_rfl, by kernel_rfl, by kernel_rfl, fun h => (by cases h)⟩
def row142 : TR := ⟨.func #[3] #[] false, 1, 8, .nilFunc, false, none, none⟩
theorem row142_ok : RowOk Tryd.prog 142 row142 := ⟨by kernel_rfl, by kernel_rfl, by kernel_rfl, fun h => (by cases h)⟩
def row144 : TR := ⟨.func #[9] #[3, 106] false, 1, 8, .nilFunc, false, none, none⟩
theorem row144_ok : RowOk Tryd.prog 144 row144 := ⟨by kernel_rfl, by kernel_rfl, by kernel_rfl, fun h => (by cases h)⟩
def row145 : TR := ⟨.func #[9, 3] #[3] false, 1, 8, .nilFunc, false, none, none⟩
theorem row145_ok : RowOk Tryd.prog 145 row145 := ⟨by kernel_rfl, by kernel_rfl, by kernel_rfl, fun h => (by cases h)⟩
def row146 : TR := ⟨.func #[81, 3] #[] false, 1, 8, .nilFunc, false, none, none⟩
theorem row146_ok : RowOk Tryd.prog 146 row146 := ⟨by kernel_rfl, by kernel_rfl, by kernel_rfl, fun h => (by cases h)⟩
def row147 : TR := ⟨.func #[5] #[4] false, 1, 8, .nilFunc, false, none, none⟩
theorem row147_ok : RowOk Tryd.prog 147 row147 := ⟨by kernel_rfl, by kernel_rfl, by kernel_rfl, fun h => (by cases h)⟩
def row148 : TR := ⟨.func #[9, 5] #[3] false, 1, 8, .nilFunc, false, none, none⟩
theorem row148_ok : RowOk Tryd.prog 148 row148 := ⟨by kernel_rfl, by kernel_rfl, by kernel_rfl, fun h => (by cases h)⟩
def row149 : TR := ⟨.func #[3] #[3] false, 1, 8, .nilFunc, false, none, none⟩
theorem row149_ok : RowOk Tryd.prog 149 row149 := ⟨by kernel_rfl, by kernel_rfl, by kernel_rfl, fun h => (by cases h)⟩
def row150 : TR := ⟨.func #[4] #[3] false, 1, 8, .nilFunc, false, none, none⟩
theorem row150_ok : RowOk Tryd.prog 150 row150 := ⟨by kernel_rfl, by kernel_rfl, by kernel_rfl, fun h => (by cases h)⟩
def row151 : TR := ⟨.array 20 52, 20, 160, .agg #[.int .u64 0, .int .u64 0, .int .u64 0, .int .u64 0, .int .u64 0, .int .u64 0, .int .u64 0, .int .u64 0, .int .u64 0, .int .u64 0, .int .u64 0, .int .u64 0, .int .u64 0, .int .u64 0, .int .u64 0, .int .u64 0, .int .u64 0, .int .u64 0, .int .u64 0, .int .u64 0], false, none, none⟩
theorem row151_ok : RowOk Tryd.prog 151 row151 := ⟨by kernel_rfl, by kernel_rfl, by kernel_rfl, fun h => (by cases h)⟩
def row152 : TR := ⟨.int .u32, 1, 4, .int .u32 0, false, none, none⟩
theorem row152_ok : RowOk Tryd.prog 152 row152 := ⟨by kernel_rfl, by kernel_rfl, by kernel_rfl, fun h => (by cases h)⟩
def row153 : TR := ⟨.array 65 5, 65, 65, .agg #[.int .u8 0, .int .u8 0, .int .u8 0, .int .u8 0, .int .u8 0, .int .u8 0, .int .u8 0, .int .u8 0, .int .u8 0, .int .u8 0, .int .u8 0, .int .u8 0, .int .u8 0, .int .u8 0, .int .u8 0, .int .u8 0, .int .u8 0, .int .u8 0, .int .u8 0, .int .u8 0, .int .u8 0, .int .u8 0, .int .u8 0, .int .u8 0, .int .u8 0, .int .u8 0, .int .u8 0, .int .u8 0, .int .u8 0, .int .u8 0, .int .u8 0, .int .u8 0, .int .u8 0, .int .u8 0, .int .u8 0, .int .u8 0, .int .u8 0, .int .u8 0, .int .u8 0, .int .u8 0, .int .u8 0, .int .u8 0, .int .u8 0, .int .u8 0, .int .u8 0, .int .u8 0, .int .u8 0, .int .u8 0, .int .u8 0, .int .u8 0, .int .u8 0, .int .u8 0, .int .u8 0, .int .u8 0, .int .u8 0, .int .u8 0, .int .u8 0, .int .u8 0, .int .u8 0, .int .u8 0, .int .u8 0, .int .u8 0, .int .u8 0, .int .u8 0, .int .u8 0], false, none, none⟩
theorem row153_ok : RowOk Tryd.prog 153 row153 := ⟨by kernel_rfl, by kernel_rfl, by kernel_rfl, fun h => (by cases h)⟩
def row154 : TR := ⟨.func #[108] #[3] false, 1, 8, .nilFunc, false, none, none⟩
theorem row154_ok : RowOk Tryd.prog 154 row154 := ⟨by kernel_rfl, by kernel_rfl, by kernel_rfl, fun h => (by cases h)⟩
def row156 : TR := ⟨.func #[155] #[155] false, 1, 8, .nilFunc, false, none, none⟩
theorem row156_ok : RowOk Tryd.prog 156 row156 := ⟨by kernel_rfl, by kernel_rfl, by kernel_rfl, fun h => (by cases h)⟩
def row158 : TR := ⟨.func #[9, 3] #[3, 4] false, 1, 8, .nilFunc, false, none, none⟩
theorem row158_ok : RowOk Tryd.prog 158 row158 := ⟨by kernel_rfl, by kernel_rfl, by kernel_rfl, fun h => (by cases h)⟩
def row159 : TR := ⟨.func #[21] #[4] false, 1, 8, .nilFunc, false, none, none⟩
theorem row159_ok : RowOk Tryd.prog 159 row159 := ⟨by kernel_rfl, by kernel_rfl, by kernel_rfl, fun h => (by cases h)⟩
def row160 : TR := ⟨.func #[9, 9] #[4] false, 1, 8, .nilFunc, false, none, none⟩
theorem row160_ok : RowOk Tryd.prog 160 row160 := ⟨by kernel_rfl, by kernel_rfl, by kernel_rfl, fun h => (by cases h)⟩
def row161 : TR := ⟨.func #[147] #[9] false, 1, 8, .nilFunc, false, none, none⟩
theorem row161_ok : RowOk Tryd.prog 161 row161 := ⟨by kernel_rfl, by kernel_rfl, by kernel_rfl, fun h => (by cases h)⟩
def row162 : TR := ⟨.func #[152] #[3] false, 1, 8, .nilFunc, false, none, none⟩
theorem row162_ok : RowOk Tryd.prog 162 row162 := ⟨by kernel_rfl, by kernel_rfl, by kernel_rfl, fun h => (by cases h)⟩
def row163 : TR := ⟨.func #[3] #[86] false, 1, 8, .nilFunc, false, none, none⟩
theorem row163_ok : RowOk Tryd.prog 163 row163 := ⟨by kernel_rfl, by kernel_rfl, by kernel_rfl, fun h => (by cases h)⟩
def row164 : TR := ⟨.array 32 5, 32, 32, .agg #[.int .u8 0, .int .u8 0, .int .u8 0, .int .u8 0, .int .u8 0, .int .u8 0, .int .u8 0, .int .u8 0, .int .u8 0, .int .u8 0, .int .u8 0, .int .u8 0, .int .u8 0, .int .u8 0, .int .u8 0, .int .u8 0, .int .u8 0, .int .u8 0, .int .u8 0, .int .u8 0, .int .u8 0, .int .u8 0, .int .u8 0, .int .u8 0, .int .u8 0, .int .u8 0, .int .u8 0, .int .u8 0, .int .u8 0, .int .u8 0, .int .u8 0, .int .u8 0], false, none, none⟩
theorem row164_ok : RowOk Tryd.prog 164 row164 := ⟨by kernel_rfl, by kernel_rfl, by kernel_rfl, fun h => (by cases h)⟩
def row165 : TR := ⟨.array 64 5, 64, 64, .agg #[.int .u8 0, .int .u8 0, .int .u8 0, .int .u8 0, .int .u8 0, .int .u8 0, .int .u8 0, .int .u8 0, .int .u8 0, .int .u8 0, .int .u8 0, .int .u8 0, .int .u8 0, .int .u8 0, .int .u8 0, .int .u8 0, .int .u8 0, .int .u8 0, .int .u8 0, .int .u8 0, .int .u8 0, .int .u8 0, .int .u8 0, .int .u8 0, .int .u8 0, .int .u8 0, .int .u8 0, .int .u8 0, .int .u8 0, .int .u8 0, .int .u8 0, .int .u8 0, .int .u8 0, .int .u8 0, .int .u8 0, .int .u8 0, .int .u8 0, .int .u8 0, .int .u8 0, .int .u8 0, .int .u8 0, .int .u8 0, .int .u8 0, .int .u8 0, .int .u8 0, .int .u8 0, .int .u8 0, .int .u8 0, .int .u8 0, .int .u8 0, .int .u8 0, .int .u8 0, .int .u8 0, .int .u8 0, .int .u8 0, .int .u8 0, .int .u8 0, .int .u8 0, .int .u8 0, .int .u8 0, .int .u8 0, .int .u8 0, .int .u8 0, .int .u8 0], false, none, none⟩
theorem row165_ok : RowOk Tryd.prog 165 row165 := ⟨by kernel_rfl, by kernel_rfl, by kernel_rfl, fun h => (by cases h)⟩
def row167 : TR := ⟨.func #[9] #[152, 152] false, 1, 8, .nilFunc, false, none, none⟩
theorem row167_ok : RowOk Tryd.prog 167 row167 := ⟨by kernel_rfl, by kernel_rfl, by kernel_rfl, fun h => (by cases h)⟩
def row170 : TR := ⟨.array 0 16, 0, 0, .agg #[], false, none, none⟩
theorem row170_ok : RowOk Tryd.prog 170 row170 := ⟨by kernel_rfl, by kernel_rfl, by kernel_rfl, fun h => (by cases h)⟩
def row175 : TR := ⟨.func #[155, 155] #[4] false, 1, 8, .nilFunc, false, none, none⟩
theorem row175_ok : RowOk Tryd.prog 175 row175 := ⟨by kernel_rfl, by kernel_rfl, by kernel_rfl, fun h => (by cases h)⟩
def row181 : TR := ⟨.func #[9] #[21, 3] false, 1, 8, .nilFunc, false, none, none⟩
theorem row181_ok : RowOk Tryd.prog 181 row181 := ⟨by kernel_rfl, by kernel_rfl, by kernel_rfl, fun h => (by cases h)⟩
def row183 : TR := ⟨.struct #[⟨ "lo", 5, 0, false, "", "unicode/utf8", 0⟩, ⟨ "hi", 5, 1, false, "", "unicode/utf8", 1⟩], 2, 2, .agg #[.int .u8 0, .int .u8 0], true, none, none⟩
theorem row183_ok : RowOk Tryd.prog 183 row183 := ⟨by kernel_rfl, by kernel_rfl, by kernel_rfl, fun _ => ⟨by kernel_rfl, by kernel_rfl⟩⟩
def row184 : TR := ⟨.struct #[⟨ "lo", 5, 0, false, "", "unicode/utf8", 0⟩, ⟨ "hi", 5, 1, false, "", "unicode/utf8", 1⟩], 2, 2, .agg #[.int .u8 0, .int .u8 0], true, none, none⟩
theorem row184_ok : RowOk Tryd.prog 184 row184 := ⟨by kernel_rfl, by kernel_rfl, by kernel_rfl, fun _ => ⟨by kernel_rfl, by kernel_rfl⟩⟩
def row185 : TR := ⟨.array 16 184, 32, 32, .agg #[.int .u8 0, .int .u8 0, .int .u8 0, .int .u8 0, .int .u8 0, .int .u8 0, .int .u8 0, .int .u8 0, .int .u8 0, .int .u8 0, .int .u8 0, .int .u8 0, .int .u8 0, .int .u8 0, .int .u8 0, .int .u8 0, .int .u8 0, .int .u8 0, .int .u8 0, .int .u8 0, .int .u8 0, .int .u8 0, .int .u8 0, .int .u8 0, .int .u8 0, .int .u8 0, .int .u8 0, .int .u8 0, .int .u8 0, .int .u8 0, .int .u8 0, .int .u8 0], false, none, none⟩
theorem row185_ok : RowOk Tryd.prog 185 row185 := ⟨by kernel_rfl, by kernel_rfl, by kernel_rfl, fun h => (by cases h)⟩
def tyTab : List (TypeId × TR) := [(1, row1), (2, row2), (3, row3), (4, row4), (5, row5), (9, row9), (12, row12), (20, row20), (21, row21), (22, row22), (23, row23), (24, row24), (25, row25), (26, row26), (27, row27), (28, row28), (29, row29), (30, row30), (31, row31), (32, row32), (33, row33), (34, row34), (35, row35), (36, row36), (38, row38), (39, row39), (40, row40), (42, row42), (43, row43), (44, row44), (45, row45), (46, row46), (47, row47), (48, row48), (49, row49), (50, row50), (51, row51), (52, row52), (53, row53), (54, row54), (55, row55), (56, row56), (57, row57), (58, row58), (59, row59), (60, row60), (61, row61), (62, row62), (63, row63), (64, row64), (65, row65), (66, row66), (67, row67), (68, row68), (69, row69), (70, row70), (71, row71), (72, row72), (73, row73), (74, row74), (75, row75), (76, row76), (77, row77), (78, row78), (79, row79), (80, row80), (81, row81), (82, row82), (83, row83), (84, row84), (85, row85), (86, row86), (87, row87), (88, row88), (89, row89), (90, row90), (91, row91), (92, row92), (93, row93), (95, row95), (96, row96), (97, row97), (98, row98), (99, row99), (100, row100), (101, row101), (102, row102), (103, row103), (104, row104), (105, row105), (106, row106), (107, row107), (108, row108), (109, row109), (110, row110), (111, row111), (112, row112), (113, row113), (114, row114), (115, row115), (116, row116), (117, row117), (118, row118), (119, row119), (120, row120), (121, row121), (122, row122), (123, row123), (124, row124), (125, row125), (126, row126), (127, row127), (128, row128), (129, row129), (130, row130), (131, row131), (132, row132), (133, row133), (134, row134), (135, row135), (136, row136), (137, row137), (138, row138), (140, row140), (141, row141), (142, row142), (144, row144), (145, row145), (146, row146), (147, row147), (148, row148), (149, row149), (150, row150), (151, row151), (152, row152), (153, row153), (154, row154), (156, row156), (158, row158), (159, row159), (160, row160), (161, row161), (162, row162), (163, row163), (164, row164), (165, row165), (167, row167), (170, row170), (175, row175), (181, row181), (183, row183), (184, row184), (185, row185)]
theorem tyTab_ok : AllOk Tryd.prog tyTab := ⟨row1_ok, row2_ok, row3_ok, row4_ok, row5_ok, row9_ok, row12_ok, row20_ok, row21_ok, row22_ok, row23_ok, row24_ok, row25_ok, row26_ok, row27_ok, row28_ok, row29_ok, row30_ok, row31_ok, row32_ok, row33_ok, row34_ok, row35_ok, row36_ok, row38_ok, row39_ok, row40_ok, row42_ok, row43_ok, row44_ok, row45_ok, row46_ok, row47_ok, row48_ok, row49_ok, row50_ok, row51_ok, row52_ok, row53_ok, row54_ok, row55_ok, row56_ok, row57_ok, row58_ok, row59_ok, row60_ok, row61_ok, row62_ok, row63_ok, row64_ok, row65_ok, row66_ok, row67_ok, row68_ok, row69_ok, row70_ok, row71_ok, row72_ok, row73_ok, row74_ok, row75_ok, row76_ok, row77_ok, row78_ok, row79_ok, row80_ok, row81_ok, row82_ok, row83_ok, row84_ok, row85_ok, row86_ok, row87_ok, row88_ok, row89_ok, row90_ok, row91_ok, row92_ok, row93_ok, row95_ok, row96_ok, row97_ok, row98_ok, row99_ok, row100_ok, row101_ok, row102_ok, row103_ok, row104_ok, row105_ok, row106_ok, row107_ok, row108_ok, row109_ok, row110_ok, row111_ok, row112_ok, row113_ok, row114_ok, row115_ok, row116_ok, row117_ok, row118_ok, row119_ok, row120_ok, row121_ok, row122_ok, row123_ok, row124_ok, row125_ok, row126_ok, row127_ok, row128_ok, row129_ok, row130_ok, row131_ok, row132_ok, row133_ok, row134_ok, row135_ok, row136_ok, row137_ok, row138_ok, row140_ok, row141_ok, row142_ok, row144_ok, row145_ok, row146_ok, row147_ok, row148_ok, row149_ok, row150_ok, row151_ok, row152_ok, row153_ok, row154_ok, row156_ok, row158_ok, row159_ok, row160_ok, row161_ok, row162_ok, row163_ok, row164_ok, row165_ok, row167_ok, row170_ok, row175_ok, row181_ok, row183_ok, row184_ok, row185_ok, trivial⟩
def TT : TypeId → TR := lookT tyTab
theorem tt_ok : TOk Tryd.prog TT := lookT_ok tyTab tyTab_ok
end Go.Proofs.YtofhakbmmgpgdaaDoor
