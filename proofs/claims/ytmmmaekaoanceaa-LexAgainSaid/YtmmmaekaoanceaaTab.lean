/- The program's types, a row each, and that the rows are the program's. -/
import Derived.Test.YtmmmaekaoanceaaProg
import Derived.Test.YtmmmaekaoanceaaGb
set_option maxRecDepth 100000
namespace Go.Proofs.Ytmmmaekaoanceaa
open Go Go.RowKit Go.Proofs

structure RowOk (P : Program) (t : TypeId) (r : TR) : Prop where
  und : P.underlying t = some r.desc
  info : (P.info? t).map (fun i => (i.size, i.bytes, i.zero)) = some (r.cells, r.bytes, some r.zero)
  size : r.zero.cells.size = r.cells
  eq : r.eqok = true → P.stoodInHeld t = false ∧ P.eqGuardType P.depth t = false
def AllOk (P : Program) : List (TypeId × TR) → Prop
  | [] => True
  | (t, r) :: l => RowOk P t r ∧ AllOk P l
def rowNone : TR := ⟨.invalid, 0, 0, .tuple #[], false, none⟩
def lookT : List (TypeId × TR) → TypeId → TR
  | [], _ => rowNone
  | (k, r) :: l, t => match Nat.beq k t with
    | true => r
    | false => lookT l t
theorem lookT_ok {P : Program} : ∀ (l : List (TypeId × TR)), AllOk P l → TOk P (lookT l)
  | [], _ => fun t h => absurd rfl h
  | (k, r) :: l, ⟨h1, h2⟩ => fun t h => by
    unfold lookT at h ⊢
    cases hb : Nat.beq k t with
    | true =>
      have e := Nat.eq_of_beq_eq_true hb
      subst e
      obtain ⟨i, hi, he⟩ := Option.map_eq_some_iff.1 h1.info
      simp only [Prod.mk.injEq] at he
      exact ⟨h1.und, i, hi, he.1, he.2.1, he.2.2, h1.size, h1.eq⟩
    | false =>
      rw [hb] at h
      exact lookT_ok l h2 t h
def row1 : TR := ⟨.func #[] #[] false, 1, 8, .nilFunc, false, none⟩
theorem row1_ok : RowOk Try.prog 1 row1 := ⟨by kernel_rfl, by kernel_rfl, by kernel_rfl, fun h => (by cases h)⟩
def row2 : TR := ⟨.int .i64, 1, 8, .int .i64 0, false, none⟩
theorem row2_ok : RowOk Try.prog 2 row2 := ⟨by kernel_rfl, by kernel_rfl, by kernel_rfl, fun h => (by cases h)⟩
def row3 : TR := ⟨.int .i64, 1, 8, .int .i64 0, false, none⟩
theorem row3_ok : RowOk Try.prog 3 row3 := ⟨by kernel_rfl, by kernel_rfl, by kernel_rfl, fun h => (by cases h)⟩
def row4 : TR := ⟨.bool, 1, 1, .bool false, false, none⟩
theorem row4_ok : RowOk Try.prog 4 row4 := ⟨by kernel_rfl, by kernel_rfl, by kernel_rfl, fun h => (by cases h)⟩
def row5 : TR := ⟨.int .u8, 1, 1, .int .u8 0, false, none⟩
theorem row5_ok : RowOk Try.prog 5 row5 := ⟨by kernel_rfl, by kernel_rfl, by kernel_rfl, fun h => (by cases h)⟩
def row9 : TR := ⟨.string, 1, 16, .string ⟨#[]⟩, false, none⟩
theorem row9_ok : RowOk Try.prog 9 row9 := ⟨by kernel_rfl, by kernel_rfl, by kernel_rfl, fun h => (by cases h)⟩
def row12 : TR := ⟨.int .u64, 1, 8, .int .u64 0, false, none⟩
theorem row12_ok : RowOk Try.prog 12 row12 := ⟨by kernel_rfl, by kernel_rfl, by kernel_rfl, fun h => (by cases h)⟩
def row20 : TR := ⟨.interface #[], 1, 16, .nilIface, false, none⟩
theorem row20_ok : RowOk Try.prog 20 row20 := ⟨by kernel_rfl, by kernel_rfl, by kernel_rfl, fun h => (by cases h)⟩
def row21 : TR := ⟨.int .i32, 1, 4, .int .i32 0, false, none⟩
theorem row21_ok : RowOk Try.prog 21 row21 := ⟨by kernel_rfl, by kernel_rfl, by kernel_rfl, fun h => (by cases h)⟩
def row22 : TR := ⟨.slice 31, 1, 24, .slice none 0 0, false, none⟩
theorem row22_ok : RowOk Try.prog 22 row22 := ⟨by kernel_rfl, by kernel_rfl, by kernel_rfl, fun h => (by cases h)⟩
def row23 : TR := ⟨.func #[] #[4] false, 1, 8, .nilFunc, false, none⟩
theorem row23_ok : RowOk Try.prog 23 row23 := ⟨by kernel_rfl, by kernel_rfl, by kernel_rfl, fun h => (by cases h)⟩
def row24 : TR := ⟨.pointer 55, 1, 8, .pointer none, false, none⟩
theorem row24_ok : RowOk Try.prog 24 row24 := ⟨by kernel_rfl, by kernel_rfl, by kernel_rfl, fun h => (by cases h)⟩
def row25 : TR := ⟨.func #[] #[24] false, 1, 8, .nilFunc, false, none⟩
theorem row25_ok : RowOk Try.prog 25 row25 := ⟨by kernel_rfl, by kernel_rfl, by kernel_rfl, fun h => (by cases h)⟩
def row26 : TR := ⟨.pointer 108, 1, 8, .pointer none, false, none⟩
theorem row26_ok : RowOk Try.prog 26 row26 := ⟨by kernel_rfl, by kernel_rfl, by kernel_rfl, fun h => (by cases h)⟩
def row27 : TR := ⟨.func #[] #[26] false, 1, 8, .nilFunc, false, none⟩
theorem row27_ok : RowOk Try.prog 27 row27 := ⟨by kernel_rfl, by kernel_rfl, by kernel_rfl, fun h => (by cases h)⟩
def row28 : TR := ⟨.slice 40, 1, 24, .slice none 0 0, false, none⟩
theorem row28_ok : RowOk Try.prog 28 row28 := ⟨by kernel_rfl, by kernel_rfl, by kernel_rfl, fun h => (by cases h)⟩
def row29 : TR := ⟨.int .u64, 1, 8, .int .u64 0, false, none⟩
theorem row29_ok : RowOk Try.prog 29 row29 := ⟨by kernel_rfl, by kernel_rfl, by kernel_rfl, fun h => (by cases h)⟩
def row30 : TR := ⟨.struct #[⟨ "Kind", 3, 0, false, "", "", 0⟩, ⟨ "Owner", 3, 1, false, "", "", 8⟩, ⟨ "N", 29, 2, false, "", "", 16⟩, ⟨ "Has", 4, 3, false, "", "", 24⟩], 4, 32, .agg #[.int .i64 0, .int .i64 0, .int .u64 0, .bool false], true, none⟩
theorem row30_ok : RowOk Try.prog 30 row30 := ⟨by kernel_rfl, by kernel_rfl, by kernel_rfl, fun _ => ⟨by kernel_rfl, by kernel_rfl⟩⟩
def row31 : TR := ⟨.struct #[⟨ "Kind", 3, 0, false, "", "", 0⟩, ⟨ "Owner", 3, 1, false, "", "", 8⟩, ⟨ "N", 29, 2, false, "", "", 16⟩, ⟨ "Has", 4, 3, false, "", "", 24⟩], 4, 32, .agg #[.int .i64 0, .int .i64 0, .int .u64 0, .bool false], true, none⟩
theorem row31_ok : RowOk Try.prog 31 row31 := ⟨by kernel_rfl, by kernel_rfl, by kernel_rfl, fun _ => ⟨by kernel_rfl, by kernel_rfl⟩⟩
def row32 : TR := ⟨.func #[29] #[4] false, 1, 8, .nilFunc, false, none⟩
theorem row32_ok : RowOk Try.prog 32 row32 := ⟨by kernel_rfl, by kernel_rfl, by kernel_rfl, fun h => (by cases h)⟩
def row33 : TR := ⟨.int .i64, 1, 8, .int .i64 0, false, none⟩
theorem row33_ok : RowOk Try.prog 33 row33 := ⟨by kernel_rfl, by kernel_rfl, by kernel_rfl, fun h => (by cases h)⟩
def row35 : TR := ⟨.func #[3, 26] #[3, 29, 33] false, 1, 8, .nilFunc, false, none⟩
theorem row35_ok : RowOk Try.prog 35 row35 := ⟨by kernel_rfl, by kernel_rfl, by kernel_rfl, fun h => (by cases h)⟩
def row37 : TR := ⟨.func #[] #[29, 4] false, 1, 8, .nilFunc, false, none⟩
theorem row37_ok : RowOk Try.prog 37 row37 := ⟨by kernel_rfl, by kernel_rfl, by kernel_rfl, fun h => (by cases h)⟩
def row38 : TR := ⟨.func #[28, 3, 29] #[28] false, 1, 8, .nilFunc, false, none⟩
theorem row38_ok : RowOk Try.prog 38 row38 := ⟨by kernel_rfl, by kernel_rfl, by kernel_rfl, fun h => (by cases h)⟩
def row39 : TR := ⟨.struct #[⟨ "Owner", 3, 0, false, "", "", 0⟩, ⟨ "Epoch", 3, 1, false, "", "", 8⟩, ⟨ "Tag", 29, 2, false, "", "", 16⟩, ⟨ "Known", 4, 3, false, "", "", 24⟩], 4, 32, .agg #[.int .i64 0, .int .i64 0, .int .u64 0, .bool false], true, none⟩
theorem row39_ok : RowOk Try.prog 39 row39 := ⟨by kernel_rfl, by kernel_rfl, by kernel_rfl, fun _ => ⟨by kernel_rfl, by kernel_rfl⟩⟩
def row40 : TR := ⟨.struct #[⟨ "Owner", 3, 0, false, "", "", 0⟩, ⟨ "Epoch", 3, 1, false, "", "", 8⟩, ⟨ "Tag", 29, 2, false, "", "", 16⟩, ⟨ "Known", 4, 3, false, "", "", 24⟩], 4, 32, .agg #[.int .i64 0, .int .i64 0, .int .u64 0, .bool false], true, none⟩
theorem row40_ok : RowOk Try.prog 40 row40 := ⟨by kernel_rfl, by kernel_rfl, by kernel_rfl, fun _ => ⟨by kernel_rfl, by kernel_rfl⟩⟩
def row41 : TR := ⟨.func #[3] #[33] false, 1, 8, .nilFunc, false, none⟩
theorem row41_ok : RowOk Try.prog 41 row41 := ⟨by kernel_rfl, by kernel_rfl, by kernel_rfl, fun h => (by cases h)⟩
def row43 : TR := ⟨.func #[28, 3] #[28, 4] false, 1, 8, .nilFunc, false, none⟩
theorem row43_ok : RowOk Try.prog 43 row43 := ⟨by kernel_rfl, by kernel_rfl, by kernel_rfl, fun h => (by cases h)⟩
def row44 : TR := ⟨.func #[3] #[3] false, 1, 8, .nilFunc, false, none⟩
theorem row44_ok : RowOk Try.prog 44 row44 := ⟨by kernel_rfl, by kernel_rfl, by kernel_rfl, fun h => (by cases h)⟩
def row45 : TR := ⟨.func #[28, 3] #[3] false, 1, 8, .nilFunc, false, none⟩
theorem row45_ok : RowOk Try.prog 45 row45 := ⟨by kernel_rfl, by kernel_rfl, by kernel_rfl, fun h => (by cases h)⟩
def row46 : TR := ⟨.func #[3, 3, 29] #[4] false, 1, 8, .nilFunc, false, none⟩
theorem row46_ok : RowOk Try.prog 46 row46 := ⟨by kernel_rfl, by kernel_rfl, by kernel_rfl, fun h => (by cases h)⟩
def row47 : TR := ⟨.func #[28, 3, 3, 29] #[4] false, 1, 8, .nilFunc, false, none⟩
theorem row47_ok : RowOk Try.prog 47 row47 := ⟨by kernel_rfl, by kernel_rfl, by kernel_rfl, fun h => (by cases h)⟩
def row48 : TR := ⟨.func #[22] #[4] false, 1, 8, .nilFunc, false, none⟩
theorem row48_ok : RowOk Try.prog 48 row48 := ⟨by kernel_rfl, by kernel_rfl, by kernel_rfl, fun h => (by cases h)⟩
def row49 : TR := ⟨.array 2 5, 2, 2, .agg #[.int .u8 0, .int .u8 0], false, none⟩
theorem row49_ok : RowOk Try.prog 49 row49 := ⟨by kernel_rfl, by kernel_rfl, by kernel_rfl, fun h => (by cases h)⟩
def row50 : TR := ⟨.array 9 3, 9, 72, .agg #[.int .i64 0, .int .i64 0, .int .i64 0, .int .i64 0, .int .i64 0, .int .i64 0, .int .i64 0, .int .i64 0, .int .i64 0], false, none⟩
theorem row50_ok : RowOk Try.prog 50 row50 := ⟨by kernel_rfl, by kernel_rfl, by kernel_rfl, fun h => (by cases h)⟩
def row51 : TR := ⟨.struct #[⟨ "epoch", 3, 0, false, "", "concourse/mac", 0⟩, ⟨ "tag", 29, 1, false, "", "concourse/mac", 8⟩], 2, 16, .agg #[.int .i64 0, .int .u64 0], true, none⟩
theorem row51_ok : RowOk Try.prog 51 row51 := ⟨by kernel_rfl, by kernel_rfl, by kernel_rfl, fun _ => ⟨by kernel_rfl, by kernel_rfl⟩⟩
def row52 : TR := ⟨.struct #[⟨ "epoch", 3, 0, false, "", "concourse/mac", 0⟩, ⟨ "tag", 29, 1, false, "", "concourse/mac", 8⟩], 2, 16, .agg #[.int .i64 0, .int .u64 0], true, none⟩
theorem row52_ok : RowOk Try.prog 52 row52 := ⟨by kernel_rfl, by kernel_rfl, by kernel_rfl, fun _ => ⟨by kernel_rfl, by kernel_rfl⟩⟩
def row53 : TR := ⟨.array 9 52, 18, 144, .agg #[.int .i64 0, .int .u64 0, .int .i64 0, .int .u64 0, .int .i64 0, .int .u64 0, .int .i64 0, .int .u64 0, .int .i64 0, .int .u64 0, .int .i64 0, .int .u64 0, .int .i64 0, .int .u64 0, .int .i64 0, .int .u64 0, .int .i64 0, .int .u64 0], false, none⟩
theorem row53_ok : RowOk Try.prog 53 row53 := ⟨by kernel_rfl, by kernel_rfl, by kernel_rfl, fun h => (by cases h)⟩
def row54 : TR := ⟨.struct #[⟨ "epochs", 50, 0, false, "", "concourse/mac", 0⟩, ⟨ "badges", 53, 9, false, "", "concourse/mac", 72⟩], 27, 216, .agg #[.int .i64 0, .int .i64 0, .int .i64 0, .int .i64 0, .int .i64 0, .int .i64 0, .int .i64 0, .int .i64 0, .int .i64 0, .int .i64 0, .int .u64 0, .int .i64 0, .int .u64 0, .int .i64 0, .int .u64 0, .int .i64 0, .int .u64 0, .int .i64 0, .int .u64 0, .int .i64 0, .int .u64 0, .int .i64 0, .int .u64 0, .int .i64 0, .int .u64 0, .int .i64 0, .int .u64 0], false, none⟩
theorem row54_ok : RowOk Try.prog 54 row54 := ⟨by kernel_rfl, by kernel_rfl, by kernel_rfl, fun h => (by cases h)⟩
def row55 : TR := ⟨.struct #[⟨ "epochs", 50, 0, false, "", "concourse/mac", 0⟩, ⟨ "badges", 53, 9, false, "", "concourse/mac", 72⟩], 27, 216, .agg #[.int .i64 0, .int .i64 0, .int .i64 0, .int .i64 0, .int .i64 0, .int .i64 0, .int .i64 0, .int .i64 0, .int .i64 0, .int .i64 0, .int .u64 0, .int .i64 0, .int .u64 0, .int .i64 0, .int .u64 0, .int .i64 0, .int .u64 0, .int .i64 0, .int .u64 0, .int .i64 0, .int .u64 0, .int .i64 0, .int .u64 0, .int .i64 0, .int .u64 0, .int .i64 0, .int .u64 0], false, none⟩
theorem row55_ok : RowOk Try.prog 55 row55 := ⟨by kernel_rfl, by kernel_rfl, by kernel_rfl, fun h => (by cases h)⟩
def row56 : TR := ⟨.func #[29, 29, 49] #[4] false, 1, 8, .nilFunc, false, none⟩
theorem row56_ok : RowOk Try.prog 56 row56 := ⟨by kernel_rfl, by kernel_rfl, by kernel_rfl, fun h => (by cases h)⟩
def row57 : TR := ⟨.func #[] #[3] false, 1, 8, .nilFunc, false, none⟩
theorem row57_ok : RowOk Try.prog 57 row57 := ⟨by kernel_rfl, by kernel_rfl, by kernel_rfl, fun h => (by cases h)⟩
def row58 : TR := ⟨.struct #[⟨ "Owner", 3, 0, false, "", "", 0⟩, ⟨ "Epoch", 3, 1, false, "", "", 8⟩, ⟨ "Tag", 29, 2, false, "", "", 16⟩], 3, 24, .agg #[.int .i64 0, .int .i64 0, .int .u64 0], true, none⟩
theorem row58_ok : RowOk Try.prog 58 row58 := ⟨by kernel_rfl, by kernel_rfl, by kernel_rfl, fun _ => ⟨by kernel_rfl, by kernel_rfl⟩⟩
def row59 : TR := ⟨.struct #[⟨ "Owner", 3, 0, false, "", "", 0⟩, ⟨ "Epoch", 3, 1, false, "", "", 8⟩, ⟨ "Tag", 29, 2, false, "", "", 16⟩], 3, 24, .agg #[.int .i64 0, .int .i64 0, .int .u64 0], true, none⟩
theorem row59_ok : RowOk Try.prog 59 row59 := ⟨by kernel_rfl, by kernel_rfl, by kernel_rfl, fun _ => ⟨by kernel_rfl, by kernel_rfl⟩⟩
def row61 : TR := ⟨.func #[62] #[9, 33] false, 1, 8, .nilFunc, false, none⟩
theorem row61_ok : RowOk Try.prog 61 row61 := ⟨by kernel_rfl, by kernel_rfl, by kernel_rfl, fun h => (by cases h)⟩
def row62 : TR := ⟨.struct #[⟨ "Owner", 3, 0, false, "", "", 0⟩, ⟨ "Epoch", 3, 1, false, "", "", 8⟩, ⟨ "Tag", 29, 2, false, "", "", 16⟩], 3, 24, .agg #[.int .i64 0, .int .i64 0, .int .u64 0], true, none⟩
theorem row62_ok : RowOk Try.prog 62 row62 := ⟨by kernel_rfl, by kernel_rfl, by kernel_rfl, fun _ => ⟨by kernel_rfl, by kernel_rfl⟩⟩
def row63 : TR := ⟨.func #[59] #[9, 33] false, 1, 8, .nilFunc, false, none⟩
theorem row63_ok : RowOk Try.prog 63 row63 := ⟨by kernel_rfl, by kernel_rfl, by kernel_rfl, fun h => (by cases h)⟩
def row65 : TR := ⟨.func #[9] #[62, 33] false, 1, 8, .nilFunc, false, none⟩
theorem row65_ok : RowOk Try.prog 65 row65 := ⟨by kernel_rfl, by kernel_rfl, by kernel_rfl, fun h => (by cases h)⟩
def row67 : TR := ⟨.func #[9] #[59, 33] false, 1, 8, .nilFunc, false, none⟩
theorem row67_ok : RowOk Try.prog 67 row67 := ⟨by kernel_rfl, by kernel_rfl, by kernel_rfl, fun h => (by cases h)⟩
def row68 : TR := ⟨.func #[59, 9] #[4] false, 1, 8, .nilFunc, false, none⟩
theorem row68_ok : RowOk Try.prog 68 row68 := ⟨by kernel_rfl, by kernel_rfl, by kernel_rfl, fun h => (by cases h)⟩
def row69 : TR := ⟨.slice 72, 1, 24, .slice none 0 0, false, none⟩
theorem row69_ok : RowOk Try.prog 69 row69 := ⟨by kernel_rfl, by kernel_rfl, by kernel_rfl, fun h => (by cases h)⟩
def row70 : TR := ⟨.func #[69] #[9, 33] false, 1, 8, .nilFunc, false, none⟩
theorem row70_ok : RowOk Try.prog 70 row70 := ⟨by kernel_rfl, by kernel_rfl, by kernel_rfl, fun h => (by cases h)⟩
def row71 : TR := ⟨.struct #[⟨ "Kind", 3, 0, false, "", "", 0⟩, ⟨ "Conn", 3, 1, false, "", "", 8⟩, ⟨ "Num", 29, 2, false, "", "", 16⟩, ⟨ "Bytes", 9, 3, false, "", "", 24⟩], 4, 40, .agg #[.int .i64 0, .int .i64 0, .int .u64 0, .string ⟨#[]⟩], true, none⟩
theorem row71_ok : RowOk Try.prog 71 row71 := ⟨by kernel_rfl, by kernel_rfl, by kernel_rfl, fun _ => ⟨by kernel_rfl, by kernel_rfl⟩⟩
def row72 : TR := ⟨.struct #[⟨ "Kind", 3, 0, false, "", "", 0⟩, ⟨ "Conn", 3, 1, false, "", "", 8⟩, ⟨ "Num", 29, 2, false, "", "", 16⟩, ⟨ "Bytes", 9, 3, false, "", "", 24⟩], 4, 40, .agg #[.int .i64 0, .int .i64 0, .int .u64 0, .string ⟨#[]⟩], true, none⟩
theorem row72_ok : RowOk Try.prog 72 row72 := ⟨by kernel_rfl, by kernel_rfl, by kernel_rfl, fun _ => ⟨by kernel_rfl, by kernel_rfl⟩⟩
def row73 : TR := ⟨.func #[72] #[72] false, 1, 8, .nilFunc, false, none⟩
theorem row73_ok : RowOk Try.prog 73 row73 := ⟨by kernel_rfl, by kernel_rfl, by kernel_rfl, fun h => (by cases h)⟩
def row74 : TR := ⟨.func #[69] #[4] false, 1, 8, .nilFunc, false, none⟩
theorem row74_ok : RowOk Try.prog 74 row74 := ⟨by kernel_rfl, by kernel_rfl, by kernel_rfl, fun h => (by cases h)⟩
def row75 : TR := ⟨.struct #[⟨ "Quantum", 3, 0, false, "", "", 0⟩, ⟨ "Rate", 3, 1, false, "", "", 8⟩, ⟨ "Burst", 3, 2, false, "", "", 16⟩, ⟨ "Mem", 3, 3, false, "", "", 24⟩, ⟨ "Slots", 3, 4, false, "", "", 32⟩, ⟨ "Outs", 3, 5, false, "", "", 40⟩, ⟨ "Conns", 3, 6, false, "", "", 48⟩, ⟨ "State", 3, 7, false, "", "", 56⟩, ⟨ "Decode", 3, 8, false, "", "", 64⟩], 9, 72, .agg #[.int .i64 0, .int .i64 0, .int .i64 0, .int .i64 0, .int .i64 0, .int .i64 0, .int .i64 0, .int .i64 0, .int .i64 0], true, none⟩
theorem row75_ok : RowOk Try.prog 75 row75 := ⟨by kernel_rfl, by kernel_rfl, by kernel_rfl, fun _ => ⟨by kernel_rfl, by kernel_rfl⟩⟩
def row76 : TR := ⟨.struct #[⟨ "Quantum", 3, 0, false, "", "", 0⟩, ⟨ "Rate", 3, 1, false, "", "", 8⟩, ⟨ "Burst", 3, 2, false, "", "", 16⟩, ⟨ "Mem", 3, 3, false, "", "", 24⟩, ⟨ "Slots", 3, 4, false, "", "", 32⟩, ⟨ "Outs", 3, 5, false, "", "", 40⟩, ⟨ "Conns", 3, 6, false, "", "", 48⟩, ⟨ "State", 3, 7, false, "", "", 56⟩, ⟨ "Decode", 3, 8, false, "", "", 64⟩], 9, 72, .agg #[.int .i64 0, .int .i64 0, .int .i64 0, .int .i64 0, .int .i64 0, .int .i64 0, .int .i64 0, .int .i64 0, .int .i64 0], true, none⟩
theorem row76_ok : RowOk Try.prog 76 row76 := ⟨by kernel_rfl, by kernel_rfl, by kernel_rfl, fun _ => ⟨by kernel_rfl, by kernel_rfl⟩⟩
def row77 : TR := ⟨.slice 3, 1, 24, .slice none 0 0, false, none⟩
theorem row77_ok : RowOk Try.prog 77 row77 := ⟨by kernel_rfl, by kernel_rfl, by kernel_rfl, fun h => (by cases h)⟩
def row79 : TR := ⟨.func #[77] #[76, 33] false, 1, 8, .nilFunc, false, none⟩
theorem row79_ok : RowOk Try.prog 79 row79 := ⟨by kernel_rfl, by kernel_rfl, by kernel_rfl, fun h => (by cases h)⟩
def row80 : TR := ⟨.func #[76] #[33] false, 1, 8, .nilFunc, false, none⟩
theorem row80_ok : RowOk Try.prog 80 row80 := ⟨by kernel_rfl, by kernel_rfl, by kernel_rfl, fun h => (by cases h)⟩
def row81 : TR := ⟨.func #[77, 77] #[4] false, 1, 8, .nilFunc, false, none⟩
theorem row81_ok : RowOk Try.prog 81 row81 := ⟨by kernel_rfl, by kernel_rfl, by kernel_rfl, fun h => (by cases h)⟩
def row82 : TR := ⟨.func #[76] #[77] false, 1, 8, .nilFunc, false, none⟩
theorem row82_ok : RowOk Try.prog 82 row82 := ⟨by kernel_rfl, by kernel_rfl, by kernel_rfl, fun h => (by cases h)⟩
def row83 : TR := ⟨.func #[76, 77] #[4] false, 1, 8, .nilFunc, false, none⟩
theorem row83_ok : RowOk Try.prog 83 row83 := ⟨by kernel_rfl, by kernel_rfl, by kernel_rfl, fun h => (by cases h)⟩
def row84 : TR := ⟨.slice 92, 1, 24, .slice none 0 0, false, none⟩
theorem row84_ok : RowOk Try.prog 84 row84 := ⟨by kernel_rfl, by kernel_rfl, by kernel_rfl, fun h => (by cases h)⟩
def row85 : TR := ⟨.struct #[⟨ "Err", 33, 0, false, "", "", 0⟩, ⟨ "At", 3, 1, false, "", "", 8⟩], 2, 16, .agg #[.int .i64 0, .int .i64 0], true, none⟩
theorem row85_ok : RowOk Try.prog 85 row85 := ⟨by kernel_rfl, by kernel_rfl, by kernel_rfl, fun _ => ⟨by kernel_rfl, by kernel_rfl⟩⟩
def row86 : TR := ⟨.struct #[⟨ "Err", 33, 0, false, "", "", 0⟩, ⟨ "At", 3, 1, false, "", "", 8⟩], 2, 16, .agg #[.int .i64 0, .int .i64 0], true, none⟩
theorem row86_ok : RowOk Try.prog 86 row86 := ⟨by kernel_rfl, by kernel_rfl, by kernel_rfl, fun _ => ⟨by kernel_rfl, by kernel_rfl⟩⟩
def row88 : TR := ⟨.func #[9] #[84, 86] false, 1, 8, .nilFunc, false, none⟩
theorem row88_ok : RowOk Try.prog 88 row88 := ⟨by kernel_rfl, by kernel_rfl, by kernel_rfl, fun h => (by cases h)⟩
def row89 : TR := ⟨.func #[84, 84, 4] #[4] false, 1, 8, .nilFunc, false, none⟩
theorem row89_ok : RowOk Try.prog 89 row89 := ⟨by kernel_rfl, by kernel_rfl, by kernel_rfl, fun h => (by cases h)⟩
def row90 : TR := ⟨.func #[9] #[4] false, 1, 8, .nilFunc, false, none⟩
theorem row90_ok : RowOk Try.prog 90 row90 := ⟨by kernel_rfl, by kernel_rfl, by kernel_rfl, fun h => (by cases h)⟩
def row91 : TR := ⟨.struct #[⟨ "Kind", 3, 0, false, "", "", 0⟩, ⟨ "Text", 9, 1, false, "", "", 8⟩, ⟨ "Num", 3, 2, false, "", "", 24⟩, ⟨ "At", 3, 3, false, "", "", 32⟩], 4, 40, .agg #[.int .i64 0, .string ⟨#[]⟩, .int .i64 0, .int .i64 0], true, none⟩
theorem row91_ok : RowOk Try.prog 91 row91 := ⟨by kernel_rfl, by kernel_rfl, by kernel_rfl, fun _ => ⟨by kernel_rfl, by kernel_rfl⟩⟩
def row92 : TR := ⟨.struct #[⟨ "Kind", 3, 0, false, "", "", 0⟩, ⟨ "Text", 9, 1, false, "", "", 8⟩, ⟨ "Num", 3, 2, false, "", "", 24⟩, ⟨ "At", 3, 3, false, "", "", 32⟩], 4, 40, .agg #[.int .i64 0, .string ⟨#[]⟩, .int .i64 0, .int .i64 0], true, none⟩
theorem row92_ok : RowOk Try.prog 92 row92 := ⟨by kernel_rfl, by kernel_rfl, by kernel_rfl, fun _ => ⟨by kernel_rfl, by kernel_rfl⟩⟩
def row93 : TR := ⟨.slice 29, 1, 24, .slice none 0 0, false, none⟩
theorem row93_ok : RowOk Try.prog 93 row93 := ⟨by kernel_rfl, by kernel_rfl, by kernel_rfl, fun h => (by cases h)⟩
def row95 : TR := ⟨.func #[24, 9] #[3, 33] false, 1, 8, .nilFunc, false, none⟩
theorem row95_ok : RowOk Try.prog 95 row95 := ⟨by kernel_rfl, by kernel_rfl, by kernel_rfl, fun h => (by cases h)⟩
def row96 : TR := ⟨.func #[93, 9] #[4] false, 1, 8, .nilFunc, false, none⟩
theorem row96_ok : RowOk Try.prog 96 row96 := ⟨by kernel_rfl, by kernel_rfl, by kernel_rfl, fun h => (by cases h)⟩
def row97 : TR := ⟨.func #[76] #[9, 33] false, 1, 8, .nilFunc, false, none⟩
theorem row97_ok : RowOk Try.prog 97 row97 := ⟨by kernel_rfl, by kernel_rfl, by kernel_rfl, fun h => (by cases h)⟩
def row98 : TR := ⟨.func #[9] #[76, 33] false, 1, 8, .nilFunc, false, none⟩
theorem row98_ok : RowOk Try.prog 98 row98 := ⟨by kernel_rfl, by kernel_rfl, by kernel_rfl, fun h => (by cases h)⟩
def row99 : TR := ⟨.func #[76, 9] #[4] false, 1, 8, .nilFunc, false, none⟩
theorem row99_ok : RowOk Try.prog 99 row99 := ⟨by kernel_rfl, by kernel_rfl, by kernel_rfl, fun h => (by cases h)⟩
def row101 : TR := ⟨.func #[9] #[69, 33] false, 1, 8, .nilFunc, false, none⟩
theorem row101_ok : RowOk Try.prog 101 row101 := ⟨by kernel_rfl, by kernel_rfl, by kernel_rfl, fun h => (by cases h)⟩
def row102 : TR := ⟨.func #[69, 69] #[4] false, 1, 8, .nilFunc, false, none⟩
theorem row102_ok : RowOk Try.prog 102 row102 := ⟨by kernel_rfl, by kernel_rfl, by kernel_rfl, fun h => (by cases h)⟩
def row103 : TR := ⟨.func #[69, 9] #[4] false, 1, 8, .nilFunc, false, none⟩
theorem row103_ok : RowOk Try.prog 103 row103 := ⟨by kernel_rfl, by kernel_rfl, by kernel_rfl, fun h => (by cases h)⟩
def row104 : TR := ⟨.func #[72, 3] #[4] false, 1, 8, .nilFunc, false, none⟩
theorem row104_ok : RowOk Try.prog 104 row104 := ⟨by kernel_rfl, by kernel_rfl, by kernel_rfl, fun h => (by cases h)⟩
def row105 : TR := ⟨.func #[84] #[9] false, 1, 8, .nilFunc, false, none⟩
theorem row105_ok : RowOk Try.prog 105 row105 := ⟨by kernel_rfl, by kernel_rfl, by kernel_rfl, fun h => (by cases h)⟩
def row106 : TR := ⟨.array 64 29, 64, 512, .agg #[.int .u64 0, .int .u64 0, .int .u64 0, .int .u64 0, .int .u64 0, .int .u64 0, .int .u64 0, .int .u64 0, .int .u64 0, .int .u64 0, .int .u64 0, .int .u64 0, .int .u64 0, .int .u64 0, .int .u64 0, .int .u64 0, .int .u64 0, .int .u64 0, .int .u64 0, .int .u64 0, .int .u64 0, .int .u64 0, .int .u64 0, .int .u64 0, .int .u64 0, .int .u64 0, .int .u64 0, .int .u64 0, .int .u64 0, .int .u64 0, .int .u64 0, .int .u64 0, .int .u64 0, .int .u64 0, .int .u64 0, .int .u64 0, .int .u64 0, .int .u64 0, .int .u64 0, .int .u64 0, .int .u64 0, .int .u64 0, .int .u64 0, .int .u64 0, .int .u64 0, .int .u64 0, .int .u64 0, .int .u64 0, .int .u64 0, .int .u64 0, .int .u64 0, .int .u64 0, .int .u64 0, .int .u64 0, .int .u64 0, .int .u64 0, .int .u64 0, .int .u64 0, .int .u64 0, .int .u64 0, .int .u64 0, .int .u64 0, .int .u64 0, .int .u64 0], false, none⟩
theorem row106_ok : RowOk Try.prog 106 row106 := ⟨by kernel_rfl, by kernel_rfl, by kernel_rfl, fun h => (by cases h)⟩
def row107 : TR := ⟨.struct #[⟨ "ring", 106, 0, false, "", "concourse/dice", 0⟩, ⟨ "first", 3, 64, false, "", "concourse/dice", 512⟩, ⟨ "n", 3, 65, false, "", "concourse/dice", 520⟩], 66, 528, .agg #[.int .u64 0, .int .u64 0, .int .u64 0, .int .u64 0, .int .u64 0, .int .u64 0, .int .u64 0, .int .u64 0, .int .u64 0, .int .u64 0, .int .u64 0, .int .u64 0, .int .u64 0, .int .u64 0, .int .u64 0, .int .u64 0, .int .u64 0, .int .u64 0, .int .u64 0, .int .u64 0, .int .u64 0, .int .u64 0, .int .u64 0, .int .u64 0, .int .u64 0, .int .u64 0, .int .u64 0, .int .u64 0, .int .u64 0, .int .u64 0, .int .u64 0, .int .u64 0, .int .u64 0, .int .u64 0, .int .u64 0, .int .u64 0, .int .u64 0, .int .u64 0, .int .u64 0, .int .u64 0, .int .u64 0, .int .u64 0, .int .u64 0, .int .u64 0, .int .u64 0, .int .u64 0, .int .u64 0, .int .u64 0, .int .u64 0, .int .u64 0, .int .u64 0, .int .u64 0, .int .u64 0, .int .u64 0, .int .u64 0, .int .u64 0, .int .u64 0, .int .u64 0, .int .u64 0, .int .u64 0, .int .u64 0, .int .u64 0, .int .u64 0, .int .u64 0, .int .i64 0, .int .i64 0], false, none⟩
theorem row107_ok : RowOk Try.prog 107 row107 := ⟨by kernel_rfl, by kernel_rfl, by kernel_rfl, fun h => (by cases h)⟩
def row108 : TR := ⟨.struct #[⟨ "ring", 106, 0, false, "", "concourse/dice", 0⟩, ⟨ "first", 3, 64, false, "", "concourse/dice", 512⟩, ⟨ "n", 3, 65, false, "", "concourse/dice", 520⟩], 66, 528, .agg #[.int .u64 0, .int .u64 0, .int .u64 0, .int .u64 0, .int .u64 0, .int .u64 0, .int .u64 0, .int .u64 0, .int .u64 0, .int .u64 0, .int .u64 0, .int .u64 0, .int .u64 0, .int .u64 0, .int .u64 0, .int .u64 0, .int .u64 0, .int .u64 0, .int .u64 0, .int .u64 0, .int .u64 0, .int .u64 0, .int .u64 0, .int .u64 0, .int .u64 0, .int .u64 0, .int .u64 0, .int .u64 0, .int .u64 0, .int .u64 0, .int .u64 0, .int .u64 0, .int .u64 0, .int .u64 0, .int .u64 0, .int .u64 0, .int .u64 0, .int .u64 0, .int .u64 0, .int .u64 0, .int .u64 0, .int .u64 0, .int .u64 0, .int .u64 0, .int .u64 0, .int .u64 0, .int .u64 0, .int .u64 0, .int .u64 0, .int .u64 0, .int .u64 0, .int .u64 0, .int .u64 0, .int .u64 0, .int .u64 0, .int .u64 0, .int .u64 0, .int .u64 0, .int .u64 0, .int .u64 0, .int .u64 0, .int .u64 0, .int .u64 0, .int .u64 0, .int .i64 0, .int .i64 0], false, none⟩
theorem row108_ok : RowOk Try.prog 108 row108 := ⟨by kernel_rfl, by kernel_rfl, by kernel_rfl, fun h => (by cases h)⟩
def row109 : TR := ⟨.func #[3] #[4] false, 1, 8, .nilFunc, false, none⟩
theorem row109_ok : RowOk Try.prog 109 row109 := ⟨by kernel_rfl, by kernel_rfl, by kernel_rfl, fun h => (by cases h)⟩
def row110 : TR := ⟨.func #[29, 29] #[29] false, 1, 8, .nilFunc, false, none⟩
theorem row110_ok : RowOk Try.prog 110 row110 := ⟨by kernel_rfl, by kernel_rfl, by kernel_rfl, fun h => (by cases h)⟩
def row111 : TR := ⟨.int .u64, 1, 8, .int .u64 0, false, none⟩
theorem row111_ok : RowOk Try.prog 111 row111 := ⟨by kernel_rfl, by kernel_rfl, by kernel_rfl, fun h => (by cases h)⟩
def row112 : TR := ⟨.func #[29] #[9] false, 1, 8, .nilFunc, false, none⟩
theorem row112_ok : RowOk Try.prog 112 row112 := ⟨by kernel_rfl, by kernel_rfl, by kernel_rfl, fun h => (by cases h)⟩
def row113 : TR := ⟨.pointer 158, 1, 8, .pointer none, false, none⟩
theorem row113_ok : RowOk Try.prog 113 row113 := ⟨by kernel_rfl, by kernel_rfl, by kernel_rfl, fun h => (by cases h)⟩
def row114 : TR := ⟨.func #[9] #[113] false, 1, 8, .nilFunc, false, none⟩
theorem row114_ok : RowOk Try.prog 114 row114 := ⟨by kernel_rfl, by kernel_rfl, by kernel_rfl, fun h => (by cases h)⟩
def row115 : TR := ⟨.func #[] #[29] false, 1, 8, .nilFunc, false, none⟩
theorem row115_ok : RowOk Try.prog 115 row115 := ⟨by kernel_rfl, by kernel_rfl, by kernel_rfl, fun h => (by cases h)⟩
def row116 : TR := ⟨.func #[] #[33] false, 1, 8, .nilFunc, false, none⟩
theorem row116_ok : RowOk Try.prog 116 row116 := ⟨by kernel_rfl, by kernel_rfl, by kernel_rfl, fun h => (by cases h)⟩
def row118 : TR := ⟨.func #[9, 3] #[3, 3, 33] false, 1, 8, .nilFunc, false, none⟩
theorem row118_ok : RowOk Try.prog 118 row118 := ⟨by kernel_rfl, by kernel_rfl, by kernel_rfl, fun h => (by cases h)⟩
def row120 : TR := ⟨.func #[9] #[29, 3, 33] false, 1, 8, .nilFunc, false, none⟩
theorem row120_ok : RowOk Try.prog 120 row120 := ⟨by kernel_rfl, by kernel_rfl, by kernel_rfl, fun h => (by cases h)⟩
def row121 : TR := ⟨.pointer 124, 1, 8, .pointer none, false, none⟩
theorem row121_ok : RowOk Try.prog 121 row121 := ⟨by kernel_rfl, by kernel_rfl, by kernel_rfl, fun h => (by cases h)⟩
def row122 : TR := ⟨.slice 5, 1, 24, .slice none 0 0, false, none⟩
theorem row122_ok : RowOk Try.prog 122 row122 := ⟨by kernel_rfl, by kernel_rfl, by kernel_rfl, fun h => (by cases h)⟩
def row123 : TR := ⟨.struct #[⟨ "addr", 121, 0, false, "", "strings", 0⟩, ⟨ "buf", 122, 1, false, "", "strings", 8⟩], 2, 32, .agg #[.pointer none, .slice none 0 0], false, none⟩
theorem row123_ok : RowOk Try.prog 123 row123 := ⟨by kernel_rfl, by kernel_rfl, by kernel_rfl, fun h => (by cases h)⟩
def row124 : TR := ⟨.struct #[⟨ "addr", 121, 0, false, "", "strings", 0⟩, ⟨ "buf", 122, 1, false, "", "strings", 8⟩], 2, 32, .agg #[.pointer none, .slice none 0 0], false, some 5⟩
theorem row124_ok : RowOk Try.prog 124 row124 := ⟨by kernel_rfl, by kernel_rfl, by kernel_rfl, fun h => (by cases h)⟩
def row125 : TR := ⟨.func #[72] #[9, 33] false, 1, 8, .nilFunc, false, none⟩
theorem row125_ok : RowOk Try.prog 125 row125 := ⟨by kernel_rfl, by kernel_rfl, by kernel_rfl, fun h => (by cases h)⟩
def row126 : TR := ⟨.interface #[("Error", 130)], 1, 16, .nilIface, false, none⟩
theorem row126_ok : RowOk Try.prog 126 row126 := ⟨by kernel_rfl, by kernel_rfl, by kernel_rfl, fun h => (by cases h)⟩
def row127 : TR := ⟨.interface #[("Error", 130)], 1, 16, .nilIface, false, none⟩
theorem row127_ok : RowOk Try.prog 127 row127 := ⟨by kernel_rfl, by kernel_rfl, by kernel_rfl, fun h => (by cases h)⟩
def row129 : TR := ⟨.func #[9] #[3, 127] false, 1, 8, .nilFunc, false, none⟩
theorem row129_ok : RowOk Try.prog 129 row129 := ⟨by kernel_rfl, by kernel_rfl, by kernel_rfl, fun h => (by cases h)⟩
def row130 : TR := ⟨.func #[] #[9] false, 1, 8, .nilFunc, false, none⟩
theorem row130_ok : RowOk Try.prog 130 row130 := ⟨by kernel_rfl, by kernel_rfl, by kernel_rfl, fun h => (by cases h)⟩
def row132 : TR := ⟨.func #[3] #[4, 4, 4] false, 1, 8, .nilFunc, false, none⟩
theorem row132_ok : RowOk Try.prog 132 row132 := ⟨by kernel_rfl, by kernel_rfl, by kernel_rfl, fun h => (by cases h)⟩
def row133 : TR := ⟨.func #[3] #[9] false, 1, 8, .nilFunc, false, none⟩
theorem row133_ok : RowOk Try.prog 133 row133 := ⟨by kernel_rfl, by kernel_rfl, by kernel_rfl, fun h => (by cases h)⟩
def row134 : TR := ⟨.func #[9] #[9] false, 1, 8, .nilFunc, false, none⟩
theorem row134_ok : RowOk Try.prog 134 row134 := ⟨by kernel_rfl, by kernel_rfl, by kernel_rfl, fun h => (by cases h)⟩
def row135 : TR := ⟨.func #[164] #[] false, 1, 8, .nilFunc, false, none⟩
theorem row135_ok : RowOk Try.prog 135 row135 := ⟨by kernel_rfl, by kernel_rfl, by kernel_rfl, fun h => (by cases h)⟩
def row136 : TR := ⟨.func #[164] #[] false, 1, 8, .nilFunc, false, none⟩
theorem row136_ok : RowOk Try.prog 136 row136 := ⟨by kernel_rfl, by kernel_rfl, by kernel_rfl, fun h => (by cases h)⟩
def row137 : TR := ⟨.func #[138] #[136] false, 1, 8, .nilFunc, false, none⟩
theorem row137_ok : RowOk Try.prog 137 row137 := ⟨by kernel_rfl, by kernel_rfl, by kernel_rfl, fun h => (by cases h)⟩
def row138 : TR := ⟨.pointer 76, 1, 8, .pointer none, false, none⟩
theorem row138_ok : RowOk Try.prog 138 row138 := ⟨by kernel_rfl, by kernel_rfl, by kernel_rfl, fun h => (by cases h)⟩
def row139 : TR := ⟨.pointer 3, 1, 8, .pointer none, false, none⟩
theorem row139_ok : RowOk Try.prog 139 row139 := ⟨by kernel_rfl, by kernel_rfl, by kernel_rfl, fun h => (by cases h)⟩
def row140 : TR := ⟨.struct #[⟨ "at", 139, 0, false, "", "concourse/conf", 0⟩, ⟨ "least", 3, 1, false, "", "concourse/conf", 8⟩, ⟨ "most", 3, 2, false, "", "concourse/conf", 16⟩], 3, 24, .agg #[.pointer none, .int .i64 0, .int .i64 0], false, none⟩
theorem row140_ok : RowOk Try.prog 140 row140 := ⟨by kernel_rfl, by kernel_rfl, by kernel_rfl, fun h => (by cases h)⟩
def row141 : TR := ⟨.struct #[⟨ "at", 139, 0, false, "", "concourse/conf", 0⟩, ⟨ "least", 3, 1, false, "", "concourse/conf", 8⟩, ⟨ "most", 3, 2, false, "", "concourse/conf", 16⟩], 3, 24, .agg #[.pointer none, .int .i64 0, .int .i64 0], false, none⟩
theorem row141_ok : RowOk Try.prog 141 row141 := ⟨by kernel_rfl, by kernel_rfl, by kernel_rfl, fun h => (by cases h)⟩
def row142 : TR := ⟨.func #[] #[76] false, 1, 8, .nilFunc, false, none⟩
theorem row142_ok : RowOk Try.prog 142 row142 := ⟨by kernel_rfl, by kernel_rfl, by kernel_rfl, fun h => (by cases h)⟩
def row143 : TR := ⟨.pointer 145, 1, 8, .pointer none, false, none⟩
theorem row143_ok : RowOk Try.prog 143 row143 := ⟨by kernel_rfl, by kernel_rfl, by kernel_rfl, fun h => (by cases h)⟩
def row144 : TR := ⟨.struct #[⟨ "s", 9, 0, false, "", "concourse/lex", 0⟩, ⟨ "at", 3, 1, false, "", "concourse/lex", 16⟩, ⟨ "out", 84, 2, false, "", "concourse/lex", 24⟩], 3, 48, .agg #[.string ⟨#[]⟩, .int .i64 0, .slice none 0 0], false, none⟩
theorem row144_ok : RowOk Try.prog 144 row144 := ⟨by kernel_rfl, by kernel_rfl, by kernel_rfl, fun h => (by cases h)⟩
def row145 : TR := ⟨.struct #[⟨ "s", 9, 0, false, "", "concourse/lex", 0⟩, ⟨ "at", 3, 1, false, "", "concourse/lex", 16⟩, ⟨ "out", 84, 2, false, "", "concourse/lex", 24⟩], 3, 48, .agg #[.string ⟨#[]⟩, .int .i64 0, .slice none 0 0], false, none⟩
theorem row145_ok : RowOk Try.prog 145 row145 := ⟨by kernel_rfl, by kernel_rfl, by kernel_rfl, fun h => (by cases h)⟩
def row146 : TR := ⟨.func #[3, 9, 3, 3] #[] false, 1, 8, .nilFunc, false, none⟩
theorem row146_ok : RowOk Try.prog 146 row146 := ⟨by kernel_rfl, by kernel_rfl, by kernel_rfl, fun h => (by cases h)⟩
def row148 : TR := ⟨.func #[9, 3] #[92, 3, 33] false, 1, 8, .nilFunc, false, none⟩
theorem row148_ok : RowOk Try.prog 148 row148 := ⟨by kernel_rfl, by kernel_rfl, by kernel_rfl, fun h => (by cases h)⟩
def row150 : TR := ⟨.func #[9] #[72, 9, 33] false, 1, 8, .nilFunc, false, none⟩
theorem row150_ok : RowOk Try.prog 150 row150 := ⟨by kernel_rfl, by kernel_rfl, by kernel_rfl, fun h => (by cases h)⟩
def row151 : TR := ⟨.struct #[⟨ "Num", 29, 0, false, "", "", 0⟩, ⟨ "Text", 9, 1, false, "", "", 8⟩, ⟨ "At", 3, 2, false, "", "", 24⟩, ⟨ "E", 33, 3, false, "", "", 32⟩], 4, 40, .agg #[.int .u64 0, .string ⟨#[]⟩, .int .i64 0, .int .i64 0], true, none⟩
theorem row151_ok : RowOk Try.prog 151 row151 := ⟨by kernel_rfl, by kernel_rfl, by kernel_rfl, fun _ => ⟨by kernel_rfl, by kernel_rfl⟩⟩
def row152 : TR := ⟨.struct #[⟨ "Num", 29, 0, false, "", "", 0⟩, ⟨ "Text", 9, 1, false, "", "", 8⟩, ⟨ "At", 3, 2, false, "", "", 24⟩, ⟨ "E", 33, 3, false, "", "", 32⟩], 4, 40, .agg #[.int .u64 0, .string ⟨#[]⟩, .int .i64 0, .int .i64 0], true, none⟩
theorem row152_ok : RowOk Try.prog 152 row152 := ⟨by kernel_rfl, by kernel_rfl, by kernel_rfl, fun _ => ⟨by kernel_rfl, by kernel_rfl⟩⟩
def row154 : TR := ⟨.func #[9, 152] #[72, 152] false, 1, 8, .nilFunc, false, none⟩
theorem row154_ok : RowOk Try.prog 154 row154 := ⟨by kernel_rfl, by kernel_rfl, by kernel_rfl, fun h => (by cases h)⟩
def row155 : TR := ⟨.slice 9, 1, 24, .slice none 0 0, false, none⟩
theorem row155_ok : RowOk Try.prog 155 row155 := ⟨by kernel_rfl, by kernel_rfl, by kernel_rfl, fun h => (by cases h)⟩
def row156 : TR := ⟨.func #[155, 9] #[9] false, 1, 8, .nilFunc, false, none⟩
theorem row156_ok : RowOk Try.prog 156 row156 := ⟨by kernel_rfl, by kernel_rfl, by kernel_rfl, fun h => (by cases h)⟩
def row157 : TR := ⟨.struct #[⟨ "b", 9, 0, false, "", "concourse/span", 0⟩, ⟨ "at", 3, 1, false, "", "concourse/span", 16⟩, ⟨ "e", 33, 2, false, "", "concourse/span", 24⟩], 3, 32, .agg #[.string ⟨#[]⟩, .int .i64 0, .int .i64 0], true, none⟩
theorem row157_ok : RowOk Try.prog 157 row157 := ⟨by kernel_rfl, by kernel_rfl, by kernel_rfl, fun _ => ⟨by kernel_rfl, by kernel_rfl⟩⟩
def row158 : TR := ⟨.struct #[⟨ "b", 9, 0, false, "", "concourse/span", 0⟩, ⟨ "at", 3, 1, false, "", "concourse/span", 16⟩, ⟨ "e", 33, 2, false, "", "concourse/span", 24⟩], 3, 32, .agg #[.string ⟨#[]⟩, .int .i64 0, .int .i64 0], true, none⟩
theorem row158_ok : RowOk Try.prog 158 row158 := ⟨by kernel_rfl, by kernel_rfl, by kernel_rfl, fun _ => ⟨by kernel_rfl, by kernel_rfl⟩⟩
def row159 : TR := ⟨.func #[113, 160] #[3] false, 1, 8, .nilFunc, false, none⟩
theorem row159_ok : RowOk Try.prog 159 row159 := ⟨by kernel_rfl, by kernel_rfl, by kernel_rfl, fun h => (by cases h)⟩
def row160 : TR := ⟨.func #[9] #[3, 3, 33] false, 1, 8, .nilFunc, false, none⟩
theorem row160_ok : RowOk Try.prog 160 row160 := ⟨by kernel_rfl, by kernel_rfl, by kernel_rfl, fun h => (by cases h)⟩
def row161 : TR := ⟨.func #[113, 120] #[29] false, 1, 8, .nilFunc, false, none⟩
theorem row161_ok : RowOk Try.prog 161 row161 := ⟨by kernel_rfl, by kernel_rfl, by kernel_rfl, fun h => (by cases h)⟩
def row162 : TR := ⟨.pointer 5, 1, 8, .pointer none, false, none⟩
theorem row162_ok : RowOk Try.prog 162 row162 := ⟨by kernel_rfl, by kernel_rfl, by kernel_rfl, fun h => (by cases h)⟩
def row163 : TR := ⟨.array 9 141, 27, 216, .agg #[.pointer none, .int .i64 0, .int .i64 0, .pointer none, .int .i64 0, .int .i64 0, .pointer none, .int .i64 0, .int .i64 0, .pointer none, .int .i64 0, .int .i64 0, .pointer none, .int .i64 0, .int .i64 0, .pointer none, .int .i64 0, .int .i64 0, .pointer none, .int .i64 0, .int .i64 0, .pointer none, .int .i64 0, .int .i64 0, .pointer none, .int .i64 0, .int .i64 0], false, none⟩
theorem row163_ok : RowOk Try.prog 163 row163 := ⟨by kernel_rfl, by kernel_rfl, by kernel_rfl, fun h => (by cases h)⟩
def row164 : TR := ⟨.func #[3, 141] #[4] false, 1, 8, .nilFunc, false, none⟩
theorem row164_ok : RowOk Try.prog 164 row164 := ⟨by kernel_rfl, by kernel_rfl, by kernel_rfl, fun h => (by cases h)⟩
def row165 : TR := ⟨.func #[5] #[4] false, 1, 8, .nilFunc, false, none⟩
theorem row165_ok : RowOk Try.prog 165 row165 := ⟨by kernel_rfl, by kernel_rfl, by kernel_rfl, fun h => (by cases h)⟩
def row166 : TR := ⟨.func #[9, 5] #[3] false, 1, 8, .nilFunc, false, none⟩
theorem row166_ok : RowOk Try.prog 166 row166 := ⟨by kernel_rfl, by kernel_rfl, by kernel_rfl, fun h => (by cases h)⟩
def row167 : TR := ⟨.func #[5] #[3] false, 1, 8, .nilFunc, false, none⟩
theorem row167_ok : RowOk Try.prog 167 row167 := ⟨by kernel_rfl, by kernel_rfl, by kernel_rfl, fun h => (by cases h)⟩
def row168 : TR := ⟨.func #[9, 3, 3, 3, 3] #[3] false, 1, 8, .nilFunc, false, none⟩
theorem row168_ok : RowOk Try.prog 168 row168 := ⟨by kernel_rfl, by kernel_rfl, by kernel_rfl, fun h => (by cases h)⟩
def row169 : TR := ⟨.func #[9] #[3, 33] false, 1, 8, .nilFunc, false, none⟩
theorem row169_ok : RowOk Try.prog 169 row169 := ⟨by kernel_rfl, by kernel_rfl, by kernel_rfl, fun h => (by cases h)⟩
def row171 : TR := ⟨.func #[9, 29, 33] #[29, 9, 33] false, 1, 8, .nilFunc, false, none⟩
theorem row171_ok : RowOk Try.prog 171 row171 := ⟨by kernel_rfl, by kernel_rfl, by kernel_rfl, fun h => (by cases h)⟩
def row173 : TR := ⟨.func #[9, 3] #[9, 3, 33] false, 1, 8, .nilFunc, false, none⟩
theorem row173_ok : RowOk Try.prog 173 row173 := ⟨by kernel_rfl, by kernel_rfl, by kernel_rfl, fun h => (by cases h)⟩
def row174 : TR := ⟨.func #[9, 152, 176] #[152] false, 1, 8, .nilFunc, false, none⟩
theorem row174_ok : RowOk Try.prog 174 row174 := ⟨by kernel_rfl, by kernel_rfl, by kernel_rfl, fun h => (by cases h)⟩
def row175 : TR := ⟨.struct #[⟨ "Kind", 3, 0, false, "", "", 0⟩, ⟨ "Most", 3, 1, false, "", "", 8⟩], 2, 16, .agg #[.int .i64 0, .int .i64 0], true, none⟩
theorem row175_ok : RowOk Try.prog 175 row175 := ⟨by kernel_rfl, by kernel_rfl, by kernel_rfl, fun _ => ⟨by kernel_rfl, by kernel_rfl⟩⟩
def row176 : TR := ⟨.struct #[⟨ "Kind", 3, 0, false, "", "", 0⟩, ⟨ "Most", 3, 1, false, "", "", 8⟩], 2, 16, .agg #[.int .i64 0, .int .i64 0], true, none⟩
theorem row176_ok : RowOk Try.prog 176 row176 := ⟨by kernel_rfl, by kernel_rfl, by kernel_rfl, fun _ => ⟨by kernel_rfl, by kernel_rfl⟩⟩
def row177 : TR := ⟨.func #[3] #[] false, 1, 8, .nilFunc, false, none⟩
theorem row177_ok : RowOk Try.prog 177 row177 := ⟨by kernel_rfl, by kernel_rfl, by kernel_rfl, fun h => (by cases h)⟩
def row179 : TR := ⟨.func #[178] #[178] false, 1, 8, .nilFunc, false, none⟩
theorem row179_ok : RowOk Try.prog 179 row179 := ⟨by kernel_rfl, by kernel_rfl, by kernel_rfl, fun h => (by cases h)⟩
def row180 : TR := ⟨.func #[165] #[9] false, 1, 8, .nilFunc, false, none⟩
theorem row180_ok : RowOk Try.prog 180 row180 := ⟨by kernel_rfl, by kernel_rfl, by kernel_rfl, fun h => (by cases h)⟩
def row181 : TR := ⟨.func #[9, 9] #[4] false, 1, 8, .nilFunc, false, none⟩
theorem row181_ok : RowOk Try.prog 181 row181 := ⟨by kernel_rfl, by kernel_rfl, by kernel_rfl, fun h => (by cases h)⟩
def row182 : TR := ⟨.func #[3] #[122] false, 1, 8, .nilFunc, false, none⟩
theorem row182_ok : RowOk Try.prog 182 row182 := ⟨by kernel_rfl, by kernel_rfl, by kernel_rfl, fun h => (by cases h)⟩
def row185 : TR := ⟨.array 0 16, 0, 0, .agg #[], false, none⟩
theorem row185_ok : RowOk Try.prog 185 row185 := ⟨by kernel_rfl, by kernel_rfl, by kernel_rfl, fun h => (by cases h)⟩
def row188 : TR := ⟨.int .u32, 1, 4, .int .u32 0, false, none⟩
theorem row188_ok : RowOk Try.prog 188 row188 := ⟨by kernel_rfl, by kernel_rfl, by kernel_rfl, fun h => (by cases h)⟩
def row191 : TR := ⟨.func #[178, 178] #[4] false, 1, 8, .nilFunc, false, none⟩
theorem row191_ok : RowOk Try.prog 191 row191 := ⟨by kernel_rfl, by kernel_rfl, by kernel_rfl, fun h => (by cases h)⟩
def tyTab : List (TypeId × TR) := [(1, row1), (2, row2), (3, row3), (4, row4), (5, row5), (9, row9), (12, row12), (20, row20), (21, row21), (22, row22), (23, row23), (24, row24), (25, row25), (26, row26), (27, row27), (28, row28), (29, row29), (30, row30), (31, row31), (32, row32), (33, row33), (35, row35), (37, row37), (38, row38), (39, row39), (40, row40), (41, row41), (43, row43), (44, row44), (45, row45), (46, row46), (47, row47), (48, row48), (49, row49), (50, row50), (51, row51), (52, row52), (53, row53), (54, row54), (55, row55), (56, row56), (57, row57), (58, row58), (59, row59), (61, row61), (62, row62), (63, row63), (65, row65), (67, row67), (68, row68), (69, row69), (70, row70), (71, row71), (72, row72), (73, row73), (74, row74), (75, row75), (76, row76), (77, row77), (79, row79), (80, row80), (81, row81), (82, row82), (83, row83), (84, row84), (85, row85), (86, row86), (88, row88), (89, row89), (90, row90), (91, row91), (92, row92), (93, row93), (95, row95), (96, row96), (97, row97), (98, row98), (99, row99), (101, row101), (102, row102), (103, row103), (104, row104), (105, row105), (106, row106), (107, row107), (108, row108), (109, row109), (110, row110), (111, row111), (112, row112), (113, row113), (114, row114), (115, row115), (116, row116), (118, row118), (120, row120), (121, row121), (122, row122), (123, row123), (124, row124), (125, row125), (126, row126), (127, row127), (129, row129), (130, row130), (132, row132), (133, row133), (134, row134), (135, row135), (136, row136), (137, row137), (138, row138), (139, row139), (140, row140), (141, row141), (142, row142), (143, row143), (144, row144), (145, row145), (146, row146), (148, row148), (150, row150), (151, row151), (152, row152), (154, row154), (155, row155), (156, row156), (157, row157), (158, row158), (159, row159), (160, row160), (161, row161), (162, row162), (163, row163), (164, row164), (165, row165), (166, row166), (167, row167), (168, row168), (169, row169), (171, row171), (173, row173), (174, row174), (175, row175), (176, row176), (177, row177), (179, row179), (180, row180), (181, row181), (182, row182), (185, row185), (188, row188), (191, row191)]
theorem tyTab_ok : AllOk Try.prog tyTab := ⟨row1_ok, row2_ok, row3_ok, row4_ok, row5_ok, row9_ok, row12_ok, row20_ok, row21_ok, row22_ok, row23_ok, row24_ok, row25_ok, row26_ok, row27_ok, row28_ok, row29_ok, row30_ok, row31_ok, row32_ok, row33_ok, row35_ok, row37_ok, row38_ok, row39_ok, row40_ok, row41_ok, row43_ok, row44_ok, row45_ok, row46_ok, row47_ok, row48_ok, row49_ok, row50_ok, row51_ok, row52_ok, row53_ok, row54_ok, row55_ok, row56_ok, row57_ok, row58_ok, row59_ok, row61_ok, row62_ok, row63_ok, row65_ok, row67_ok, row68_ok, row69_ok, row70_ok, row71_ok, row72_ok, row73_ok, row74_ok, row75_ok, row76_ok, row77_ok, row79_ok, row80_ok, row81_ok, row82_ok, row83_ok, row84_ok, row85_ok, row86_ok, row88_ok, row89_ok, row90_ok, row91_ok, row92_ok, row93_ok, row95_ok, row96_ok, row97_ok, row98_ok, row99_ok, row101_ok, row102_ok, row103_ok, row104_ok, row105_ok, row106_ok, row107_ok, row108_ok, row109_ok, row110_ok, row111_ok, row112_ok, row113_ok, row114_ok, row115_ok, row116_ok, row118_ok, row120_ok, row121_ok, row122_ok, row123_ok, row124_ok, row125_ok, row126_ok, row127_ok, row129_ok, row130_ok, row132_ok, row133_ok, row134_ok, row135_ok, row136_ok, row137_ok, row138_ok, row139_ok, row140_ok, row141_ok, row142_ok, row143_ok, row144_ok, row145_ok, row146_ok, row148_ok, row150_ok, row151_ok, row152_ok, row154_ok, row155_ok, row156_ok, row157_ok, row158_ok, row159_ok, row160_ok, row161_ok, row162_ok, row163_ok, row164_ok, row165_ok, row166_ok, row167_ok, row168_ok, row169_ok, row171_ok, row173_ok, row174_ok, row175_ok, row176_ok, row177_ok, row179_ok, row180_ok, row181_ok, row182_ok, row185_ok, row188_ok, row191_ok, trivial⟩
def TT : TypeId → TR := lookT tyTab
theorem tt_ok : TOk Try.prog TT := lookT_ok tyTab tyTab_ok
end Go.Proofs.Ytmmmaekaoanceaa
