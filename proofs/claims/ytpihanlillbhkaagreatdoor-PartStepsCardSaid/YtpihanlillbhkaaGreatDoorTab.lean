/- The program's types, a row each, and that the rows are the program's. -/
import Derived.Test.YtpihanlillbhkaaGreatDoorProg
import Derived.Test.YtpihanlillbhkaaGreatDoorGb
set_option maxRecDepth 100000
namespace Go.Proofs.YtpihanlillbhkaaGreatDoor
open Go Go.RowKit Go.Proofs

structure RowOk (P : Program) (t : TypeId) (r : TR) : Prop where
  und : P.underlying t = some r.desc
  info : (P.info? t).map (fun i => (i.size, i.bytes, i.zero)) = some (r.cells, r.bytes, some r.zero)
  size : r.zero.cells.size = r.cells
  eq : r.eqok = true → P.stoodInHeld t = false ∧ P.eqGuardType P.depth t = false
def AllOk (P : Program) : List (TypeId × TR) → Prop
  | [] => True
  | (t, r) :: l => RowOk P t r ∧ AllOk P l
def rowNone : TR := ⟨.invalid, 0, 0, .tuple #[], false, none, none⟩
def lookT : List (TypeId × TR) → TypeId → TR
  | [], _ => rowNone
  | (k, r) :: l, t => match Nat.beq k t with
    | true => r
    | false => lookT l t
theorem lookT_ok {P : Program} : ∀ (l : List (TypeId × TR)), AllOk P l → TOk P (lookT l)
  | [], _ => fun t h => absurd rfl h
  | (k, r) :: l, ⟨h1, h2⟩ => fun t h => by
    unfold lookT at h ⊢
    cases hb : Nat.beq k t with
    | true =>
      have e := Nat.eq_of_beq_eq_true hb
      subst e
      obtain ⟨i, hi, he⟩ := Option.map_eq_some_iff.1 h1.info
      simp only [Prod.mk.injEq] at he
      exact ⟨h1.und, i, hi, he.1, he.2.1, he.2.2, h1.size, h1.eq⟩
    | false =>
      rw [hb] at h
      exact lookT_ok l h2 t h
def row1 : TR := ⟨.func #[] #[] false, 1, 8, .nilFunc, false, none, none⟩
theorem row1_ok : RowOk Tryz.prog 1 row1 := ⟨by kernel_rfl, by kernel_rfl, by kernel_rfl, fun h => (by cases h)⟩
def row2 : TR := ⟨.int .i64, 1, 8, .int .i64 0, false, none, none⟩
theorem row2_ok : RowOk Tryz.prog 2 row2 := ⟨by kernel_rfl, by kernel_rfl, by kernel_rfl, fun h => (by cases h)⟩
def row3 : TR := ⟨.int .i64, 1, 8, .int .i64 0, false, none, none⟩
theorem row3_ok : RowOk Tryz.prog 3 row3 := ⟨by kernel_rfl, by kernel_rfl, by kernel_rfl, fun h => (by cases h)⟩
def row4 : TR := ⟨.bool, 1, 1, .bool false, false, none, none⟩
theorem row4_ok : RowOk Tryz.prog 4 row4 := ⟨by kernel_rfl, by kernel_rfl, by kernel_rfl, fun h => (by cases h)⟩
def row5 : TR := ⟨.int .u8, 1, 1, .int .u8 0, false, none, none⟩
theorem row5_ok : RowOk Tryz.prog 5 row5 := ⟨by kernel_rfl, by kernel_rfl, by kernel_rfl, fun h => (by cases h)⟩
def row9 : TR := ⟨.string, 1, 16, .string ⟨#[]⟩, false, none, none⟩
theorem row9_ok : RowOk Tryz.prog 9 row9 := ⟨by kernel_rfl, by kernel_rfl, by kernel_rfl, fun h => (by cases h)⟩
def row12 : TR := ⟨.int .u64, 1, 8, .int .u64 0, false, none, none⟩
theorem row12_ok : RowOk Tryz.prog 12 row12 := ⟨by kernel_rfl, by kernel_rfl, by kernel_rfl, fun h => (by cases h)⟩
def row20 : TR := ⟨.interface #[], 1, 16, .nilIface, false, none, none⟩
theorem row20_ok : RowOk Tryz.prog 20 row20 := ⟨by kernel_rfl, by kernel_rfl, by kernel_rfl, fun h => (by cases h)⟩
def row21 : TR := ⟨.int .i32, 1, 4, .int .i32 0, false, none, none⟩
theorem row21_ok : RowOk Tryz.prog 21 row21 := ⟨by kernel_rfl, by kernel_rfl, by kernel_rfl, fun h => (by cases h)⟩
def row22 : TR := ⟨.slice 37, 1, 24, .slice none 0 0, false, none, none⟩
theorem row22_ok : RowOk Tryz.prog 22 row22 := ⟨by kernel_rfl, by kernel_rfl, by kernel_rfl, fun h => (by cases h)⟩
def row23 : TR := ⟨.func #[22] #[4] false, 1, 8, .nilFunc, false, none, none⟩
theorem row23_ok : RowOk Tryz.prog 23 row23 := ⟨by kernel_rfl, by kernel_rfl, by kernel_rfl, fun h => (by cases h)⟩
def row24 : TR := ⟨.func #[] #[4] false, 1, 8, .nilFunc, false, none, none⟩
theorem row24_ok : RowOk Tryz.prog 24 row24 := ⟨by kernel_rfl, by kernel_rfl, by kernel_rfl, fun h => (by cases h)⟩
def row25 : TR := ⟨.pointer 65, 1, 8, .pointer none, false, none, none⟩
theorem row25_ok : RowOk Tryz.prog 25 row25 := ⟨by kernel_rfl, by kernel_rfl, by kernel_rfl, fun h => (by cases h)⟩
def row26 : TR := ⟨.func #[] #[25] false, 1, 8, .nilFunc, false, none, none⟩
theorem row26_ok : RowOk Tryz.prog 26 row26 := ⟨by kernel_rfl, by kernel_rfl, by kernel_rfl, fun h => (by cases h)⟩
def row27 : TR := ⟨.slice 92, 1, 24, .slice none 0 0, false, none, none⟩
theorem row27_ok : RowOk Tryz.prog 27 row27 := ⟨by kernel_rfl, by kernel_rfl, by kernel_rfl, fun h => (by cases h)⟩
def row28 : TR := ⟨.slice 113, 1, 24, .slice none 0 0, false, none, none⟩
theorem row28_ok : RowOk Tryz.prog 28 row28 := ⟨by kernel_rfl, by kernel_rfl, by kernel_rfl, fun h => (by cases h)⟩
def row29 : TR := ⟨.slice 115, 1, 24, .slice none 0 0, false, none, none⟩
theorem row29_ok : RowOk Tryz.prog 29 row29 := ⟨by kernel_rfl, by kernel_rfl, by kernel_rfl, fun h => (by cases h)⟩
def row30 : TR := ⟨.slice 99, 1, 24, .slice none 0 0, false, none, none⟩
theorem row30_ok : RowOk Tryz.prog 30 row30 := ⟨by kernel_rfl, by kernel_rfl, by kernel_rfl, fun h => (by cases h)⟩
def row31 : TR := ⟨.struct #[⟨ "Kv", 27, 0, false, "", "", 0⟩, ⟨ "Count", 28, 1, false, "", "", 24⟩, ⟨ "Queue", 29, 2, false, "", "", 48⟩, ⟨ "Leases", 30, 3, false, "", "", 72⟩], 4, 96, .agg #[.slice none 0 0, .slice none 0 0, .slice none 0 0, .slice none 0 0], false, none, none⟩
theorem row31_ok : RowOk Tryz.prog 31 row31 := ⟨by kernel_rfl, by kernel_rfl, by kernel_rfl, fun h => (by cases h)⟩
def row32 : TR := ⟨.struct #[⟨ "Kv", 27, 0, false, "", "", 0⟩, ⟨ "Count", 28, 1, false, "", "", 24⟩, ⟨ "Queue", 29, 2, false, "", "", 48⟩, ⟨ "Leases", 30, 3, false, "", "", 72⟩], 4, 96, .agg #[.slice none 0 0, .slice none 0 0, .slice none 0 0, .slice none 0 0], false, none, none⟩
theorem row32_ok : RowOk Tryz.prog 32 row32 := ⟨by kernel_rfl, by kernel_rfl, by kernel_rfl, fun h => (by cases h)⟩
def row33 : TR := ⟨.int .u64, 1, 8, .int .u64 0, false, none, none⟩
theorem row33_ok : RowOk Tryz.prog 33 row33 := ⟨by kernel_rfl, by kernel_rfl, by kernel_rfl, fun h => (by cases h)⟩
def row34 : TR := ⟨.struct #[⟨ "Name", 9, 0, false, "", "", 0⟩, ⟨ "Text", 9, 1, false, "", "", 16⟩, ⟨ "Num", 2, 2, false, "", "", 32⟩, ⟨ "Ticks", 33, 3, false, "", "", 40⟩], 4, 48, .agg #[.string ⟨#[]⟩, .string ⟨#[]⟩, .int .i64 0, .int .u64 0], true, none, none⟩
theorem row34_ok : RowOk Tryz.prog 34 row34 := ⟨by kernel_rfl, by kernel_rfl, by kernel_rfl, fun _ => ⟨by kernel_rfl, by kernel_rfl⟩⟩
def row35 : TR := ⟨.struct #[⟨ "Name", 9, 0, false, "", "", 0⟩, ⟨ "Text", 9, 1, false, "", "", 16⟩, ⟨ "Num", 2, 2, false, "", "", 32⟩, ⟨ "Ticks", 33, 3, false, "", "", 40⟩], 4, 48, .agg #[.string ⟨#[]⟩, .string ⟨#[]⟩, .int .i64 0, .int .u64 0], true, none, none⟩
theorem row35_ok : RowOk Tryz.prog 35 row35 := ⟨by kernel_rfl, by kernel_rfl, by kernel_rfl, fun _ => ⟨by kernel_rfl, by kernel_rfl⟩⟩
def row36 : TR := ⟨.struct #[⟨ "Op", 3, 0, false, "", "", 0⟩, ⟨ "A", 35, 1, false, "", "", 8⟩, ⟨ "Now", 3, 5, false, "", "", 56⟩, ⟨ "Limit", 3, 6, false, "", "", 64⟩], 7, 72, .agg #[.int .i64 0, .string ⟨#[]⟩, .string ⟨#[]⟩, .int .i64 0, .int .u64 0, .int .i64 0, .int .i64 0], true, none, none⟩
theorem row36_ok : RowOk Tryz.prog 36 row36 := ⟨by kernel_rfl, by kernel_rfl, by kernel_rfl, fun _ => ⟨by kernel_rfl, by kernel_rfl⟩⟩
def row37 : TR := ⟨.struct #[⟨ "Op", 3, 0, false, "", "", 0⟩, ⟨ "A", 35, 1, false, "", "", 8⟩, ⟨ "Now", 3, 5, false, "", "", 56⟩, ⟨ "Limit", 3, 6, false, "", "", 64⟩], 7, 72, .agg #[.int .i64 0, .string ⟨#[]⟩, .string ⟨#[]⟩, .int .i64 0, .int .u64 0, .int .i64 0, .int .i64 0], true, none, none⟩
theorem row37_ok : RowOk Tryz.prog 37 row37 := ⟨by kernel_rfl, by kernel_rfl, by kernel_rfl, fun _ => ⟨by kernel_rfl, by kernel_rfl⟩⟩
def row38 : TR := ⟨.struct #[⟨ "Text", 9, 0, false, "", "", 0⟩, ⟨ "Has", 4, 1, false, "", "", 16⟩, ⟨ "Num", 2, 2, false, "", "", 24⟩], 3, 32, .agg #[.string ⟨#[]⟩, .bool false, .int .i64 0], true, none, none⟩
theorem row38_ok : RowOk Tryz.prog 38 row38 := ⟨by kernel_rfl, by kernel_rfl, by kernel_rfl, fun _ => ⟨by kernel_rfl, by kernel_rfl⟩⟩
def row39 : TR := ⟨.struct #[⟨ "Text", 9, 0, false, "", "", 0⟩, ⟨ "Has", 4, 1, false, "", "", 16⟩, ⟨ "Num", 2, 2, false, "", "", 24⟩], 3, 32, .agg #[.string ⟨#[]⟩, .bool false, .int .i64 0], true, none, none⟩
theorem row39_ok : RowOk Tryz.prog 39 row39 := ⟨by kernel_rfl, by kernel_rfl, by kernel_rfl, fun _ => ⟨by kernel_rfl, by kernel_rfl⟩⟩
def row40 : TR := ⟨.int .i64, 1, 8, .int .i64 0, false, none, none⟩
theorem row40_ok : RowOk Tryz.prog 40 row40 := ⟨by kernel_rfl, by kernel_rfl, by kernel_rfl, fun h => (by cases h)⟩
def row42 : TR := ⟨.func #[3, 43, 3, 3] #[39, 40] false, 1, 8, .nilFunc, false, none, none⟩
theorem row42_ok : RowOk Tryz.prog 42 row42 := ⟨by kernel_rfl, by kernel_rfl, by kernel_rfl, fun h => (by cases h)⟩
def row43 : TR := ⟨.struct #[⟨ "Name", 9, 0, false, "", "", 0⟩, ⟨ "Text", 9, 1, false, "", "", 16⟩, ⟨ "Num", 2, 2, false, "", "", 32⟩, ⟨ "Ticks", 33, 3, false, "", "", 40⟩], 4, 48, .agg #[.string ⟨#[]⟩, .string ⟨#[]⟩, .int .i64 0, .int .u64 0], true, none, none⟩
theorem row43_ok : RowOk Tryz.prog 43 row43 := ⟨by kernel_rfl, by kernel_rfl, by kernel_rfl, fun _ => ⟨by kernel_rfl, by kernel_rfl⟩⟩
def row44 : TR := ⟨.func #[35] #[43] false, 1, 8, .nilFunc, false, none, none⟩
theorem row44_ok : RowOk Tryz.prog 44 row44 := ⟨by kernel_rfl, by kernel_rfl, by kernel_rfl, fun h => (by cases h)⟩
def row45 : TR := ⟨.struct #[⟨ "Text", 9, 0, false, "", "", 0⟩, ⟨ "Has", 4, 1, false, "", "", 16⟩, ⟨ "Num", 2, 2, false, "", "", 24⟩], 3, 32, .agg #[.string ⟨#[]⟩, .bool false, .int .i64 0], true, none, none⟩
theorem row45_ok : RowOk Tryz.prog 45 row45 := ⟨by kernel_rfl, by kernel_rfl, by kernel_rfl, fun _ => ⟨by kernel_rfl, by kernel_rfl⟩⟩
def row47 : TR := ⟨.func #[32, 3, 35, 3, 3] #[32, 45, 40] false, 1, 8, .nilFunc, false, none, none⟩
theorem row47_ok : RowOk Tryz.prog 47 row47 := ⟨by kernel_rfl, by kernel_rfl, by kernel_rfl, fun h => (by cases h)⟩
def row48 : TR := ⟨.func #[] #[3] false, 1, 8, .nilFunc, false, none, none⟩
theorem row48_ok : RowOk Tryz.prog 48 row48 := ⟨by kernel_rfl, by kernel_rfl, by kernel_rfl, fun h => (by cases h)⟩
def row49 : TR := ⟨.func #[32] #[3] false, 1, 8, .nilFunc, false, none, none⟩
theorem row49_ok : RowOk Tryz.prog 49 row49 := ⟨by kernel_rfl, by kernel_rfl, by kernel_rfl, fun h => (by cases h)⟩
def row50 : TR := ⟨.func #[] #[9] false, 1, 8, .nilFunc, false, none, none⟩
theorem row50_ok : RowOk Tryz.prog 50 row50 := ⟨by kernel_rfl, by kernel_rfl, by kernel_rfl, fun h => (by cases h)⟩
def row51 : TR := ⟨.func #[32] #[9] false, 1, 8, .nilFunc, false, none, none⟩
theorem row51_ok : RowOk Tryz.prog 51 row51 := ⟨by kernel_rfl, by kernel_rfl, by kernel_rfl, fun h => (by cases h)⟩
def row52 : TR := ⟨.map 9 134, 1, 8, .map none, false, none, none⟩
theorem row52_ok : RowOk Tryz.prog 52 row52 := ⟨by kernel_rfl, by kernel_rfl, by kernel_rfl, fun h => (by cases h)⟩
def row53 : TR := ⟨.struct #[⟨ "m", 52, 0, false, "", "concourse/kv", 0⟩, ⟨ "size", 3, 1, false, "", "concourse/kv", 8⟩], 2, 16, .agg #[.map none, .int .i64 0], false, none, none⟩
theorem row53_ok : RowOk Tryz.prog 53 row53 := ⟨by kernel_rfl, by kernel_rfl, by kernel_rfl, fun h => (by cases h)⟩
def row54 : TR := ⟨.struct #[⟨ "m", 52, 0, false, "", "concourse/kv", 0⟩, ⟨ "size", 3, 1, false, "", "concourse/kv", 8⟩], 2, 16, .agg #[.map none, .int .i64 0], false, none, none⟩
theorem row54_ok : RowOk Tryz.prog 54 row54 := ⟨by kernel_rfl, by kernel_rfl, by kernel_rfl, fun h => (by cases h)⟩
def row55 : TR := ⟨.map 9 2, 1, 8, .map none, false, none, none⟩
theorem row55_ok : RowOk Tryz.prog 55 row55 := ⟨by kernel_rfl, by kernel_rfl, by kernel_rfl, fun h => (by cases h)⟩
def row56 : TR := ⟨.struct #[⟨ "m", 55, 0, false, "", "concourse/counter", 0⟩, ⟨ "size", 3, 1, false, "", "concourse/counter", 8⟩], 2, 16, .agg #[.map none, .int .i64 0], false, none, none⟩
theorem row56_ok : RowOk Tryz.prog 56 row56 := ⟨by kernel_rfl, by kernel_rfl, by kernel_rfl, fun h => (by cases h)⟩
def row57 : TR := ⟨.struct #[⟨ "m", 55, 0, false, "", "concourse/counter", 0⟩, ⟨ "size", 3, 1, false, "", "concourse/counter", 8⟩], 2, 16, .agg #[.map none, .int .i64 0], false, none, none⟩
theorem row57_ok : RowOk Tryz.prog 57 row57 := ⟨by kernel_rfl, by kernel_rfl, by kernel_rfl, fun h => (by cases h)⟩
def row58 : TR := ⟨.map 9 138, 1, 8, .map none, false, none, none⟩
theorem row58_ok : RowOk Tryz.prog 58 row58 := ⟨by kernel_rfl, by kernel_rfl, by kernel_rfl, fun h => (by cases h)⟩
def row59 : TR := ⟨.struct #[⟨ "m", 58, 0, false, "", "concourse/fifo", 0⟩, ⟨ "size", 3, 1, false, "", "concourse/fifo", 8⟩], 2, 16, .agg #[.map none, .int .i64 0], false, none, none⟩
theorem row59_ok : RowOk Tryz.prog 59 row59 := ⟨by kernel_rfl, by kernel_rfl, by kernel_rfl, fun h => (by cases h)⟩
def row60 : TR := ⟨.struct #[⟨ "m", 58, 0, false, "", "concourse/fifo", 0⟩, ⟨ "size", 3, 1, false, "", "concourse/fifo", 8⟩], 2, 16, .agg #[.map none, .int .i64 0], false, none, none⟩
theorem row60_ok : RowOk Tryz.prog 60 row60 := ⟨by kernel_rfl, by kernel_rfl, by kernel_rfl, fun h => (by cases h)⟩
def row61 : TR := ⟨.map 9 107, 1, 8, .map none, false, none, none⟩
theorem row61_ok : RowOk Tryz.prog 61 row61 := ⟨by kernel_rfl, by kernel_rfl, by kernel_rfl, fun h => (by cases h)⟩
def row62 : TR := ⟨.struct #[⟨ "m", 61, 0, false, "", "concourse/lease", 0⟩, ⟨ "size", 3, 1, false, "", "concourse/lease", 8⟩], 2, 16, .agg #[.map none, .int .i64 0], false, none, none⟩
theorem row62_ok : RowOk Tryz.prog 62 row62 := ⟨by kernel_rfl, by kernel_rfl, by kernel_rfl, fun h => (by cases h)⟩
def row63 : TR := ⟨.struct #[⟨ "m", 61, 0, false, "", "concourse/lease", 0⟩, ⟨ "size", 3, 1, false, "", "concourse/lease", 8⟩], 2, 16, .agg #[.map none, .int .i64 0], false, none, none⟩
theorem row63_ok : RowOk Tryz.prog 63 row63 := ⟨by kernel_rfl, by kernel_rfl, by kernel_rfl, fun h => (by cases h)⟩
def row64 : TR := ⟨.struct #[⟨ "store", 54, 0, false, "", "concourse/part", 0⟩, ⟨ "book", 57, 2, false, "", "concourse/part", 16⟩, ⟨ "hall", 60, 4, false, "", "concourse/part", 32⟩, ⟨ "leases", 63, 6, false, "", "concourse/part", 48⟩], 8, 64, .agg #[.map none, .int .i64 0, .map none, .int .i64 0, .map none, .int .i64 0, .map none, .int .i64 0], false, none, none⟩
theorem row64_ok : RowOk Tryz.prog 64 row64 := ⟨by kernel_rfl, by kernel_rfl, by kernel_rfl, fun h => (by cases h)⟩
def row65 : TR := ⟨.struct #[⟨ "store", 54, 0, false, "", "concourse/part", 0⟩, ⟨ "book", 57, 2, false, "", "concourse/part", 16⟩, ⟨ "hall", 60, 4, false, "", "concourse/part", 32⟩, ⟨ "leases", 63, 6, false, "", "concourse/part", 48⟩], 8, 64, .agg #[.map none, .int .i64 0, .map none, .int .i64 0, .map none, .int .i64 0, .map none, .int .i64 0], false, none, none⟩
theorem row65_ok : RowOk Tryz.prog 65 row65 := ⟨by kernel_rfl, by kernel_rfl, by kernel_rfl, fun h => (by cases h)⟩
def row66 : TR := ⟨.func #[] #[39] false, 1, 8, .nilFunc, false, none, none⟩
theorem row66_ok : RowOk Tryz.prog 66 row66 := ⟨by kernel_rfl, by kernel_rfl, by kernel_rfl, fun h => (by cases h)⟩
def row67 : TR := ⟨.struct #[⟨ "grows", 48, 0, false, "", "concourse/part", 0⟩, ⟨ "do", 66, 1, false, "", "concourse/part", 8⟩], 2, 16, .agg #[.nilFunc, .nilFunc], false, none, none⟩
theorem row67_ok : RowOk Tryz.prog 67 row67 := ⟨by kernel_rfl, by kernel_rfl, by kernel_rfl, fun h => (by cases h)⟩
def row68 : TR := ⟨.struct #[⟨ "grows", 48, 0, false, "", "concourse/part", 0⟩, ⟨ "do", 66, 1, false, "", "concourse/part", 8⟩], 2, 16, .agg #[.nilFunc, .nilFunc], false, none, none⟩
theorem row68_ok : RowOk Tryz.prog 68 row68 := ⟨by kernel_rfl, by kernel_rfl, by kernel_rfl, fun h => (by cases h)⟩
def row70 : TR := ⟨.func #[3, 43, 3] #[68, 4] false, 1, 8, .nilFunc, false, none, none⟩
theorem row70_ok : RowOk Tryz.prog 70 row70 := ⟨by kernel_rfl, by kernel_rfl, by kernel_rfl, fun h => (by cases h)⟩
def row71 : TR := ⟨.func #[3] #[] false, 1, 8, .nilFunc, false, none, none⟩
theorem row71_ok : RowOk Tryz.prog 71 row71 := ⟨by kernel_rfl, by kernel_rfl, by kernel_rfl, fun h => (by cases h)⟩
def row72 : TR := ⟨.func #[30, 3] #[30] false, 1, 8, .nilFunc, false, none, none⟩
theorem row72_ok : RowOk Tryz.prog 72 row72 := ⟨by kernel_rfl, by kernel_rfl, by kernel_rfl, fun h => (by cases h)⟩
def row74 : TR := ⟨.func #[32, 3, 35, 3] #[32, 45] false, 1, 8, .nilFunc, false, none, none⟩
theorem row74_ok : RowOk Tryz.prog 74 row74 := ⟨by kernel_rfl, by kernel_rfl, by kernel_rfl, fun h => (by cases h)⟩
def row75 : TR := ⟨.func #[27] #[3] false, 1, 8, .nilFunc, false, none, none⟩
theorem row75_ok : RowOk Tryz.prog 75 row75 := ⟨by kernel_rfl, by kernel_rfl, by kernel_rfl, fun h => (by cases h)⟩
def row76 : TR := ⟨.func #[28] #[3] false, 1, 8, .nilFunc, false, none, none⟩
theorem row76_ok : RowOk Tryz.prog 76 row76 := ⟨by kernel_rfl, by kernel_rfl, by kernel_rfl, fun h => (by cases h)⟩
def row77 : TR := ⟨.func #[29] #[3] false, 1, 8, .nilFunc, false, none, none⟩
theorem row77_ok : RowOk Tryz.prog 77 row77 := ⟨by kernel_rfl, by kernel_rfl, by kernel_rfl, fun h => (by cases h)⟩
def row78 : TR := ⟨.func #[30] #[3] false, 1, 8, .nilFunc, false, none, none⟩
theorem row78_ok : RowOk Tryz.prog 78 row78 := ⟨by kernel_rfl, by kernel_rfl, by kernel_rfl, fun h => (by cases h)⟩
def row79 : TR := ⟨.func #[80, 9, 84] #[9] false, 1, 8, .nilFunc, false, none, none⟩
theorem row79_ok : RowOk Tryz.prog 79 row79 := ⟨by kernel_rfl, by kernel_rfl, by kernel_rfl, fun h => (by cases h)⟩
def row80 : TR := ⟨.slice 9, 1, 24, .slice none 0 0, false, none, none⟩
theorem row80_ok : RowOk Tryz.prog 80 row80 := ⟨by kernel_rfl, by kernel_rfl, by kernel_rfl, fun h => (by cases h)⟩
def row81 : TR := ⟨.func #[] #[80] false, 1, 8, .nilFunc, false, none, none⟩
theorem row81_ok : RowOk Tryz.prog 81 row81 := ⟨by kernel_rfl, by kernel_rfl, by kernel_rfl, fun h => (by cases h)⟩
def row83 : TR := ⟨.func #[9] #[9, 4] false, 1, 8, .nilFunc, false, none, none⟩
theorem row83_ok : RowOk Tryz.prog 83 row83 := ⟨by kernel_rfl, by kernel_rfl, by kernel_rfl, fun h => (by cases h)⟩
def row84 : TR := ⟨.func #[9] #[9] false, 1, 8, .nilFunc, false, none, none⟩
theorem row84_ok : RowOk Tryz.prog 84 row84 := ⟨by kernel_rfl, by kernel_rfl, by kernel_rfl, fun h => (by cases h)⟩
def row85 : TR := ⟨.func #[2, 3] #[9] false, 1, 8, .nilFunc, false, none, none⟩
theorem row85_ok : RowOk Tryz.prog 85 row85 := ⟨by kernel_rfl, by kernel_rfl, by kernel_rfl, fun h => (by cases h)⟩
def row86 : TR := ⟨.func #[9] #[2] false, 1, 8, .nilFunc, false, none, none⟩
theorem row86_ok : RowOk Tryz.prog 86 row86 := ⟨by kernel_rfl, by kernel_rfl, by kernel_rfl, fun h => (by cases h)⟩
def row87 : TR := ⟨.func #[3] #[9] false, 1, 8, .nilFunc, false, none, none⟩
theorem row87_ok : RowOk Tryz.prog 87 row87 := ⟨by kernel_rfl, by kernel_rfl, by kernel_rfl, fun h => (by cases h)⟩
def row88 : TR := ⟨.func #[9] #[3] false, 1, 8, .nilFunc, false, none, none⟩
theorem row88_ok : RowOk Tryz.prog 88 row88 := ⟨by kernel_rfl, by kernel_rfl, by kernel_rfl, fun h => (by cases h)⟩
def row90 : TR := ⟨.func #[9] #[9, 3, 4] false, 1, 8, .nilFunc, false, none, none⟩
theorem row90_ok : RowOk Tryz.prog 90 row90 := ⟨by kernel_rfl, by kernel_rfl, by kernel_rfl, fun h => (by cases h)⟩
def row91 : TR := ⟨.struct #[⟨ "K", 9, 0, false, "", "", 0⟩, ⟨ "V", 9, 1, false, "", "", 16⟩], 2, 32, .agg #[.string ⟨#[]⟩, .string ⟨#[]⟩], true, none, none⟩
theorem row91_ok : RowOk Tryz.prog 91 row91 := ⟨by kernel_rfl, by kernel_rfl, by kernel_rfl, fun _ => ⟨by kernel_rfl, by kernel_rfl⟩⟩
def row92 : TR := ⟨.struct #[⟨ "K", 9, 0, false, "", "", 0⟩, ⟨ "V", 9, 1, false, "", "", 16⟩], 2, 32, .agg #[.string ⟨#[]⟩, .string ⟨#[]⟩], true, none, none⟩
theorem row92_ok : RowOk Tryz.prog 92 row92 := ⟨by kernel_rfl, by kernel_rfl, by kernel_rfl, fun _ => ⟨by kernel_rfl, by kernel_rfl⟩⟩
def row93 : TR := ⟨.func #[28] #[80] false, 1, 8, .nilFunc, false, none, none⟩
theorem row93_ok : RowOk Tryz.prog 93 row93 := ⟨by kernel_rfl, by kernel_rfl, by kernel_rfl, fun h => (by cases h)⟩
def row94 : TR := ⟨.func #[2] #[9] false, 1, 8, .nilFunc, false, none, none⟩
theorem row94_ok : RowOk Tryz.prog 94 row94 := ⟨by kernel_rfl, by kernel_rfl, by kernel_rfl, fun h => (by cases h)⟩
def row95 : TR := ⟨.func #[28, 9] #[2] false, 1, 8, .nilFunc, false, none, none⟩
theorem row95_ok : RowOk Tryz.prog 95 row95 := ⟨by kernel_rfl, by kernel_rfl, by kernel_rfl, fun h => (by cases h)⟩
def row96 : TR := ⟨.func #[29] #[80] false, 1, 8, .nilFunc, false, none, none⟩
theorem row96_ok : RowOk Tryz.prog 96 row96 := ⟨by kernel_rfl, by kernel_rfl, by kernel_rfl, fun h => (by cases h)⟩
def row97 : TR := ⟨.func #[29, 9] #[3] false, 1, 8, .nilFunc, false, none, none⟩
theorem row97_ok : RowOk Tryz.prog 97 row97 := ⟨by kernel_rfl, by kernel_rfl, by kernel_rfl, fun h => (by cases h)⟩
def row98 : TR := ⟨.struct #[⟨ "Name", 9, 0, false, "", "", 0⟩, ⟨ "Holder", 9, 1, false, "", "", 16⟩, ⟨ "Till", 3, 2, false, "", "", 32⟩], 3, 40, .agg #[.string ⟨#[]⟩, .string ⟨#[]⟩, .int .i64 0], true, none, none⟩
theorem row98_ok : RowOk Tryz.prog 98 row98 := ⟨by kernel_rfl, by kernel_rfl, by kernel_rfl, fun _ => ⟨by kernel_rfl, by kernel_rfl⟩⟩
def row99 : TR := ⟨.struct #[⟨ "Name", 9, 0, false, "", "", 0⟩, ⟨ "Holder", 9, 1, false, "", "", 16⟩, ⟨ "Till", 3, 2, false, "", "", 32⟩], 3, 40, .agg #[.string ⟨#[]⟩, .string ⟨#[]⟩, .int .i64 0], true, none, none⟩
theorem row99_ok : RowOk Tryz.prog 99 row99 := ⟨by kernel_rfl, by kernel_rfl, by kernel_rfl, fun _ => ⟨by kernel_rfl, by kernel_rfl⟩⟩
def row100 : TR := ⟨.func #[9, 2] #[2] false, 1, 8, .nilFunc, false, none, none⟩
theorem row100_ok : RowOk Tryz.prog 100 row100 := ⟨by kernel_rfl, by kernel_rfl, by kernel_rfl, fun h => (by cases h)⟩
def row101 : TR := ⟨.func #[9, 9] #[3] false, 1, 8, .nilFunc, false, none, none⟩
theorem row101_ok : RowOk Tryz.prog 101 row101 := ⟨by kernel_rfl, by kernel_rfl, by kernel_rfl, fun h => (by cases h)⟩
def row102 : TR := ⟨.func #[9, 9, 3, 3] #[4] false, 1, 8, .nilFunc, false, none, none⟩
theorem row102_ok : RowOk Tryz.prog 102 row102 := ⟨by kernel_rfl, by kernel_rfl, by kernel_rfl, fun h => (by cases h)⟩
def row103 : TR := ⟨.func #[9, 9] #[4] false, 1, 8, .nilFunc, false, none, none⟩
theorem row103_ok : RowOk Tryz.prog 103 row103 := ⟨by kernel_rfl, by kernel_rfl, by kernel_rfl, fun h => (by cases h)⟩
def row104 : TR := ⟨.func #[3, 43] #[68, 4] false, 1, 8, .nilFunc, false, none, none⟩
theorem row104_ok : RowOk Tryz.prog 104 row104 := ⟨by kernel_rfl, by kernel_rfl, by kernel_rfl, fun h => (by cases h)⟩
def row105 : TR := ⟨.pointer 63, 1, 8, .pointer none, false, none, none⟩
theorem row105_ok : RowOk Tryz.prog 105 row105 := ⟨by kernel_rfl, by kernel_rfl, by kernel_rfl, fun h => (by cases h)⟩
def row106 : TR := ⟨.struct #[⟨ "holder", 9, 0, false, "", "concourse/lease", 0⟩, ⟨ "till", 3, 1, false, "", "concourse/lease", 16⟩], 2, 24, .agg #[.string ⟨#[]⟩, .int .i64 0], true, none, none⟩
theorem row106_ok : RowOk Tryz.prog 106 row106 := ⟨by kernel_rfl, by kernel_rfl, by kernel_rfl, fun _ => ⟨by kernel_rfl, by kernel_rfl⟩⟩
def row107 : TR := ⟨.struct #[⟨ "holder", 9, 0, false, "", "concourse/lease", 0⟩, ⟨ "till", 3, 1, false, "", "concourse/lease", 16⟩], 2, 24, .agg #[.string ⟨#[]⟩, .int .i64 0], true, none, none⟩
theorem row107_ok : RowOk Tryz.prog 107 row107 := ⟨by kernel_rfl, by kernel_rfl, by kernel_rfl, fun _ => ⟨by kernel_rfl, by kernel_rfl⟩⟩
def row108 : TR := ⟨.func #[9] #[] false, 1, 8, .nilFunc, false, none, none⟩
theorem row108_ok : RowOk Tryz.prog 108 row108 := ⟨by kernel_rfl, by kernel_rfl, by kernel_rfl, fun h => (by cases h)⟩
def row109 : TR := ⟨.func #[27, 9] #[9, 4] false, 1, 8, .nilFunc, false, none, none⟩
theorem row109_ok : RowOk Tryz.prog 109 row109 := ⟨by kernel_rfl, by kernel_rfl, by kernel_rfl, fun h => (by cases h)⟩
def row110 : TR := ⟨.func #[27, 9, 9] #[27] false, 1, 8, .nilFunc, false, none, none⟩
theorem row110_ok : RowOk Tryz.prog 110 row110 := ⟨by kernel_rfl, by kernel_rfl, by kernel_rfl, fun h => (by cases h)⟩
def row111 : TR := ⟨.func #[27, 9] #[27] false, 1, 8, .nilFunc, false, none, none⟩
theorem row111_ok : RowOk Tryz.prog 111 row111 := ⟨by kernel_rfl, by kernel_rfl, by kernel_rfl, fun h => (by cases h)⟩
def row112 : TR := ⟨.struct #[⟨ "Name", 9, 0, false, "", "", 0⟩, ⟨ "N", 2, 1, false, "", "", 16⟩], 2, 24, .agg #[.string ⟨#[]⟩, .int .i64 0], true, none, none⟩
theorem row112_ok : RowOk Tryz.prog 112 row112 := ⟨by kernel_rfl, by kernel_rfl, by kernel_rfl, fun _ => ⟨by kernel_rfl, by kernel_rfl⟩⟩
def row113 : TR := ⟨.struct #[⟨ "Name", 9, 0, false, "", "", 0⟩, ⟨ "N", 2, 1, false, "", "", 16⟩], 2, 24, .agg #[.string ⟨#[]⟩, .int .i64 0], true, none, none⟩
theorem row113_ok : RowOk Tryz.prog 113 row113 := ⟨by kernel_rfl, by kernel_rfl, by kernel_rfl, fun _ => ⟨by kernel_rfl, by kernel_rfl⟩⟩
def row114 : TR := ⟨.struct #[⟨ "Name", 9, 0, false, "", "", 0⟩, ⟨ "S", 9, 1, false, "", "", 16⟩], 2, 32, .agg #[.string ⟨#[]⟩, .string ⟨#[]⟩], true, none, none⟩
theorem row114_ok : RowOk Tryz.prog 114 row114 := ⟨by kernel_rfl, by kernel_rfl, by kernel_rfl, fun _ => ⟨by kernel_rfl, by kernel_rfl⟩⟩
def row115 : TR := ⟨.struct #[⟨ "Name", 9, 0, false, "", "", 0⟩, ⟨ "S", 9, 1, false, "", "", 16⟩], 2, 32, .agg #[.string ⟨#[]⟩, .string ⟨#[]⟩], true, none, none⟩
theorem row115_ok : RowOk Tryz.prog 115 row115 := ⟨by kernel_rfl, by kernel_rfl, by kernel_rfl, fun _ => ⟨by kernel_rfl, by kernel_rfl⟩⟩
def row117 : TR := ⟨.func #[29, 9] #[29, 9, 4] false, 1, 8, .nilFunc, false, none, none⟩
theorem row117_ok : RowOk Tryz.prog 117 row117 := ⟨by kernel_rfl, by kernel_rfl, by kernel_rfl, fun h => (by cases h)⟩
def row119 : TR := ⟨.func #[30, 9, 9, 3, 3] #[30, 4] false, 1, 8, .nilFunc, false, none, none⟩
theorem row119_ok : RowOk Tryz.prog 119 row119 := ⟨by kernel_rfl, by kernel_rfl, by kernel_rfl, fun h => (by cases h)⟩
def row120 : TR := ⟨.func #[30, 9, 9] #[30, 4] false, 1, 8, .nilFunc, false, none, none⟩
theorem row120_ok : RowOk Tryz.prog 120 row120 := ⟨by kernel_rfl, by kernel_rfl, by kernel_rfl, fun h => (by cases h)⟩
def row121 : TR := ⟨.pointer 54, 1, 8, .pointer none, false, none, none⟩
theorem row121_ok : RowOk Tryz.prog 121 row121 := ⟨by kernel_rfl, by kernel_rfl, by kernel_rfl, fun h => (by cases h)⟩
def row122 : TR := ⟨.pointer 57, 1, 8, .pointer none, false, none, none⟩
theorem row122_ok : RowOk Tryz.prog 122 row122 := ⟨by kernel_rfl, by kernel_rfl, by kernel_rfl, fun h => (by cases h)⟩
def row123 : TR := ⟨.pointer 60, 1, 8, .pointer none, false, none, none⟩
theorem row123_ok : RowOk Tryz.prog 123 row123 := ⟨by kernel_rfl, by kernel_rfl, by kernel_rfl, fun h => (by cases h)⟩
def row124 : TR := ⟨.pointer 127, 1, 8, .pointer none, false, none, none⟩
theorem row124_ok : RowOk Tryz.prog 124 row124 := ⟨by kernel_rfl, by kernel_rfl, by kernel_rfl, fun h => (by cases h)⟩
def row125 : TR := ⟨.slice 5, 1, 24, .slice none 0 0, false, none, none⟩
theorem row125_ok : RowOk Tryz.prog 125 row125 := ⟨by kernel_rfl, by kernel_rfl, by kernel_rfl, fun h => (by cases h)⟩
def row126 : TR := ⟨.struct #[⟨ "addr", 124, 0, false, "", "strings", 0⟩, ⟨ "buf", 125, 1, false, "", "strings", 8⟩], 2, 32, .agg #[.pointer none, .slice none 0 0], false, none, none⟩
theorem row126_ok : RowOk Tryz.prog 126 row126 := ⟨by kernel_rfl, by kernel_rfl, by kernel_rfl, fun h => (by cases h)⟩
def row127 : TR := ⟨.struct #[⟨ "addr", 124, 0, false, "", "strings", 0⟩, ⟨ "buf", 125, 1, false, "", "strings", 8⟩], 2, 32, .agg #[.pointer none, .slice none 0 0], false, some 5, none⟩
theorem row127_ok : RowOk Tryz.prog 127 row127 := ⟨by kernel_rfl, by kernel_rfl, by kernel_rfl, fun h => (by cases h)⟩
def row128 : TR := ⟨.interface #[("Error", 50)], 1, 16, .nilIface, false, none, none⟩
theorem row128_ok : RowOk Tryz.prog 128 row128 := ⟨by kernel_rfl, by kernel_rfl, by kernel_rfl, fun h => (by cases h)⟩
def row129 : TR := ⟨.interface #[("Error", 50)], 1, 16, .nilIface, false, none, none⟩
theorem row129_ok : RowOk Tryz.prog 129 row129 := ⟨by kernel_rfl, by kernel_rfl, by kernel_rfl, fun h => (by cases h)⟩
def row131 : TR := ⟨.func #[9] #[3, 129] false, 1, 8, .nilFunc, false, none, none⟩
theorem row131_ok : RowOk Tryz.prog 131 row131 := ⟨by kernel_rfl, by kernel_rfl, by kernel_rfl, fun h => (by cases h)⟩
def row132 : TR := ⟨.func #[80] #[] false, 1, 8, .nilFunc, false, none, none⟩
theorem row132_ok : RowOk Tryz.prog 132 row132 := ⟨by kernel_rfl, by kernel_rfl, by kernel_rfl, fun h => (by cases h)⟩
def row133 : TR := ⟨.struct #[⟨ "text", 9, 0, false, "", "concourse/kv", 0⟩], 1, 16, .agg #[.string ⟨#[]⟩], true, none, none⟩
theorem row133_ok : RowOk Tryz.prog 133 row133 := ⟨by kernel_rfl, by kernel_rfl, by kernel_rfl, fun _ => ⟨by kernel_rfl, by kernel_rfl⟩⟩
def row134 : TR := ⟨.struct #[⟨ "text", 9, 0, false, "", "concourse/kv", 0⟩], 1, 16, .agg #[.string ⟨#[]⟩], true, none, none⟩
theorem row134_ok : RowOk Tryz.prog 134 row134 := ⟨by kernel_rfl, by kernel_rfl, by kernel_rfl, fun _ => ⟨by kernel_rfl, by kernel_rfl⟩⟩
def row136 : TR := ⟨.func #[5] #[129] false, 1, 8, .nilFunc, false, none, none⟩
theorem row136_ok : RowOk Tryz.prog 136 row136 := ⟨by kernel_rfl, by kernel_rfl, by kernel_rfl, fun h => (by cases h)⟩
def row137 : TR := ⟨.int .u64, 1, 8, .int .u64 0, false, none, none⟩
theorem row137_ok : RowOk Tryz.prog 137 row137 := ⟨by kernel_rfl, by kernel_rfl, by kernel_rfl, fun h => (by cases h)⟩
def row138 : TR := ⟨.pointer 142, 1, 8, .pointer none, false, none, none⟩
theorem row138_ok : RowOk Tryz.prog 138 row138 := ⟨by kernel_rfl, by kernel_rfl, by kernel_rfl, fun h => (by cases h)⟩
def row139 : TR := ⟨.func #[9] #[138] false, 1, 8, .nilFunc, false, none, none⟩
theorem row139_ok : RowOk Tryz.prog 139 row139 := ⟨by kernel_rfl, by kernel_rfl, by kernel_rfl, fun h => (by cases h)⟩
def row140 : TR := ⟨.pointer 181, 1, 8, .pointer none, false, none, none⟩
theorem row140_ok : RowOk Tryz.prog 140 row140 := ⟨by kernel_rfl, by kernel_rfl, by kernel_rfl, fun h => (by cases h)⟩
def row141 : TR := ⟨.struct #[⟨ "first", 140, 0, false, "", "concourse/fifo", 0⟩, ⟨ "last", 140, 1, false, "", "concourse/fifo", 8⟩, ⟨ "n", 3, 2, false, "", "concourse/fifo", 16⟩], 3, 24, .agg #[.pointer none, .pointer none, .int .i64 0], false, none, none⟩
theorem row141_ok : RowOk Tryz.prog 141 row141 := ⟨by kernel_rfl, by kernel_rfl, by kernel_rfl, fun h => (by cases h)⟩
def row142 : TR := ⟨.struct #[⟨ "first", 140, 0, false, "", "concourse/fifo", 0⟩, ⟨ "last", 140, 1, false, "", "concourse/fifo", 8⟩, ⟨ "n", 3, 2, false, "", "concourse/fifo", 16⟩], 3, 24, .agg #[.pointer none, .pointer none, .int .i64 0], false, none, none⟩
theorem row142_ok : RowOk Tryz.prog 142 row142 := ⟨by kernel_rfl, by kernel_rfl, by kernel_rfl, fun h => (by cases h)⟩
def row143 : TR := ⟨.func #[145] #[80] false, 1, 8, .nilFunc, false, none, none⟩
theorem row143_ok : RowOk Tryz.prog 143 row143 := ⟨by kernel_rfl, by kernel_rfl, by kernel_rfl, fun h => (by cases h)⟩
def row144 : TR := ⟨.func #[151] #[] false, 1, 8, .nilFunc, false, none, none⟩
theorem row144_ok : RowOk Tryz.prog 144 row144 := ⟨by kernel_rfl, by kernel_rfl, by kernel_rfl, fun h => (by cases h)⟩
def row145 : TR := ⟨.func #[151] #[] false, 1, 8, .nilFunc, false, none, none⟩
theorem row145_ok : RowOk Tryz.prog 145 row145 := ⟨by kernel_rfl, by kernel_rfl, by kernel_rfl, fun h => (by cases h)⟩
def row146 : TR := ⟨.func #[61] #[145] false, 1, 8, .nilFunc, false, none, none⟩
theorem row146_ok : RowOk Tryz.prog 146 row146 := ⟨by kernel_rfl, by kernel_rfl, by kernel_rfl, fun h => (by cases h)⟩
def row148 : TR := ⟨.func #[33] #[9] false, 1, 8, .nilFunc, false, none, none⟩
theorem row148_ok : RowOk Tryz.prog 148 row148 := ⟨by kernel_rfl, by kernel_rfl, by kernel_rfl, fun h => (by cases h)⟩
def row150 : TR := ⟨.func #[9, 9] #[] false, 1, 8, .nilFunc, false, none, none⟩
theorem row150_ok : RowOk Tryz.prog 150 row150 := ⟨by kernel_rfl, by kernel_rfl, by kernel_rfl, fun h => (by cases h)⟩
def row151 : TR := ⟨.func #[9] #[4] false, 1, 8, .nilFunc, false, none, none⟩
theorem row151_ok : RowOk Tryz.prog 151 row151 := ⟨by kernel_rfl, by kernel_rfl, by kernel_rfl, fun h => (by cases h)⟩
def row152 : TR := ⟨.func #[30, 9] #[3] false, 1, 8, .nilFunc, false, none, none⟩
theorem row152_ok : RowOk Tryz.prog 152 row152 := ⟨by kernel_rfl, by kernel_rfl, by kernel_rfl, fun h => (by cases h)⟩
def row153 : TR := ⟨.func #[30, 99] #[30] false, 1, 8, .nilFunc, false, none, none⟩
theorem row153_ok : RowOk Tryz.prog 153 row153 := ⟨by kernel_rfl, by kernel_rfl, by kernel_rfl, fun h => (by cases h)⟩
def row154 : TR := ⟨.pointer 5, 1, 8, .pointer none, false, none, none⟩
theorem row154_ok : RowOk Tryz.prog 154 row154 := ⟨by kernel_rfl, by kernel_rfl, by kernel_rfl, fun h => (by cases h)⟩
def row155 : TR := ⟨.func #[80, 3, 3, 3] #[] false, 1, 8, .nilFunc, false, none, none⟩
theorem row155_ok : RowOk Tryz.prog 155 row155 := ⟨by kernel_rfl, by kernel_rfl, by kernel_rfl, fun h => (by cases h)⟩
def row156 : TR := ⟨.func #[137] #[3] false, 1, 8, .nilFunc, false, none, none⟩
theorem row156_ok : RowOk Tryz.prog 156 row156 := ⟨by kernel_rfl, by kernel_rfl, by kernel_rfl, fun h => (by cases h)⟩
def row157 : TR := ⟨.array 24 5, 24, 24, .agg #[.int .u8 0, .int .u8 0, .int .u8 0, .int .u8 0, .int .u8 0, .int .u8 0, .int .u8 0, .int .u8 0, .int .u8 0, .int .u8 0, .int .u8 0, .int .u8 0, .int .u8 0, .int .u8 0, .int .u8 0, .int .u8 0, .int .u8 0, .int .u8 0, .int .u8 0, .int .u8 0, .int .u8 0, .int .u8 0, .int .u8 0, .int .u8 0], false, none, none⟩
theorem row157_ok : RowOk Tryz.prog 157 row157 := ⟨by kernel_rfl, by kernel_rfl, by kernel_rfl, fun h => (by cases h)⟩
def row158 : TR := ⟨.func #[33] #[3] false, 1, 8, .nilFunc, false, none, none⟩
theorem row158_ok : RowOk Tryz.prog 158 row158 := ⟨by kernel_rfl, by kernel_rfl, by kernel_rfl, fun h => (by cases h)⟩
def row159 : TR := ⟨.func #[125, 33] #[] false, 1, 8, .nilFunc, false, none, none⟩
theorem row159_ok : RowOk Tryz.prog 159 row159 := ⟨by kernel_rfl, by kernel_rfl, by kernel_rfl, fun h => (by cases h)⟩
def row161 : TR := ⟨.func #[125, 33, 3, 4, 4] #[125, 9] false, 1, 8, .nilFunc, false, none, none⟩
theorem row161_ok : RowOk Tryz.prog 161 row161 := ⟨by kernel_rfl, by kernel_rfl, by kernel_rfl, fun h => (by cases h)⟩
def row163 : TR := ⟨.func #[162] #[162] false, 1, 8, .nilFunc, false, none, none⟩
theorem row163_ok : RowOk Tryz.prog 163 row163 := ⟨by kernel_rfl, by kernel_rfl, by kernel_rfl, fun h => (by cases h)⟩
def row164 : TR := ⟨.func #[80, 3, 3] #[] false, 1, 8, .nilFunc, false, none, none⟩
theorem row164_ok : RowOk Tryz.prog 164 row164 := ⟨by kernel_rfl, by kernel_rfl, by kernel_rfl, fun h => (by cases h)⟩
def row165 : TR := ⟨.int .i64, 1, 8, .int .i64 0, false, none, none⟩
theorem row165_ok : RowOk Tryz.prog 165 row165 := ⟨by kernel_rfl, by kernel_rfl, by kernel_rfl, fun h => (by cases h)⟩
def row167 : TR := ⟨.func #[80, 3, 3] #[3, 165] false, 1, 8, .nilFunc, false, none, none⟩
theorem row167_ok : RowOk Tryz.prog 167 row167 := ⟨by kernel_rfl, by kernel_rfl, by kernel_rfl, fun h => (by cases h)⟩
def row168 : TR := ⟨.func #[80, 3, 3] #[4] false, 1, 8, .nilFunc, false, none, none⟩
theorem row168_ok : RowOk Tryz.prog 168 row168 := ⟨by kernel_rfl, by kernel_rfl, by kernel_rfl, fun h => (by cases h)⟩
def row169 : TR := ⟨.func #[80, 3, 3, 3] #[3] false, 1, 8, .nilFunc, false, none, none⟩
theorem row169_ok : RowOk Tryz.prog 169 row169 := ⟨by kernel_rfl, by kernel_rfl, by kernel_rfl, fun h => (by cases h)⟩
def row171 : TR := ⟨.func #[80, 3, 3, 3] #[3, 4] false, 1, 8, .nilFunc, false, none, none⟩
theorem row171_ok : RowOk Tryz.prog 171 row171 := ⟨by kernel_rfl, by kernel_rfl, by kernel_rfl, fun h => (by cases h)⟩
def row172 : TR := ⟨.func #[173] #[3] false, 1, 8, .nilFunc, false, none, none⟩
theorem row172_ok : RowOk Tryz.prog 172 row172 := ⟨by kernel_rfl, by kernel_rfl, by kernel_rfl, fun h => (by cases h)⟩
def row173 : TR := ⟨.int .u32, 1, 4, .int .u32 0, false, none, none⟩
theorem row173_ok : RowOk Tryz.prog 173 row173 := ⟨by kernel_rfl, by kernel_rfl, by kernel_rfl, fun h => (by cases h)⟩
def row174 : TR := ⟨.func #[3] #[3] false, 1, 8, .nilFunc, false, none, none⟩
theorem row174_ok : RowOk Tryz.prog 174 row174 := ⟨by kernel_rfl, by kernel_rfl, by kernel_rfl, fun h => (by cases h)⟩
def row175 : TR := ⟨.func #[4] #[3] false, 1, 8, .nilFunc, false, none, none⟩
theorem row175_ok : RowOk Tryz.prog 175 row175 := ⟨by kernel_rfl, by kernel_rfl, by kernel_rfl, fun h => (by cases h)⟩
def row176 : TR := ⟨.array 20 33, 20, 160, .agg #[.int .u64 0, .int .u64 0, .int .u64 0, .int .u64 0, .int .u64 0, .int .u64 0, .int .u64 0, .int .u64 0, .int .u64 0, .int .u64 0, .int .u64 0, .int .u64 0, .int .u64 0, .int .u64 0, .int .u64 0, .int .u64 0, .int .u64 0, .int .u64 0, .int .u64 0, .int .u64 0], false, none, none⟩
theorem row176_ok : RowOk Tryz.prog 176 row176 := ⟨by kernel_rfl, by kernel_rfl, by kernel_rfl, fun h => (by cases h)⟩
def row177 : TR := ⟨.array 65 5, 65, 65, .agg #[.int .u8 0, .int .u8 0, .int .u8 0, .int .u8 0, .int .u8 0, .int .u8 0, .int .u8 0, .int .u8 0, .int .u8 0, .int .u8 0, .int .u8 0, .int .u8 0, .int .u8 0, .int .u8 0, .int .u8 0, .int .u8 0, .int .u8 0, .int .u8 0, .int .u8 0, .int .u8 0, .int .u8 0, .int .u8 0, .int .u8 0, .int .u8 0, .int .u8 0, .int .u8 0, .int .u8 0, .int .u8 0, .int .u8 0, .int .u8 0, .int .u8 0, .int .u8 0, .int .u8 0, .int .u8 0, .int .u8 0, .int .u8 0, .int .u8 0, .int .u8 0, .int .u8 0, .int .u8 0, .int .u8 0, .int .u8 0, .int .u8 0, .int .u8 0, .int .u8 0, .int .u8 0, .int .u8 0, .int .u8 0, .int .u8 0, .int .u8 0, .int .u8 0, .int .u8 0, .int .u8 0, .int .u8 0, .int .u8 0, .int .u8 0, .int .u8 0, .int .u8 0, .int .u8 0, .int .u8 0, .int .u8 0, .int .u8 0, .int .u8 0, .int .u8 0, .int .u8 0], false, none, none⟩
theorem row177_ok : RowOk Tryz.prog 177 row177 := ⟨by kernel_rfl, by kernel_rfl, by kernel_rfl, fun h => (by cases h)⟩
def row178 : TR := ⟨.func #[3] #[4] false, 1, 8, .nilFunc, false, none, none⟩
theorem row178_ok : RowOk Tryz.prog 178 row178 := ⟨by kernel_rfl, by kernel_rfl, by kernel_rfl, fun h => (by cases h)⟩
def row179 : TR := ⟨.func #[80, 145] #[80] false, 1, 8, .nilFunc, false, none, none⟩
theorem row179_ok : RowOk Tryz.prog 179 row179 := ⟨by kernel_rfl, by kernel_rfl, by kernel_rfl, fun h => (by cases h)⟩
def row180 : TR := ⟨.struct #[⟨ "x", 9, 0, false, "", "concourse/fifo", 0⟩, ⟨ "next", 140, 1, false, "", "concourse/fifo", 16⟩], 2, 24, .agg #[.string ⟨#[]⟩, .pointer none], false, none, none⟩
theorem row180_ok : RowOk Tryz.prog 180 row180 := ⟨by kernel_rfl, by kernel_rfl, by kernel_rfl, fun h => (by cases h)⟩
def row181 : TR := ⟨.struct #[⟨ "x", 9, 0, false, "", "concourse/fifo", 0⟩, ⟨ "next", 140, 1, false, "", "concourse/fifo", 16⟩], 2, 24, .agg #[.string ⟨#[]⟩, .pointer none], false, none, none⟩
theorem row181_ok : RowOk Tryz.prog 181 row181 := ⟨by kernel_rfl, by kernel_rfl, by kernel_rfl, fun h => (by cases h)⟩
def row182 : TR := ⟨.int .u64, 1, 8, .int .u64 0, false, none, none⟩
theorem row182_ok : RowOk Tryz.prog 182 row182 := ⟨by kernel_rfl, by kernel_rfl, by kernel_rfl, fun h => (by cases h)⟩
def row183 : TR := ⟨.func #[3] #[137] false, 1, 8, .nilFunc, false, none, none⟩
theorem row183_ok : RowOk Tryz.prog 183 row183 := ⟨by kernel_rfl, by kernel_rfl, by kernel_rfl, fun h => (by cases h)⟩
def row184 : TR := ⟨.func #[] #[33] false, 1, 8, .nilFunc, false, none, none⟩
theorem row184_ok : RowOk Tryz.prog 184 row184 := ⟨by kernel_rfl, by kernel_rfl, by kernel_rfl, fun h => (by cases h)⟩
def row185 : TR := ⟨.func #[80, 3, 186] #[3] false, 1, 8, .nilFunc, false, none, none⟩
theorem row185_ok : RowOk Tryz.prog 185 row185 := ⟨by kernel_rfl, by kernel_rfl, by kernel_rfl, fun h => (by cases h)⟩
def row186 : TR := ⟨.pointer 3, 1, 8, .pointer none, false, none, none⟩
theorem row186_ok : RowOk Tryz.prog 186 row186 := ⟨by kernel_rfl, by kernel_rfl, by kernel_rfl, fun h => (by cases h)⟩
def row187 : TR := ⟨.func #[80, 3, 3, 3, 186] #[3] false, 1, 8, .nilFunc, false, none, none⟩
theorem row187_ok : RowOk Tryz.prog 187 row187 := ⟨by kernel_rfl, by kernel_rfl, by kernel_rfl, fun h => (by cases h)⟩
def row188 : TR := ⟨.pointer 182, 1, 8, .pointer none, false, none, none⟩
theorem row188_ok : RowOk Tryz.prog 188 row188 := ⟨by kernel_rfl, by kernel_rfl, by kernel_rfl, fun h => (by cases h)⟩
def row190 : TR := ⟨.func #[80, 3, 3, 186] #[3, 3] false, 1, 8, .nilFunc, false, none, none⟩
theorem row190_ok : RowOk Tryz.prog 190 row190 := ⟨by kernel_rfl, by kernel_rfl, by kernel_rfl, fun h => (by cases h)⟩
def row191 : TR := ⟨.array 32 5, 32, 32, .agg #[.int .u8 0, .int .u8 0, .int .u8 0, .int .u8 0, .int .u8 0, .int .u8 0, .int .u8 0, .int .u8 0, .int .u8 0, .int .u8 0, .int .u8 0, .int .u8 0, .int .u8 0, .int .u8 0, .int .u8 0, .int .u8 0, .int .u8 0, .int .u8 0, .int .u8 0, .int .u8 0, .int .u8 0, .int .u8 0, .int .u8 0, .int .u8 0, .int .u8 0, .int .u8 0, .int .u8 0, .int .u8 0, .int .u8 0, .int .u8 0, .int .u8 0, .int .u8 0], false, none, none⟩
theorem row191_ok : RowOk Tryz.prog 191 row191 := ⟨by kernel_rfl, by kernel_rfl, by kernel_rfl, fun h => (by cases h)⟩
def row192 : TR := ⟨.array 64 5, 64, 64, .agg #[.int .u8 0, .int .u8 0, .int .u8 0, .int .u8 0, .int .u8 0, .int .u8 0, .int .u8 0, .int .u8 0, .int .u8 0, .int .u8 0, .int .u8 0, .int .u8 0, .int .u8 0, .int .u8 0, .int .u8 0, .int .u8 0, .int .u8 0, .int .u8 0, .int .u8 0, .int .u8 0, .int .u8 0, .int .u8 0, .int .u8 0, .int .u8 0, .int .u8 0, .int .u8 0, .int .u8 0, .int .u8 0, .int .u8 0, .int .u8 0, .int .u8 0, .int .u8 0, .int .u8 0, .int .u8 0, .int .u8 0, .int .u8 0, .int .u8 0, .int .u8 0, .int .u8 0, .int .u8 0, .int .u8 0, .int .u8 0, .int .u8 0, .int .u8 0, .int .u8 0, .int .u8 0, .int .u8 0, .int .u8 0, .int .u8 0, .int .u8 0, .int .u8 0, .int .u8 0, .int .u8 0, .int .u8 0, .int .u8 0, .int .u8 0, .int .u8 0, .int .u8 0, .int .u8 0, .int .u8 0, .int .u8 0, .int .u8 0, .int .u8 0, .int .u8 0], false, none, none⟩
theorem row192_ok : RowOk Tryz.prog 192 row192 := ⟨by kernel_rfl, by kernel_rfl, by kernel_rfl, fun h => (by cases h)⟩
def row195 : TR := ⟨.array 0 16, 0, 0, .agg #[], false, none, none⟩
theorem row195_ok : RowOk Tryz.prog 195 row195 := ⟨by kernel_rfl, by kernel_rfl, by kernel_rfl, fun h => (by cases h)⟩
def row200 : TR := ⟨.func #[162, 162] #[4] false, 1, 8, .nilFunc, false, none, none⟩
theorem row200_ok : RowOk Tryz.prog 200 row200 := ⟨by kernel_rfl, by kernel_rfl, by kernel_rfl, fun h => (by cases h)⟩
def tyTab : List (TypeId × TR) := [(1, row1), (2, row2), (3, row3), (4, row4), (5, row5), (9, row9), (12, row12), (20, row20), (21, row21), (22, row22), (23, row23), (24, row24), (25, row25), (26, row26), (27, row27), (28, row28), (29, row29), (30, row30), (31, row31), (32, row32), (33, row33), (34, row34), (35, row35), (36, row36), (37, row37), (38, row38), (39, row39), (40, row40), (42, row42), (43, row43), (44, row44), (45, row45), (47, row47), (48, row48), (49, row49), (50, row50), (51, row51), (52, row52), (53, row53), (54, row54), (55, row55), (56, row56), (57, row57), (58, row58), (59, row59), (60, row60), (61, row61), (62, row62), (63, row63), (64, row64), (65, row65), (66, row66), (67, row67), (68, row68), (70, row70), (71, row71), (72, row72), (74, row74), (75, row75), (76, row76), (77, row77), (78, row78), (79, row79), (80, row80), (81, row81), (83, row83), (84, row84), (85, row85), (86, row86), (87, row87), (88, row88), (90, row90), (91, row91), (92, row92), (93, row93), (94, row94), (95, row95), (96, row96), (97, row97), (98, row98), (99, row99), (100, row100), (101, row101), (102, row102), (103, row103), (104, row104), (105, row105), (106, row106), (107, row107), (108, row108), (109, row109), (110, row110), (111, row111), (112, row112), (113, row113), (114, row114), (115, row115), (117, row117), (119, row119), (120, row120), (121, row121), (122, row122), (123, row123), (124, row124), (125, row125), (126, row126), (127, row127), (128, row128), (129, row129), (131, row131), (132, row132), (133, row133), (134, row134), (136, row136), (137, row137), (138, row138), (139, row139), (140, row140), (141, row141), (142, row142), (143, row143), (144, row144), (145, row145), (146, row146), (148, row148), (150, row150), (151, row151), (152, row152), (153, row153), (154, row154), (155, row155), (156, row156), (157, row157), (158, row158), (159, row159), (161, row161), (163, row163), (164, row164), (165, row165), (167, row167), (168, row168), (169, row169), (171, row171), (172, row172), (173, row173), (174, row174), (175, row175), (176, row176), (177, row177), (178, row178), (179, row179), (180, row180), (181, row181), (182, row182), (183, row183), (184, row184), (185, row185), (186, row186), (187, row187), (188, row188), (190, row190), (191, row191), (192, row192), (195, row195), (200, row200)]
theorem tyTab_ok : AllOk Tryz.prog tyTab := ⟨row1_ok, row2_ok, row3_ok, row4_ok, row5_ok, row9_ok, row12_ok, row20_ok, row21_ok, row22_ok, row23_ok, row24_ok, row25_ok, row26_ok, row27_ok, row28_ok, row29_ok, row30_ok, row31_ok, row32_ok, row33_ok, row34_ok, row35_ok, row36_ok, row37_ok, row38_ok, row39_ok, row40_ok, row42_ok, row43_ok, row44_ok, row45_ok, row47_ok, row48_ok, row49_ok, row50_ok, row51_ok, row52_ok, row53_ok, row54_ok, row55_ok, row56_ok, row57_ok, row58_ok, row59_ok, row60_ok, row61_ok, row62_ok, row63_ok, row64_ok, row65_ok, row66_ok, row67_ok, row68_ok, row70_ok, row71_ok, row72_ok, row74_ok, row75_ok, row76_ok, row77_ok, row78_ok, row79_ok, row80_ok, row81_ok, row83_ok, row84_ok, row85_ok, row86_ok, row87_ok, row88_ok, row90_ok, row91_ok, row92_ok, row93_ok, row94_ok, row95_ok, row96_ok, row97_ok, row98_ok, row99_ok, row100_ok, row101_ok, row102_ok, row103_ok, row104_ok, row105_ok, row106_ok, row107_ok, row108_ok, row109_ok, row110_ok, row111_ok, row112_ok, row113_ok, row114_ok, row115_ok, row117_ok, row119_ok, row120_ok, row121_ok, row122_ok, row123_ok, row124_ok, row125_ok, row126_ok, row127_ok, row128_ok, row129_ok, row131_ok, row132_ok, row133_ok, row134_ok, row136_ok, row137_ok, row138_ok, row139_ok, row140_ok, row141_ok, row142_ok, row143_ok, row144_ok, row145_ok, row146_ok, row148_ok, row150_ok, row151_ok, row152_ok, row153_ok, row154_ok, row155_ok, row156_ok, row157_ok, row158_ok, row159_ok, row161_ok, row163_ok, row164_ok, row165_ok, row167_ok, row168_ok, row169_ok, row171_ok, row172_ok, row173_ok, row174_ok, row175_ok, row176_ok, row177_ok, row178_ok, row179_ok, row180_ok, row181_ok, row182_ok, row183_ok, row184_ok, row185_ok, row186_ok, row187_ok, row188_ok, row190_ok, row191_ok, row192_ok, row195_ok, row200_ok, trivial⟩
def TT : TypeId → TR := lookT tyTab
theorem tt_ok : TOk Tryz.prog TT := lookT_ok tyTab tyTab_ok
end Go.Proofs.YtpihanlillbhkaaGreatDoor
