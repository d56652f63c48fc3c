/- The program's types, a row each, and that the rows are the program's. -/
import Derived.Test.YtpnlhnhjedopgaaProg
import Derived.Test.YtpnlhnhjedopgaaGb
set_option maxRecDepth 100000
namespace Go.Proofs.Ytpnlhnhjedopgaa
open Go Go.RowKit Go.Proofs

structure RowOk (P : Program) (t : TypeId) (r : TR) : Prop where
  und : P.underlying t = some r.desc
  info : (P.info? t).map (fun i => (i.size, i.bytes, i.zero)) = some (r.cells, r.bytes, some r.zero)
  size : r.zero.cells.size = r.cells
  eq : r.eqok = true → P.stoodInHeld t = false ∧ P.eqGuardType P.depth t = false
def AllOk (P : Program) : List (TypeId × TR) → Prop
  | [] => True
  | (t, r) :: l => RowOk P t r ∧ AllOk P l
def rowNone : TR := ⟨.invalid, 0, 0, .tuple #[], false, none⟩
def lookT : List (TypeId × TR) → TypeId → TR
  | [], _ => rowNone
  | (k, r) :: l, t => match Nat.beq k t with
    | true => r
    | false => lookT l t
theorem lookT_ok {P : Program} : ∀ (l : List (TypeId × TR)), AllOk P l → TOk P (lookT l)
  | [], _ => fun t h => absurd rfl h
  | (k, r) :: l, ⟨h1, h2⟩ => fun t h => by
    unfold lookT at h ⊢
    cases hb : Nat.beq k t with
    | true =>
      have e := Nat.eq_of_beq_eq_true hb
      subst e
      obtain ⟨i, hi, he⟩ := Option.map_eq_some_iff.1 h1.info
      simp only [Prod.mk.injEq] at he
      exact ⟨h1.und, i, hi, he.1, he.2.1, he.2.2, h1.size, h1.eq⟩
    | false =>
      rw [hb] at h
      exact lookT_ok l h2 t h
def row1 : TR := ⟨.func #[] #[] false, 1, 8, .nilFunc, false, none⟩
theorem row1_ok : RowOk Try.prog 1 row1 := ⟨by kernel_rfl, by kernel_rfl, by kernel_rfl, fun h => (by cases h)⟩
def row2 : TR := ⟨.int .i64, 1, 8, .int .i64 0, false, none⟩
theorem row2_ok : RowOk Try.prog 2 row2 := ⟨by kernel_rfl, by kernel_rfl, by kernel_rfl, fun h => (by cases h)⟩
def row3 : TR := ⟨.int .i64, 1, 8, .int .i64 0, false, none⟩
theorem row3_ok : RowOk Try.prog 3 row3 := ⟨by kernel_rfl, by kernel_rfl, by kernel_rfl, fun h => (by cases h)⟩
def row4 : TR := ⟨.bool, 1, 1, .bool false, false, none⟩
theorem row4_ok : RowOk Try.prog 4 row4 := ⟨by kernel_rfl, by kernel_rfl, by kernel_rfl, fun h => (by cases h)⟩
def row5 : TR := ⟨.int .u8, 1, 1, .int .u8 0, false, none⟩
theorem row5_ok : RowOk Try.prog 5 row5 := ⟨by kernel_rfl, by kernel_rfl, by kernel_rfl, fun h => (by cases h)⟩
def row9 : TR := ⟨.string, 1, 16, .string ⟨#[]⟩, false, none⟩
theorem row9_ok : RowOk Try.prog 9 row9 := ⟨by kernel_rfl, by kernel_rfl, by kernel_rfl, fun h => (by cases h)⟩
def row12 : TR := ⟨.int .u64, 1, 8, .int .u64 0, false, none⟩
theorem row12_ok : RowOk Try.prog 12 row12 := ⟨by kernel_rfl, by kernel_rfl, by kernel_rfl, fun h => (by cases h)⟩
def row20 : TR := ⟨.interface #[], 1, 16, .nilIface, false, none⟩
theorem row20_ok : RowOk Try.prog 20 row20 := ⟨by kernel_rfl, by kernel_rfl, by kernel_rfl, fun h => (by cases h)⟩
def row21 : TR := ⟨.int .i32, 1, 4, .int .i32 0, false, none⟩
theorem row21_ok : RowOk Try.prog 21 row21 := ⟨by kernel_rfl, by kernel_rfl, by kernel_rfl, fun h => (by cases h)⟩
def row22 : TR := ⟨.int .u64, 1, 8, .int .u64 0, false, none⟩
theorem row22_ok : RowOk Try.prog 22 row22 := ⟨by kernel_rfl, by kernel_rfl, by kernel_rfl, fun h => (by cases h)⟩
def row23 : TR := ⟨.struct #[⟨ "Quantum", 3, 0, false, "", "", 0⟩, ⟨ "Rate", 3, 1, false, "", "", 8⟩, ⟨ "Burst", 3, 2, false, "", "", 16⟩, ⟨ "Mem", 3, 3, false, "", "", 24⟩, ⟨ "Slots", 3, 4, false, "", "", 32⟩, ⟨ "Outs", 3, 5, false, "", "", 40⟩, ⟨ "Conns", 3, 6, false, "", "", 48⟩, ⟨ "State", 3, 7, false, "", "", 56⟩, ⟨ "Decode", 3, 8, false, "", "", 64⟩], 9, 72, .agg #[.int .i64 0, .int .i64 0, .int .i64 0, .int .i64 0, .int .i64 0, .int .i64 0, .int .i64 0, .int .i64 0, .int .i64 0], true, none⟩
theorem row23_ok : RowOk Try.prog 23 row23 := ⟨by kernel_rfl, by kernel_rfl, by kernel_rfl, fun _ => ⟨by kernel_rfl, by kernel_rfl⟩⟩
def row24 : TR := ⟨.struct #[⟨ "Quantum", 3, 0, false, "", "", 0⟩, ⟨ "Rate", 3, 1, false, "", "", 8⟩, ⟨ "Burst", 3, 2, false, "", "", 16⟩, ⟨ "Mem", 3, 3, false, "", "", 24⟩, ⟨ "Slots", 3, 4, false, "", "", 32⟩, ⟨ "Outs", 3, 5, false, "", "", 40⟩, ⟨ "Conns", 3, 6, false, "", "", 48⟩, ⟨ "State", 3, 7, false, "", "", 56⟩, ⟨ "Decode", 3, 8, false, "", "", 64⟩], 9, 72, .agg #[.int .i64 0, .int .i64 0, .int .i64 0, .int .i64 0, .int .i64 0, .int .i64 0, .int .i64 0, .int .i64 0, .int .i64 0], true, none⟩
theorem row24_ok : RowOk Try.prog 24 row24 := ⟨by kernel_rfl, by kernel_rfl, by kernel_rfl, fun _ => ⟨by kernel_rfl, by kernel_rfl⟩⟩
def row25 : TR := ⟨.struct #[⟨ "Id", 22, 0, false, "", "", 0⟩, ⟨ "Op", 3, 1, false, "", "", 8⟩, ⟨ "Owner", 3, 2, false, "", "", 16⟩, ⟨ "Conf", 24, 3, false, "", "", 24⟩], 12, 96, .agg #[.int .u64 0, .int .i64 0, .int .i64 0, .int .i64 0, .int .i64 0, .int .i64 0, .int .i64 0, .int .i64 0, .int .i64 0, .int .i64 0, .int .i64 0, .int .i64 0], true, none⟩
theorem row25_ok : RowOk Try.prog 25 row25 := ⟨by kernel_rfl, by kernel_rfl, by kernel_rfl, fun _ => ⟨by kernel_rfl, by kernel_rfl⟩⟩
def row26 : TR := ⟨.struct #[⟨ "Id", 22, 0, false, "", "", 0⟩, ⟨ "Op", 3, 1, false, "", "", 8⟩, ⟨ "Owner", 3, 2, false, "", "", 16⟩, ⟨ "Conf", 24, 3, false, "", "", 24⟩], 12, 96, .agg #[.int .u64 0, .int .i64 0, .int .i64 0, .int .i64 0, .int .i64 0, .int .i64 0, .int .i64 0, .int .i64 0, .int .i64 0, .int .i64 0, .int .i64 0, .int .i64 0], true, none⟩
theorem row26_ok : RowOk Try.prog 26 row26 := ⟨by kernel_rfl, by kernel_rfl, by kernel_rfl, fun _ => ⟨by kernel_rfl, by kernel_rfl⟩⟩
def row27 : TR := ⟨.int .i64, 1, 8, .int .i64 0, false, none⟩
theorem row27_ok : RowOk Try.prog 27 row27 := ⟨by kernel_rfl, by kernel_rfl, by kernel_rfl, fun h => (by cases h)⟩
def row29 : TR := ⟨.func #[30] #[9, 27] false, 1, 8, .nilFunc, false, none⟩
theorem row29_ok : RowOk Try.prog 29 row29 := ⟨by kernel_rfl, by kernel_rfl, by kernel_rfl, fun h => (by cases h)⟩
def row30 : TR := ⟨.struct #[⟨ "Id", 22, 0, false, "", "", 0⟩, ⟨ "Op", 3, 1, false, "", "", 8⟩, ⟨ "Owner", 3, 2, false, "", "", 16⟩, ⟨ "Conf", 24, 3, false, "", "", 24⟩], 12, 96, .agg #[.int .u64 0, .int .i64 0, .int .i64 0, .int .i64 0, .int .i64 0, .int .i64 0, .int .i64 0, .int .i64 0, .int .i64 0, .int .i64 0, .int .i64 0, .int .i64 0], true, none⟩
theorem row30_ok : RowOk Try.prog 30 row30 := ⟨by kernel_rfl, by kernel_rfl, by kernel_rfl, fun _ => ⟨by kernel_rfl, by kernel_rfl⟩⟩
def row31 : TR := ⟨.func #[26] #[30] false, 1, 8, .nilFunc, false, none⟩
theorem row31_ok : RowOk Try.prog 31 row31 := ⟨by kernel_rfl, by kernel_rfl, by kernel_rfl, fun h => (by cases h)⟩
def row32 : TR := ⟨.func #[26] #[9, 27] false, 1, 8, .nilFunc, false, none⟩
theorem row32_ok : RowOk Try.prog 32 row32 := ⟨by kernel_rfl, by kernel_rfl, by kernel_rfl, fun h => (by cases h)⟩
def row34 : TR := ⟨.func #[9] #[30, 27] false, 1, 8, .nilFunc, false, none⟩
theorem row34_ok : RowOk Try.prog 34 row34 := ⟨by kernel_rfl, by kernel_rfl, by kernel_rfl, fun h => (by cases h)⟩
def row36 : TR := ⟨.func #[9] #[26, 27] false, 1, 8, .nilFunc, false, none⟩
theorem row36_ok : RowOk Try.prog 36 row36 := ⟨by kernel_rfl, by kernel_rfl, by kernel_rfl, fun h => (by cases h)⟩
def row37 : TR := ⟨.func #[] #[4] false, 1, 8, .nilFunc, false, none⟩
theorem row37_ok : RowOk Try.prog 37 row37 := ⟨by kernel_rfl, by kernel_rfl, by kernel_rfl, fun h => (by cases h)⟩
def row38 : TR := ⟨.func #[26, 9] #[4] false, 1, 8, .nilFunc, false, none⟩
theorem row38_ok : RowOk Try.prog 38 row38 := ⟨by kernel_rfl, by kernel_rfl, by kernel_rfl, fun h => (by cases h)⟩
def row39 : TR := ⟨.slice 44, 1, 24, .slice none 0 0, false, none⟩
theorem row39_ok : RowOk Try.prog 39 row39 := ⟨by kernel_rfl, by kernel_rfl, by kernel_rfl, fun h => (by cases h)⟩
def row40 : TR := ⟨.func #[39] #[4] false, 1, 8, .nilFunc, false, none⟩
theorem row40_ok : RowOk Try.prog 40 row40 := ⟨by kernel_rfl, by kernel_rfl, by kernel_rfl, fun h => (by cases h)⟩
def row41 : TR := ⟨.pointer 58, 1, 8, .pointer none, false, none⟩
theorem row41_ok : RowOk Try.prog 41 row41 := ⟨by kernel_rfl, by kernel_rfl, by kernel_rfl, fun h => (by cases h)⟩
def row42 : TR := ⟨.func #[] #[41] false, 1, 8, .nilFunc, false, none⟩
theorem row42_ok : RowOk Try.prog 42 row42 := ⟨by kernel_rfl, by kernel_rfl, by kernel_rfl, fun h => (by cases h)⟩
def row43 : TR := ⟨.struct #[⟨ "Name", 9, 0, false, "", "", 0⟩, ⟨ "N", 2, 1, false, "", "", 16⟩], 2, 24, .agg #[.string ⟨#[]⟩, .int .i64 0], true, none⟩
theorem row43_ok : RowOk Try.prog 43 row43 := ⟨by kernel_rfl, by kernel_rfl, by kernel_rfl, fun _ => ⟨by kernel_rfl, by kernel_rfl⟩⟩
def row44 : TR := ⟨.struct #[⟨ "Name", 9, 0, false, "", "", 0⟩, ⟨ "N", 2, 1, false, "", "", 16⟩], 2, 24, .agg #[.string ⟨#[]⟩, .int .i64 0], true, none⟩
theorem row44_ok : RowOk Try.prog 44 row44 := ⟨by kernel_rfl, by kernel_rfl, by kernel_rfl, fun _ => ⟨by kernel_rfl, by kernel_rfl⟩⟩
def row45 : TR := ⟨.func #[9] #[3] false, 1, 8, .nilFunc, false, none⟩
theorem row45_ok : RowOk Try.prog 45 row45 := ⟨by kernel_rfl, by kernel_rfl, by kernel_rfl, fun h => (by cases h)⟩
def row46 : TR := ⟨.func #[39] #[3] false, 1, 8, .nilFunc, false, none⟩
theorem row46_ok : RowOk Try.prog 46 row46 := ⟨by kernel_rfl, by kernel_rfl, by kernel_rfl, fun h => (by cases h)⟩
def row47 : TR := ⟨.func #[9, 2] #[2] false, 1, 8, .nilFunc, false, none⟩
theorem row47_ok : RowOk Try.prog 47 row47 := ⟨by kernel_rfl, by kernel_rfl, by kernel_rfl, fun h => (by cases h)⟩
def row48 : TR := ⟨.func #[39, 9] #[2] false, 1, 8, .nilFunc, false, none⟩
theorem row48_ok : RowOk Try.prog 48 row48 := ⟨by kernel_rfl, by kernel_rfl, by kernel_rfl, fun h => (by cases h)⟩
def row49 : TR := ⟨.func #[9] #[2] false, 1, 8, .nilFunc, false, none⟩
theorem row49_ok : RowOk Try.prog 49 row49 := ⟨by kernel_rfl, by kernel_rfl, by kernel_rfl, fun h => (by cases h)⟩
def row50 : TR := ⟨.func #[] #[3] false, 1, 8, .nilFunc, false, none⟩
theorem row50_ok : RowOk Try.prog 50 row50 := ⟨by kernel_rfl, by kernel_rfl, by kernel_rfl, fun h => (by cases h)⟩
def row51 : TR := ⟨.func #[52, 52] #[4] false, 1, 8, .nilFunc, false, none⟩
theorem row51_ok : RowOk Try.prog 51 row51 := ⟨by kernel_rfl, by kernel_rfl, by kernel_rfl, fun h => (by cases h)⟩
def row52 : TR := ⟨.slice 9, 1, 24, .slice none 0 0, false, none⟩
theorem row52_ok : RowOk Try.prog 52 row52 := ⟨by kernel_rfl, by kernel_rfl, by kernel_rfl, fun h => (by cases h)⟩
def row53 : TR := ⟨.func #[] #[52] false, 1, 8, .nilFunc, false, none⟩
theorem row53_ok : RowOk Try.prog 53 row53 := ⟨by kernel_rfl, by kernel_rfl, by kernel_rfl, fun h => (by cases h)⟩
def row54 : TR := ⟨.func #[39] #[52] false, 1, 8, .nilFunc, false, none⟩
theorem row54_ok : RowOk Try.prog 54 row54 := ⟨by kernel_rfl, by kernel_rfl, by kernel_rfl, fun h => (by cases h)⟩
def row55 : TR := ⟨.func #[39, 9] #[4] false, 1, 8, .nilFunc, false, none⟩
theorem row55_ok : RowOk Try.prog 55 row55 := ⟨by kernel_rfl, by kernel_rfl, by kernel_rfl, fun h => (by cases h)⟩
def row56 : TR := ⟨.map 9 2, 1, 8, .map none, false, none⟩
theorem row56_ok : RowOk Try.prog 56 row56 := ⟨by kernel_rfl, by kernel_rfl, by kernel_rfl, fun h => (by cases h)⟩
def row57 : TR := ⟨.struct #[⟨ "m", 56, 0, false, "", "concourse/counter", 0⟩, ⟨ "size", 3, 1, false, "", "concourse/counter", 8⟩], 2, 16, .agg #[.map none, .int .i64 0], false, none⟩
theorem row57_ok : RowOk Try.prog 57 row57 := ⟨by kernel_rfl, by kernel_rfl, by kernel_rfl, fun h => (by cases h)⟩
def row58 : TR := ⟨.struct #[⟨ "m", 56, 0, false, "", "concourse/counter", 0⟩, ⟨ "size", 3, 1, false, "", "concourse/counter", 8⟩], 2, 16, .agg #[.map none, .int .i64 0], false, none⟩
theorem row58_ok : RowOk Try.prog 58 row58 := ⟨by kernel_rfl, by kernel_rfl, by kernel_rfl, fun h => (by cases h)⟩
def row59 : TR := ⟨.func #[9, 2] #[4] false, 1, 8, .nilFunc, false, none⟩
theorem row59_ok : RowOk Try.prog 59 row59 := ⟨by kernel_rfl, by kernel_rfl, by kernel_rfl, fun h => (by cases h)⟩
def row60 : TR := ⟨.slice 66, 1, 24, .slice none 0 0, false, none⟩
theorem row60_ok : RowOk Try.prog 60 row60 := ⟨by kernel_rfl, by kernel_rfl, by kernel_rfl, fun h => (by cases h)⟩
def row61 : TR := ⟨.func #[60] #[4] false, 1, 8, .nilFunc, false, none⟩
theorem row61_ok : RowOk Try.prog 61 row61 := ⟨by kernel_rfl, by kernel_rfl, by kernel_rfl, fun h => (by cases h)⟩
def row62 : TR := ⟨.pointer 80, 1, 8, .pointer none, false, none⟩
theorem row62_ok : RowOk Try.prog 62 row62 := ⟨by kernel_rfl, by kernel_rfl, by kernel_rfl, fun h => (by cases h)⟩
def row63 : TR := ⟨.func #[] #[62] false, 1, 8, .nilFunc, false, none⟩
theorem row63_ok : RowOk Try.prog 63 row63 := ⟨by kernel_rfl, by kernel_rfl, by kernel_rfl, fun h => (by cases h)⟩
def row64 : TR := ⟨.slice 165, 1, 24, .slice none 0 0, false, none⟩
theorem row64_ok : RowOk Try.prog 64 row64 := ⟨by kernel_rfl, by kernel_rfl, by kernel_rfl, fun h => (by cases h)⟩
def row65 : TR := ⟨.struct #[⟨ "Kind", 3, 0, false, "", "", 0⟩, ⟨ "K", 9, 1, false, "", "", 8⟩, ⟨ "V", 9, 2, false, "", "", 24⟩], 3, 40, .agg #[.int .i64 0, .string ⟨#[]⟩, .string ⟨#[]⟩], true, none⟩
theorem row65_ok : RowOk Try.prog 65 row65 := ⟨by kernel_rfl, by kernel_rfl, by kernel_rfl, fun _ => ⟨by kernel_rfl, by kernel_rfl⟩⟩
def row66 : TR := ⟨.struct #[⟨ "Kind", 3, 0, false, "", "", 0⟩, ⟨ "K", 9, 1, false, "", "", 8⟩, ⟨ "V", 9, 2, false, "", "", 24⟩], 3, 40, .agg #[.int .i64 0, .string ⟨#[]⟩, .string ⟨#[]⟩], true, none⟩
theorem row66_ok : RowOk Try.prog 66 row66 := ⟨by kernel_rfl, by kernel_rfl, by kernel_rfl, fun _ => ⟨by kernel_rfl, by kernel_rfl⟩⟩
def row68 : TR := ⟨.func #[9] #[9, 4] false, 1, 8, .nilFunc, false, none⟩
theorem row68_ok : RowOk Try.prog 68 row68 := ⟨by kernel_rfl, by kernel_rfl, by kernel_rfl, fun h => (by cases h)⟩
def row69 : TR := ⟨.func #[64, 9] #[9, 4] false, 1, 8, .nilFunc, false, none⟩
theorem row69_ok : RowOk Try.prog 69 row69 := ⟨by kernel_rfl, by kernel_rfl, by kernel_rfl, fun h => (by cases h)⟩
def row70 : TR := ⟨.func #[9, 9] #[3] false, 1, 8, .nilFunc, false, none⟩
theorem row70_ok : RowOk Try.prog 70 row70 := ⟨by kernel_rfl, by kernel_rfl, by kernel_rfl, fun h => (by cases h)⟩
def row71 : TR := ⟨.func #[64] #[3] false, 1, 8, .nilFunc, false, none⟩
theorem row71_ok : RowOk Try.prog 71 row71 := ⟨by kernel_rfl, by kernel_rfl, by kernel_rfl, fun h => (by cases h)⟩
def row72 : TR := ⟨.func #[64, 9, 9] #[64] false, 1, 8, .nilFunc, false, none⟩
theorem row72_ok : RowOk Try.prog 72 row72 := ⟨by kernel_rfl, by kernel_rfl, by kernel_rfl, fun h => (by cases h)⟩
def row73 : TR := ⟨.func #[9, 9] #[] false, 1, 8, .nilFunc, false, none⟩
theorem row73_ok : RowOk Try.prog 73 row73 := ⟨by kernel_rfl, by kernel_rfl, by kernel_rfl, fun h => (by cases h)⟩
def row74 : TR := ⟨.func #[9] #[4] false, 1, 8, .nilFunc, false, none⟩
theorem row74_ok : RowOk Try.prog 74 row74 := ⟨by kernel_rfl, by kernel_rfl, by kernel_rfl, fun h => (by cases h)⟩
def row75 : TR := ⟨.func #[64, 9] #[64] false, 1, 8, .nilFunc, false, none⟩
theorem row75_ok : RowOk Try.prog 75 row75 := ⟨by kernel_rfl, by kernel_rfl, by kernel_rfl, fun h => (by cases h)⟩
def row76 : TR := ⟨.func #[64] #[52] false, 1, 8, .nilFunc, false, none⟩
theorem row76_ok : RowOk Try.prog 76 row76 := ⟨by kernel_rfl, by kernel_rfl, by kernel_rfl, fun h => (by cases h)⟩
def row77 : TR := ⟨.array 4 9, 4, 64, .agg #[.string ⟨#[]⟩, .string ⟨#[]⟩, .string ⟨#[]⟩, .string ⟨#[]⟩], false, none⟩
theorem row77_ok : RowOk Try.prog 77 row77 := ⟨by kernel_rfl, by kernel_rfl, by kernel_rfl, fun h => (by cases h)⟩
def row78 : TR := ⟨.map 9 162, 1, 8, .map none, false, none⟩
theorem row78_ok : RowOk Try.prog 78 row78 := ⟨by kernel_rfl, by kernel_rfl, by kernel_rfl, fun h => (by cases h)⟩
def row79 : TR := ⟨.struct #[⟨ "m", 78, 0, false, "", "concourse/kv", 0⟩, ⟨ "size", 3, 1, false, "", "concourse/kv", 8⟩], 2, 16, .agg #[.map none, .int .i64 0], false, none⟩
theorem row79_ok : RowOk Try.prog 79 row79 := ⟨by kernel_rfl, by kernel_rfl, by kernel_rfl, fun h => (by cases h)⟩
def row80 : TR := ⟨.struct #[⟨ "m", 78, 0, false, "", "concourse/kv", 0⟩, ⟨ "size", 3, 1, false, "", "concourse/kv", 8⟩], 2, 16, .agg #[.map none, .int .i64 0], false, none⟩
theorem row80_ok : RowOk Try.prog 80 row80 := ⟨by kernel_rfl, by kernel_rfl, by kernel_rfl, fun h => (by cases h)⟩
def row81 : TR := ⟨.func #[77] #[4] false, 1, 8, .nilFunc, false, none⟩
theorem row81_ok : RowOk Try.prog 81 row81 := ⟨by kernel_rfl, by kernel_rfl, by kernel_rfl, fun h => (by cases h)⟩
def row82 : TR := ⟨.func #[9, 9] #[4] false, 1, 8, .nilFunc, false, none⟩
theorem row82_ok : RowOk Try.prog 82 row82 := ⟨by kernel_rfl, by kernel_rfl, by kernel_rfl, fun h => (by cases h)⟩
def row83 : TR := ⟨.pointer 95, 1, 8, .pointer none, false, none⟩
theorem row83_ok : RowOk Try.prog 83 row83 := ⟨by kernel_rfl, by kernel_rfl, by kernel_rfl, fun h => (by cases h)⟩
def row84 : TR := ⟨.func #[] #[83] false, 1, 8, .nilFunc, false, none⟩
theorem row84_ok : RowOk Try.prog 84 row84 := ⟨by kernel_rfl, by kernel_rfl, by kernel_rfl, fun h => (by cases h)⟩
def row85 : TR := ⟨.slice 87, 1, 24, .slice none 0 0, false, none⟩
theorem row85_ok : RowOk Try.prog 85 row85 := ⟨by kernel_rfl, by kernel_rfl, by kernel_rfl, fun h => (by cases h)⟩
def row86 : TR := ⟨.struct #[⟨ "Name", 9, 0, false, "", "", 0⟩, ⟨ "S", 9, 1, false, "", "", 16⟩], 2, 32, .agg #[.string ⟨#[]⟩, .string ⟨#[]⟩], true, none⟩
theorem row86_ok : RowOk Try.prog 86 row86 := ⟨by kernel_rfl, by kernel_rfl, by kernel_rfl, fun _ => ⟨by kernel_rfl, by kernel_rfl⟩⟩
def row87 : TR := ⟨.struct #[⟨ "Name", 9, 0, false, "", "", 0⟩, ⟨ "S", 9, 1, false, "", "", 16⟩], 2, 32, .agg #[.string ⟨#[]⟩, .string ⟨#[]⟩], true, none⟩
theorem row87_ok : RowOk Try.prog 87 row87 := ⟨by kernel_rfl, by kernel_rfl, by kernel_rfl, fun _ => ⟨by kernel_rfl, by kernel_rfl⟩⟩
def row88 : TR := ⟨.func #[85] #[3] false, 1, 8, .nilFunc, false, none⟩
theorem row88_ok : RowOk Try.prog 88 row88 := ⟨by kernel_rfl, by kernel_rfl, by kernel_rfl, fun h => (by cases h)⟩
def row90 : TR := ⟨.func #[85, 9] #[85, 9, 4] false, 1, 8, .nilFunc, false, none⟩
theorem row90_ok : RowOk Try.prog 90 row90 := ⟨by kernel_rfl, by kernel_rfl, by kernel_rfl, fun h => (by cases h)⟩
def row91 : TR := ⟨.func #[85, 9] #[3] false, 1, 8, .nilFunc, false, none⟩
theorem row91_ok : RowOk Try.prog 91 row91 := ⟨by kernel_rfl, by kernel_rfl, by kernel_rfl, fun h => (by cases h)⟩
def row92 : TR := ⟨.func #[85] #[52] false, 1, 8, .nilFunc, false, none⟩
theorem row92_ok : RowOk Try.prog 92 row92 := ⟨by kernel_rfl, by kernel_rfl, by kernel_rfl, fun h => (by cases h)⟩
def row93 : TR := ⟨.map 9 166, 1, 8, .map none, false, none⟩
theorem row93_ok : RowOk Try.prog 93 row93 := ⟨by kernel_rfl, by kernel_rfl, by kernel_rfl, fun h => (by cases h)⟩
def row94 : TR := ⟨.struct #[⟨ "m", 93, 0, false, "", "concourse/fifo", 0⟩, ⟨ "size", 3, 1, false, "", "concourse/fifo", 8⟩], 2, 16, .agg #[.map none, .int .i64 0], false, none⟩
theorem row94_ok : RowOk Try.prog 94 row94 := ⟨by kernel_rfl, by kernel_rfl, by kernel_rfl, fun h => (by cases h)⟩
def row95 : TR := ⟨.struct #[⟨ "m", 93, 0, false, "", "concourse/fifo", 0⟩, ⟨ "size", 3, 1, false, "", "concourse/fifo", 8⟩], 2, 16, .agg #[.map none, .int .i64 0], false, none⟩
theorem row95_ok : RowOk Try.prog 95 row95 := ⟨by kernel_rfl, by kernel_rfl, by kernel_rfl, fun h => (by cases h)⟩
def row96 : TR := ⟨.func #[9, 9, 52] #[4] false, 1, 8, .nilFunc, false, none⟩
theorem row96_ok : RowOk Try.prog 96 row96 := ⟨by kernel_rfl, by kernel_rfl, by kernel_rfl, fun h => (by cases h)⟩
def row97 : TR := ⟨.slice 103, 1, 24, .slice none 0 0, false, none⟩
theorem row97_ok : RowOk Try.prog 97 row97 := ⟨by kernel_rfl, by kernel_rfl, by kernel_rfl, fun h => (by cases h)⟩
def row98 : TR := ⟨.func #[97] #[4] false, 1, 8, .nilFunc, false, none⟩
theorem row98_ok : RowOk Try.prog 98 row98 := ⟨by kernel_rfl, by kernel_rfl, by kernel_rfl, fun h => (by cases h)⟩
def row99 : TR := ⟨.pointer 122, 1, 8, .pointer none, false, none⟩
theorem row99_ok : RowOk Try.prog 99 row99 := ⟨by kernel_rfl, by kernel_rfl, by kernel_rfl, fun h => (by cases h)⟩
def row100 : TR := ⟨.func #[] #[99] false, 1, 8, .nilFunc, false, none⟩
theorem row100_ok : RowOk Try.prog 100 row100 := ⟨by kernel_rfl, by kernel_rfl, by kernel_rfl, fun h => (by cases h)⟩
def row101 : TR := ⟨.slice 114, 1, 24, .slice none 0 0, false, none⟩
theorem row101_ok : RowOk Try.prog 101 row101 := ⟨by kernel_rfl, by kernel_rfl, by kernel_rfl, fun h => (by cases h)⟩
def row102 : TR := ⟨.struct #[⟨ "Kind", 3, 0, false, "", "", 0⟩, ⟨ "Name", 9, 1, false, "", "", 8⟩, ⟨ "Holder", 9, 2, false, "", "", 24⟩, ⟨ "Ticks", 3, 3, false, "", "", 40⟩, ⟨ "Now", 3, 4, false, "", "", 48⟩], 5, 56, .agg #[.int .i64 0, .string ⟨#[]⟩, .string ⟨#[]⟩, .int .i64 0, .int .i64 0], true, none⟩
theorem row102_ok : RowOk Try.prog 102 row102 := ⟨by kernel_rfl, by kernel_rfl, by kernel_rfl, fun _ => ⟨by kernel_rfl, by kernel_rfl⟩⟩
def row103 : TR := ⟨.struct #[⟨ "Kind", 3, 0, false, "", "", 0⟩, ⟨ "Name", 9, 1, false, "", "", 8⟩, ⟨ "Holder", 9, 2, false, "", "", 24⟩, ⟨ "Ticks", 3, 3, false, "", "", 40⟩, ⟨ "Now", 3, 4, false, "", "", 48⟩], 5, 56, .agg #[.int .i64 0, .string ⟨#[]⟩, .string ⟨#[]⟩, .int .i64 0, .int .i64 0], true, none⟩
theorem row103_ok : RowOk Try.prog 103 row103 := ⟨by kernel_rfl, by kernel_rfl, by kernel_rfl, fun _ => ⟨by kernel_rfl, by kernel_rfl⟩⟩
def row104 : TR := ⟨.func #[101, 9] #[3] false, 1, 8, .nilFunc, false, none⟩
theorem row104_ok : RowOk Try.prog 104 row104 := ⟨by kernel_rfl, by kernel_rfl, by kernel_rfl, fun h => (by cases h)⟩
def row106 : TR := ⟨.func #[101, 9, 9, 3, 3] #[101, 4] false, 1, 8, .nilFunc, false, none⟩
theorem row106_ok : RowOk Try.prog 106 row106 := ⟨by kernel_rfl, by kernel_rfl, by kernel_rfl, fun h => (by cases h)⟩
def row107 : TR := ⟨.func #[9, 9, 3, 3] #[4] false, 1, 8, .nilFunc, false, none⟩
theorem row107_ok : RowOk Try.prog 107 row107 := ⟨by kernel_rfl, by kernel_rfl, by kernel_rfl, fun h => (by cases h)⟩
def row108 : TR := ⟨.func #[101, 9, 9] #[101, 4] false, 1, 8, .nilFunc, false, none⟩
theorem row108_ok : RowOk Try.prog 108 row108 := ⟨by kernel_rfl, by kernel_rfl, by kernel_rfl, fun h => (by cases h)⟩
def row109 : TR := ⟨.func #[3] #[] false, 1, 8, .nilFunc, false, none⟩
theorem row109_ok : RowOk Try.prog 109 row109 := ⟨by kernel_rfl, by kernel_rfl, by kernel_rfl, fun h => (by cases h)⟩
def row110 : TR := ⟨.func #[101, 3] #[101] false, 1, 8, .nilFunc, false, none⟩
theorem row110_ok : RowOk Try.prog 110 row110 := ⟨by kernel_rfl, by kernel_rfl, by kernel_rfl, fun h => (by cases h)⟩
def row112 : TR := ⟨.func #[9] #[9, 3, 4] false, 1, 8, .nilFunc, false, none⟩
theorem row112_ok : RowOk Try.prog 112 row112 := ⟨by kernel_rfl, by kernel_rfl, by kernel_rfl, fun h => (by cases h)⟩
def row113 : TR := ⟨.struct #[⟨ "Name", 9, 0, false, "", "", 0⟩, ⟨ "Holder", 9, 1, false, "", "", 16⟩, ⟨ "Till", 3, 2, false, "", "", 32⟩], 3, 40, .agg #[.string ⟨#[]⟩, .string ⟨#[]⟩, .int .i64 0], true, none⟩
theorem row113_ok : RowOk Try.prog 113 row113 := ⟨by kernel_rfl, by kernel_rfl, by kernel_rfl, fun _ => ⟨by kernel_rfl, by kernel_rfl⟩⟩
def row114 : TR := ⟨.struct #[⟨ "Name", 9, 0, false, "", "", 0⟩, ⟨ "Holder", 9, 1, false, "", "", 16⟩, ⟨ "Till", 3, 2, false, "", "", 32⟩], 3, 40, .agg #[.string ⟨#[]⟩, .string ⟨#[]⟩, .int .i64 0], true, none⟩
theorem row114_ok : RowOk Try.prog 114 row114 := ⟨by kernel_rfl, by kernel_rfl, by kernel_rfl, fun _ => ⟨by kernel_rfl, by kernel_rfl⟩⟩
def row115 : TR := ⟨.func #[101] #[3] false, 1, 8, .nilFunc, false, none⟩
theorem row115_ok : RowOk Try.prog 115 row115 := ⟨by kernel_rfl, by kernel_rfl, by kernel_rfl, fun h => (by cases h)⟩
def row116 : TR := ⟨.func #[101] #[52] false, 1, 8, .nilFunc, false, none⟩
theorem row116_ok : RowOk Try.prog 116 row116 := ⟨by kernel_rfl, by kernel_rfl, by kernel_rfl, fun h => (by cases h)⟩
def row117 : TR := ⟨.array 2 9, 2, 32, .agg #[.string ⟨#[]⟩, .string ⟨#[]⟩], false, none⟩
theorem row117_ok : RowOk Try.prog 117 row117 := ⟨by kernel_rfl, by kernel_rfl, by kernel_rfl, fun h => (by cases h)⟩
def row118 : TR := ⟨.int .u16, 1, 2, .int .u16 0, false, none⟩
theorem row118_ok : RowOk Try.prog 118 row118 := ⟨by kernel_rfl, by kernel_rfl, by kernel_rfl, fun h => (by cases h)⟩
def row119 : TR := ⟨.array 2 118, 2, 4, .agg #[.int .u16 0, .int .u16 0], false, none⟩
theorem row119_ok : RowOk Try.prog 119 row119 := ⟨by kernel_rfl, by kernel_rfl, by kernel_rfl, fun h => (by cases h)⟩
def row120 : TR := ⟨.map 9 174, 1, 8, .map none, false, none⟩
theorem row120_ok : RowOk Try.prog 120 row120 := ⟨by kernel_rfl, by kernel_rfl, by kernel_rfl, fun h => (by cases h)⟩
def row121 : TR := ⟨.struct #[⟨ "m", 120, 0, false, "", "concourse/lease", 0⟩, ⟨ "size", 3, 1, false, "", "concourse/lease", 8⟩], 2, 16, .agg #[.map none, .int .i64 0], false, none⟩
theorem row121_ok : RowOk Try.prog 121 row121 := ⟨by kernel_rfl, by kernel_rfl, by kernel_rfl, fun h => (by cases h)⟩
def row122 : TR := ⟨.struct #[⟨ "m", 120, 0, false, "", "concourse/lease", 0⟩, ⟨ "size", 3, 1, false, "", "concourse/lease", 8⟩], 2, 16, .agg #[.map none, .int .i64 0], false, none⟩
theorem row122_ok : RowOk Try.prog 122 row122 := ⟨by kernel_rfl, by kernel_rfl, by kernel_rfl, fun h => (by cases h)⟩
def row123 : TR := ⟨.func #[9, 117, 119] #[4] false, 1, 8, .nilFunc, false, none⟩
theorem row123_ok : RowOk Try.prog 123 row123 := ⟨by kernel_rfl, by kernel_rfl, by kernel_rfl, fun h => (by cases h)⟩
def row124 : TR := ⟨.slice 26, 1, 24, .slice none 0 0, false, none⟩
theorem row124_ok : RowOk Try.prog 124 row124 := ⟨by kernel_rfl, by kernel_rfl, by kernel_rfl, fun h => (by cases h)⟩
def row125 : TR := ⟨.pointer 139, 1, 8, .pointer none, false, none⟩
theorem row125_ok : RowOk Try.prog 125 row125 := ⟨by kernel_rfl, by kernel_rfl, by kernel_rfl, fun h => (by cases h)⟩
def row126 : TR := ⟨.func #[] #[125] false, 1, 8, .nilFunc, false, none⟩
theorem row126_ok : RowOk Try.prog 126 row126 := ⟨by kernel_rfl, by kernel_rfl, by kernel_rfl, fun h => (by cases h)⟩
def row127 : TR := ⟨.slice 181, 1, 24, .slice none 0 0, false, none⟩
theorem row127_ok : RowOk Try.prog 127 row127 := ⟨by kernel_rfl, by kernel_rfl, by kernel_rfl, fun h => (by cases h)⟩
def row128 : TR := ⟨.struct #[⟨ "L", 127, 0, false, "", "", 0⟩], 1, 24, .agg #[.slice none 0 0], false, none⟩
theorem row128_ok : RowOk Try.prog 128 row128 := ⟨by kernel_rfl, by kernel_rfl, by kernel_rfl, fun h => (by cases h)⟩
def row129 : TR := ⟨.struct #[⟨ "L", 127, 0, false, "", "", 0⟩], 1, 24, .agg #[.slice none 0 0], false, none⟩
theorem row129_ok : RowOk Try.prog 129 row129 := ⟨by kernel_rfl, by kernel_rfl, by kernel_rfl, fun h => (by cases h)⟩
def row130 : TR := ⟨.func #[] #[129] false, 1, 8, .nilFunc, false, none⟩
theorem row130_ok : RowOk Try.prog 130 row130 := ⟨by kernel_rfl, by kernel_rfl, by kernel_rfl, fun h => (by cases h)⟩
def row131 : TR := ⟨.func #[129, 26] #[27] false, 1, 8, .nilFunc, false, none⟩
theorem row131_ok : RowOk Try.prog 131 row131 := ⟨by kernel_rfl, by kernel_rfl, by kernel_rfl, fun h => (by cases h)⟩
def row132 : TR := ⟨.func #[30] #[27] false, 1, 8, .nilFunc, false, none⟩
theorem row132_ok : RowOk Try.prog 132 row132 := ⟨by kernel_rfl, by kernel_rfl, by kernel_rfl, fun h => (by cases h)⟩
def row133 : TR := ⟨.func #[125, 129] #[4] false, 1, 8, .nilFunc, false, none⟩
theorem row133_ok : RowOk Try.prog 133 row133 := ⟨by kernel_rfl, by kernel_rfl, by kernel_rfl, fun h => (by cases h)⟩
def row135 : TR := ⟨.func #[129, 26] #[129, 27] false, 1, 8, .nilFunc, false, none⟩
theorem row135_ok : RowOk Try.prog 135 row135 := ⟨by kernel_rfl, by kernel_rfl, by kernel_rfl, fun h => (by cases h)⟩
def row136 : TR := ⟨.func #[124] #[4] false, 1, 8, .nilFunc, false, none⟩
theorem row136_ok : RowOk Try.prog 136 row136 := ⟨by kernel_rfl, by kernel_rfl, by kernel_rfl, fun h => (by cases h)⟩
def row137 : TR := ⟨.map 3 184, 1, 8, .map none, false, none⟩
theorem row137_ok : RowOk Try.prog 137 row137 := ⟨by kernel_rfl, by kernel_rfl, by kernel_rfl, fun h => (by cases h)⟩
def row138 : TR := ⟨.struct #[⟨ "tenants", 137, 0, false, "", "concourse/admin", 0⟩], 1, 8, .agg #[.map none], false, none⟩
theorem row138_ok : RowOk Try.prog 138 row138 := ⟨by kernel_rfl, by kernel_rfl, by kernel_rfl, fun h => (by cases h)⟩
def row139 : TR := ⟨.struct #[⟨ "tenants", 137, 0, false, "", "concourse/admin", 0⟩], 1, 8, .agg #[.map none], false, none⟩
theorem row139_ok : RowOk Try.prog 139 row139 := ⟨by kernel_rfl, by kernel_rfl, by kernel_rfl, fun h => (by cases h)⟩
def row140 : TR := ⟨.func #[3] #[4] false, 1, 8, .nilFunc, false, none⟩
theorem row140_ok : RowOk Try.prog 140 row140 := ⟨by kernel_rfl, by kernel_rfl, by kernel_rfl, fun h => (by cases h)⟩
def row141 : TR := ⟨.func #[3] #[24] false, 1, 8, .nilFunc, false, none⟩
theorem row141_ok : RowOk Try.prog 141 row141 := ⟨by kernel_rfl, by kernel_rfl, by kernel_rfl, fun h => (by cases h)⟩
def row142 : TR := ⟨.slice 3, 1, 24, .slice none 0 0, false, none⟩
theorem row142_ok : RowOk Try.prog 142 row142 := ⟨by kernel_rfl, by kernel_rfl, by kernel_rfl, fun h => (by cases h)⟩
def row143 : TR := ⟨.func #[] #[142] false, 1, 8, .nilFunc, false, none⟩
theorem row143_ok : RowOk Try.prog 143 row143 := ⟨by kernel_rfl, by kernel_rfl, by kernel_rfl, fun h => (by cases h)⟩
def row144 : TR := ⟨.func #[26] #[4] false, 1, 8, .nilFunc, false, none⟩
theorem row144_ok : RowOk Try.prog 144 row144 := ⟨by kernel_rfl, by kernel_rfl, by kernel_rfl, fun h => (by cases h)⟩
def row145 : TR := ⟨.func #[22] #[9] false, 1, 8, .nilFunc, false, none⟩
theorem row145_ok : RowOk Try.prog 145 row145 := ⟨by kernel_rfl, by kernel_rfl, by kernel_rfl, fun h => (by cases h)⟩
def row146 : TR := ⟨.func #[24] #[9, 27] false, 1, 8, .nilFunc, false, none⟩
theorem row146_ok : RowOk Try.prog 146 row146 := ⟨by kernel_rfl, by kernel_rfl, by kernel_rfl, fun h => (by cases h)⟩
def row147 : TR := ⟨.pointer 206, 1, 8, .pointer none, false, none⟩
theorem row147_ok : RowOk Try.prog 147 row147 := ⟨by kernel_rfl, by kernel_rfl, by kernel_rfl, fun h => (by cases h)⟩
def row148 : TR := ⟨.func #[9] #[147] false, 1, 8, .nilFunc, false, none⟩
theorem row148_ok : RowOk Try.prog 148 row148 := ⟨by kernel_rfl, by kernel_rfl, by kernel_rfl, fun h => (by cases h)⟩
def row149 : TR := ⟨.func #[] #[22] false, 1, 8, .nilFunc, false, none⟩
theorem row149_ok : RowOk Try.prog 149 row149 := ⟨by kernel_rfl, by kernel_rfl, by kernel_rfl, fun h => (by cases h)⟩
def row150 : TR := ⟨.func #[3] #[3] false, 1, 8, .nilFunc, false, none⟩
theorem row150_ok : RowOk Try.prog 150 row150 := ⟨by kernel_rfl, by kernel_rfl, by kernel_rfl, fun h => (by cases h)⟩
def row151 : TR := ⟨.func #[] #[9] false, 1, 8, .nilFunc, false, none⟩
theorem row151_ok : RowOk Try.prog 151 row151 := ⟨by kernel_rfl, by kernel_rfl, by kernel_rfl, fun h => (by cases h)⟩
def row152 : TR := ⟨.func #[] #[27] false, 1, 8, .nilFunc, false, none⟩
theorem row152_ok : RowOk Try.prog 152 row152 := ⟨by kernel_rfl, by kernel_rfl, by kernel_rfl, fun h => (by cases h)⟩
def row154 : TR := ⟨.func #[9] #[24, 27] false, 1, 8, .nilFunc, false, none⟩
theorem row154_ok : RowOk Try.prog 154 row154 := ⟨by kernel_rfl, by kernel_rfl, by kernel_rfl, fun h => (by cases h)⟩
def row156 : TR := ⟨.func #[9] #[22, 3, 27] false, 1, 8, .nilFunc, false, none⟩
theorem row156_ok : RowOk Try.prog 156 row156 := ⟨by kernel_rfl, by kernel_rfl, by kernel_rfl, fun h => (by cases h)⟩
def row158 : TR := ⟨.func #[9, 3] #[3, 3, 27] false, 1, 8, .nilFunc, false, none⟩
theorem row158_ok : RowOk Try.prog 158 row158 := ⟨by kernel_rfl, by kernel_rfl, by kernel_rfl, fun h => (by cases h)⟩
def row160 : TR := ⟨.func #[52] #[] false, 1, 8, .nilFunc, false, none⟩
theorem row160_ok : RowOk Try.prog 160 row160 := ⟨by kernel_rfl, by kernel_rfl, by kernel_rfl, fun h => (by cases h)⟩
def row161 : TR := ⟨.struct #[⟨ "text", 9, 0, false, "", "concourse/kv", 0⟩], 1, 16, .agg #[.string ⟨#[]⟩], true, none⟩
theorem row161_ok : RowOk Try.prog 161 row161 := ⟨by kernel_rfl, by kernel_rfl, by kernel_rfl, fun _ => ⟨by kernel_rfl, by kernel_rfl⟩⟩
def row162 : TR := ⟨.struct #[⟨ "text", 9, 0, false, "", "concourse/kv", 0⟩], 1, 16, .agg #[.string ⟨#[]⟩], true, none⟩
theorem row162_ok : RowOk Try.prog 162 row162 := ⟨by kernel_rfl, by kernel_rfl, by kernel_rfl, fun _ => ⟨by kernel_rfl, by kernel_rfl⟩⟩
def row164 : TR := ⟨.struct #[⟨ "K", 9, 0, false, "", "", 0⟩, ⟨ "V", 9, 1, false, "", "", 16⟩], 2, 32, .agg #[.string ⟨#[]⟩, .string ⟨#[]⟩], true, none⟩
theorem row164_ok : RowOk Try.prog 164 row164 := ⟨by kernel_rfl, by kernel_rfl, by kernel_rfl, fun _ => ⟨by kernel_rfl, by kernel_rfl⟩⟩
def row165 : TR := ⟨.struct #[⟨ "K", 9, 0, false, "", "", 0⟩, ⟨ "V", 9, 1, false, "", "", 16⟩], 2, 32, .agg #[.string ⟨#[]⟩, .string ⟨#[]⟩], true, none⟩
theorem row165_ok : RowOk Try.prog 165 row165 := ⟨by kernel_rfl, by kernel_rfl, by kernel_rfl, fun _ => ⟨by kernel_rfl, by kernel_rfl⟩⟩
def row166 : TR := ⟨.pointer 170, 1, 8, .pointer none, false, none⟩
theorem row166_ok : RowOk Try.prog 166 row166 := ⟨by kernel_rfl, by kernel_rfl, by kernel_rfl, fun h => (by cases h)⟩
def row167 : TR := ⟨.func #[9] #[166] false, 1, 8, .nilFunc, false, none⟩
theorem row167_ok : RowOk Try.prog 167 row167 := ⟨by kernel_rfl, by kernel_rfl, by kernel_rfl, fun h => (by cases h)⟩
def row168 : TR := ⟨.pointer 216, 1, 8, .pointer none, false, none⟩
theorem row168_ok : RowOk Try.prog 168 row168 := ⟨by kernel_rfl, by kernel_rfl, by kernel_rfl, fun h => (by cases h)⟩
def row169 : TR := ⟨.struct #[⟨ "first", 168, 0, false, "", "concourse/fifo", 0⟩, ⟨ "last", 168, 1, false, "", "concourse/fifo", 8⟩, ⟨ "n", 3, 2, false, "", "concourse/fifo", 16⟩], 3, 24, .agg #[.pointer none, .pointer none, .int .i64 0], false, none⟩
theorem row169_ok : RowOk Try.prog 169 row169 := ⟨by kernel_rfl, by kernel_rfl, by kernel_rfl, fun h => (by cases h)⟩
def row170 : TR := ⟨.struct #[⟨ "first", 168, 0, false, "", "concourse/fifo", 0⟩, ⟨ "last", 168, 1, false, "", "concourse/fifo", 8⟩, ⟨ "n", 3, 2, false, "", "concourse/fifo", 16⟩], 3, 24, .agg #[.pointer none, .pointer none, .int .i64 0], false, none⟩
theorem row170_ok : RowOk Try.prog 170 row170 := ⟨by kernel_rfl, by kernel_rfl, by kernel_rfl, fun h => (by cases h)⟩
def row171 : TR := ⟨.func #[9] #[] false, 1, 8, .nilFunc, false, none⟩
theorem row171_ok : RowOk Try.prog 171 row171 := ⟨by kernel_rfl, by kernel_rfl, by kernel_rfl, fun h => (by cases h)⟩
def row172 : TR := ⟨.func #[101, 114] #[101] false, 1, 8, .nilFunc, false, none⟩
theorem row172_ok : RowOk Try.prog 172 row172 := ⟨by kernel_rfl, by kernel_rfl, by kernel_rfl, fun h => (by cases h)⟩
def row173 : TR := ⟨.struct #[⟨ "holder", 9, 0, false, "", "concourse/lease", 0⟩, ⟨ "till", 3, 1, false, "", "concourse/lease", 16⟩], 2, 24, .agg #[.string ⟨#[]⟩, .int .i64 0], true, none⟩
theorem row173_ok : RowOk Try.prog 173 row173 := ⟨by kernel_rfl, by kernel_rfl, by kernel_rfl, fun _ => ⟨by kernel_rfl, by kernel_rfl⟩⟩
def row174 : TR := ⟨.struct #[⟨ "holder", 9, 0, false, "", "concourse/lease", 0⟩, ⟨ "till", 3, 1, false, "", "concourse/lease", 16⟩], 2, 24, .agg #[.string ⟨#[]⟩, .int .i64 0], true, none⟩
theorem row174_ok : RowOk Try.prog 174 row174 := ⟨by kernel_rfl, by kernel_rfl, by kernel_rfl, fun _ => ⟨by kernel_rfl, by kernel_rfl⟩⟩
def row176 : TR := ⟨.func #[178] #[52] false, 1, 8, .nilFunc, false, none⟩
theorem row176_ok : RowOk Try.prog 176 row176 := ⟨by kernel_rfl, by kernel_rfl, by kernel_rfl, fun h => (by cases h)⟩
def row177 : TR := ⟨.func #[74] #[] false, 1, 8, .nilFunc, false, none⟩
theorem row177_ok : RowOk Try.prog 177 row177 := ⟨by kernel_rfl, by kernel_rfl, by kernel_rfl, fun h => (by cases h)⟩
def row178 : TR := ⟨.func #[74] #[] false, 1, 8, .nilFunc, false, none⟩
theorem row178_ok : RowOk Try.prog 178 row178 := ⟨by kernel_rfl, by kernel_rfl, by kernel_rfl, fun h => (by cases h)⟩
def row179 : TR := ⟨.func #[120] #[178] false, 1, 8, .nilFunc, false, none⟩
theorem row179_ok : RowOk Try.prog 179 row179 := ⟨by kernel_rfl, by kernel_rfl, by kernel_rfl, fun h => (by cases h)⟩
def row180 : TR := ⟨.struct #[⟨ "Lives", 4, 0, false, "", "", 0⟩, ⟨ "Rests", 4, 1, false, "", "", 1⟩, ⟨ "Conf", 24, 2, false, "", "", 8⟩], 11, 80, .agg #[.bool false, .bool false, .int .i64 0, .int .i64 0, .int .i64 0, .int .i64 0, .int .i64 0, .int .i64 0, .int .i64 0, .int .i64 0, .int .i64 0], true, none⟩
theorem row180_ok : RowOk Try.prog 180 row180 := ⟨by kernel_rfl, by kernel_rfl, by kernel_rfl, fun _ => ⟨by kernel_rfl, by kernel_rfl⟩⟩
def row181 : TR := ⟨.struct #[⟨ "Lives", 4, 0, false, "", "", 0⟩, ⟨ "Rests", 4, 1, false, "", "", 1⟩, ⟨ "Conf", 24, 2, false, "", "", 8⟩], 11, 80, .agg #[.bool false, .bool false, .int .i64 0, .int .i64 0, .int .i64 0, .int .i64 0, .int .i64 0, .int .i64 0, .int .i64 0, .int .i64 0, .int .i64 0], true, none⟩
theorem row181_ok : RowOk Try.prog 181 row181 := ⟨by kernel_rfl, by kernel_rfl, by kernel_rfl, fun _ => ⟨by kernel_rfl, by kernel_rfl⟩⟩
def row182 : TR := ⟨.func #[129, 3] #[181] false, 1, 8, .nilFunc, false, none⟩
theorem row182_ok : RowOk Try.prog 182 row182 := ⟨by kernel_rfl, by kernel_rfl, by kernel_rfl, fun h => (by cases h)⟩
def row183 : TR := ⟨.struct #[⟨ "conf", 24, 0, false, "", "concourse/admin", 0⟩, ⟨ "rests", 4, 9, false, "", "concourse/admin", 72⟩], 10, 80, .agg #[.int .i64 0, .int .i64 0, .int .i64 0, .int .i64 0, .int .i64 0, .int .i64 0, .int .i64 0, .int .i64 0, .int .i64 0, .bool false], true, none⟩
theorem row183_ok : RowOk Try.prog 183 row183 := ⟨by kernel_rfl, by kernel_rfl, by kernel_rfl, fun _ => ⟨by kernel_rfl, by kernel_rfl⟩⟩
def row184 : TR := ⟨.struct #[⟨ "conf", 24, 0, false, "", "concourse/admin", 0⟩, ⟨ "rests", 4, 9, false, "", "concourse/admin", 72⟩], 10, 80, .agg #[.int .i64 0, .int .i64 0, .int .i64 0, .int .i64 0, .int .i64 0, .int .i64 0, .int .i64 0, .int .i64 0, .int .i64 0, .bool false], true, none⟩
theorem row184_ok : RowOk Try.prog 184 row184 := ⟨by kernel_rfl, by kernel_rfl, by kernel_rfl, fun _ => ⟨by kernel_rfl, by kernel_rfl⟩⟩
def row186 : TR := ⟨.func #[3] #[184, 4] false, 1, 8, .nilFunc, false, none⟩
theorem row186_ok : RowOk Try.prog 186 row186 := ⟨by kernel_rfl, by kernel_rfl, by kernel_rfl, fun h => (by cases h)⟩
def row187 : TR := ⟨.func #[142, 142] #[4] false, 1, 8, .nilFunc, false, none⟩
theorem row187_ok : RowOk Try.prog 187 row187 := ⟨by kernel_rfl, by kernel_rfl, by kernel_rfl, fun h => (by cases h)⟩
def row188 : TR := ⟨.func #[129] #[142] false, 1, 8, .nilFunc, false, none⟩
theorem row188_ok : RowOk Try.prog 188 row188 := ⟨by kernel_rfl, by kernel_rfl, by kernel_rfl, fun h => (by cases h)⟩
def row189 : TR := ⟨.func #[191] #[142] false, 1, 8, .nilFunc, false, none⟩
theorem row189_ok : RowOk Try.prog 189 row189 := ⟨by kernel_rfl, by kernel_rfl, by kernel_rfl, fun h => (by cases h)⟩
def row190 : TR := ⟨.func #[140] #[] false, 1, 8, .nilFunc, false, none⟩
theorem row190_ok : RowOk Try.prog 190 row190 := ⟨by kernel_rfl, by kernel_rfl, by kernel_rfl, fun h => (by cases h)⟩
def row191 : TR := ⟨.func #[140] #[] false, 1, 8, .nilFunc, false, none⟩
theorem row191_ok : RowOk Try.prog 191 row191 := ⟨by kernel_rfl, by kernel_rfl, by kernel_rfl, fun h => (by cases h)⟩
def row192 : TR := ⟨.func #[137] #[191] false, 1, 8, .nilFunc, false, none⟩
theorem row192_ok : RowOk Try.prog 192 row192 := ⟨by kernel_rfl, by kernel_rfl, by kernel_rfl, fun h => (by cases h)⟩
def row193 : TR := ⟨.func #[24] #[27] false, 1, 8, .nilFunc, false, none⟩
theorem row193_ok : RowOk Try.prog 193 row193 := ⟨by kernel_rfl, by kernel_rfl, by kernel_rfl, fun h => (by cases h)⟩
def row194 : TR := ⟨.slice 5, 1, 24, .slice none 0 0, false, none⟩
theorem row194_ok : RowOk Try.prog 194 row194 := ⟨by kernel_rfl, by kernel_rfl, by kernel_rfl, fun h => (by cases h)⟩
def row195 : TR := ⟨.int .u64, 1, 8, .int .u64 0, false, none⟩
theorem row195_ok : RowOk Try.prog 195 row195 := ⟨by kernel_rfl, by kernel_rfl, by kernel_rfl, fun h => (by cases h)⟩
def row196 : TR := ⟨.pointer 198, 1, 8, .pointer none, false, none⟩
theorem row196_ok : RowOk Try.prog 196 row196 := ⟨by kernel_rfl, by kernel_rfl, by kernel_rfl, fun h => (by cases h)⟩
def row197 : TR := ⟨.struct #[⟨ "addr", 196, 0, false, "", "strings", 0⟩, ⟨ "buf", 194, 1, false, "", "strings", 8⟩], 2, 32, .agg #[.pointer none, .slice none 0 0], false, none⟩
theorem row197_ok : RowOk Try.prog 197 row197 := ⟨by kernel_rfl, by kernel_rfl, by kernel_rfl, fun h => (by cases h)⟩
def row198 : TR := ⟨.struct #[⟨ "addr", 196, 0, false, "", "strings", 0⟩, ⟨ "buf", 194, 1, false, "", "strings", 8⟩], 2, 32, .agg #[.pointer none, .slice none 0 0], false, some 5⟩
theorem row198_ok : RowOk Try.prog 198 row198 := ⟨by kernel_rfl, by kernel_rfl, by kernel_rfl, fun h => (by cases h)⟩
def row199 : TR := ⟨.func #[24] #[142] false, 1, 8, .nilFunc, false, none⟩
theorem row199_ok : RowOk Try.prog 199 row199 := ⟨by kernel_rfl, by kernel_rfl, by kernel_rfl, fun h => (by cases h)⟩
def row200 : TR := ⟨.interface #[("Error", 151)], 1, 16, .nilIface, false, none⟩
theorem row200_ok : RowOk Try.prog 200 row200 := ⟨by kernel_rfl, by kernel_rfl, by kernel_rfl, fun h => (by cases h)⟩
def row201 : TR := ⟨.interface #[("Error", 151)], 1, 16, .nilIface, false, none⟩
theorem row201_ok : RowOk Try.prog 201 row201 := ⟨by kernel_rfl, by kernel_rfl, by kernel_rfl, fun h => (by cases h)⟩
def row203 : TR := ⟨.func #[9] #[3, 201] false, 1, 8, .nilFunc, false, none⟩
theorem row203_ok : RowOk Try.prog 203 row203 := ⟨by kernel_rfl, by kernel_rfl, by kernel_rfl, fun h => (by cases h)⟩
def row204 : TR := ⟨.func #[3] #[9] false, 1, 8, .nilFunc, false, none⟩
theorem row204_ok : RowOk Try.prog 204 row204 := ⟨by kernel_rfl, by kernel_rfl, by kernel_rfl, fun h => (by cases h)⟩
def row205 : TR := ⟨.struct #[⟨ "b", 9, 0, false, "", "concourse/span", 0⟩, ⟨ "at", 3, 1, false, "", "concourse/span", 16⟩, ⟨ "e", 27, 2, false, "", "concourse/span", 24⟩], 3, 32, .agg #[.string ⟨#[]⟩, .int .i64 0, .int .i64 0], true, none⟩
theorem row205_ok : RowOk Try.prog 205 row205 := ⟨by kernel_rfl, by kernel_rfl, by kernel_rfl, fun _ => ⟨by kernel_rfl, by kernel_rfl⟩⟩
def row206 : TR := ⟨.struct #[⟨ "b", 9, 0, false, "", "concourse/span", 0⟩, ⟨ "at", 3, 1, false, "", "concourse/span", 16⟩, ⟨ "e", 27, 2, false, "", "concourse/span", 24⟩], 3, 32, .agg #[.string ⟨#[]⟩, .int .i64 0, .int .i64 0], true, none⟩
theorem row206_ok : RowOk Try.prog 206 row206 := ⟨by kernel_rfl, by kernel_rfl, by kernel_rfl, fun _ => ⟨by kernel_rfl, by kernel_rfl⟩⟩
def row207 : TR := ⟨.func #[147, 156] #[22] false, 1, 8, .nilFunc, false, none⟩
theorem row207_ok : RowOk Try.prog 207 row207 := ⟨by kernel_rfl, by kernel_rfl, by kernel_rfl, fun h => (by cases h)⟩
def row208 : TR := ⟨.func #[147, 209] #[3] false, 1, 8, .nilFunc, false, none⟩
theorem row208_ok : RowOk Try.prog 208 row208 := ⟨by kernel_rfl, by kernel_rfl, by kernel_rfl, fun h => (by cases h)⟩
def row209 : TR := ⟨.func #[9] #[3, 3, 27] false, 1, 8, .nilFunc, false, none⟩
theorem row209_ok : RowOk Try.prog 209 row209 := ⟨by kernel_rfl, by kernel_rfl, by kernel_rfl, fun h => (by cases h)⟩
def row210 : TR := ⟨.func #[147, 211] #[9] false, 1, 8, .nilFunc, false, none⟩
theorem row210_ok : RowOk Try.prog 210 row210 := ⟨by kernel_rfl, by kernel_rfl, by kernel_rfl, fun h => (by cases h)⟩
def row211 : TR := ⟨.func #[9] #[9, 3, 27] false, 1, 8, .nilFunc, false, none⟩
theorem row211_ok : RowOk Try.prog 211 row211 := ⟨by kernel_rfl, by kernel_rfl, by kernel_rfl, fun h => (by cases h)⟩
def row212 : TR := ⟨.func #[142] #[24, 27] false, 1, 8, .nilFunc, false, none⟩
theorem row212_ok : RowOk Try.prog 212 row212 := ⟨by kernel_rfl, by kernel_rfl, by kernel_rfl, fun h => (by cases h)⟩
def row213 : TR := ⟨.func #[52, 3, 3, 3] #[] false, 1, 8, .nilFunc, false, none⟩
theorem row213_ok : RowOk Try.prog 213 row213 := ⟨by kernel_rfl, by kernel_rfl, by kernel_rfl, fun h => (by cases h)⟩
def row214 : TR := ⟨.func #[195] #[3] false, 1, 8, .nilFunc, false, none⟩
theorem row214_ok : RowOk Try.prog 214 row214 := ⟨by kernel_rfl, by kernel_rfl, by kernel_rfl, fun h => (by cases h)⟩
def row215 : TR := ⟨.struct #[⟨ "x", 9, 0, false, "", "concourse/fifo", 0⟩, ⟨ "next", 168, 1, false, "", "concourse/fifo", 16⟩], 2, 24, .agg #[.string ⟨#[]⟩, .pointer none], false, none⟩
theorem row215_ok : RowOk Try.prog 215 row215 := ⟨by kernel_rfl, by kernel_rfl, by kernel_rfl, fun h => (by cases h)⟩
def row216 : TR := ⟨.struct #[⟨ "x", 9, 0, false, "", "concourse/fifo", 0⟩, ⟨ "next", 168, 1, false, "", "concourse/fifo", 16⟩], 2, 24, .agg #[.string ⟨#[]⟩, .pointer none], false, none⟩
theorem row216_ok : RowOk Try.prog 216 row216 := ⟨by kernel_rfl, by kernel_rfl, by kernel_rfl, fun h => (by cases h)⟩
def row217 : TR := ⟨.func #[142] #[] false, 1, 8, .nilFunc, false, none⟩
theorem row217_ok : RowOk Try.prog 217 row217 := ⟨by kernel_rfl, by kernel_rfl, by kernel_rfl, fun h => (by cases h)⟩
def row218 : TR := ⟨.func #[242] #[] false, 1, 8, .nilFunc, false, none⟩
theorem row218_ok : RowOk Try.prog 218 row218 := ⟨by kernel_rfl, by kernel_rfl, by kernel_rfl, fun h => (by cases h)⟩
def row219 : TR := ⟨.func #[242] #[] false, 1, 8, .nilFunc, false, none⟩
theorem row219_ok : RowOk Try.prog 219 row219 := ⟨by kernel_rfl, by kernel_rfl, by kernel_rfl, fun h => (by cases h)⟩
def row220 : TR := ⟨.func #[221] #[219] false, 1, 8, .nilFunc, false, none⟩
theorem row220_ok : RowOk Try.prog 220 row220 := ⟨by kernel_rfl, by kernel_rfl, by kernel_rfl, fun h => (by cases h)⟩
def row221 : TR := ⟨.pointer 24, 1, 8, .pointer none, false, none⟩
theorem row221_ok : RowOk Try.prog 221 row221 := ⟨by kernel_rfl, by kernel_rfl, by kernel_rfl, fun h => (by cases h)⟩
def row222 : TR := ⟨.pointer 3, 1, 8, .pointer none, false, none⟩
theorem row222_ok : RowOk Try.prog 222 row222 := ⟨by kernel_rfl, by kernel_rfl, by kernel_rfl, fun h => (by cases h)⟩
def row223 : TR := ⟨.struct #[⟨ "at", 222, 0, false, "", "concourse/conf", 0⟩, ⟨ "least", 3, 1, false, "", "concourse/conf", 8⟩, ⟨ "most", 3, 2, false, "", "concourse/conf", 16⟩], 3, 24, .agg #[.pointer none, .int .i64 0, .int .i64 0], false, none⟩
theorem row223_ok : RowOk Try.prog 223 row223 := ⟨by kernel_rfl, by kernel_rfl, by kernel_rfl, fun h => (by cases h)⟩
def row224 : TR := ⟨.struct #[⟨ "at", 222, 0, false, "", "concourse/conf", 0⟩, ⟨ "least", 3, 1, false, "", "concourse/conf", 8⟩, ⟨ "most", 3, 2, false, "", "concourse/conf", 16⟩], 3, 24, .agg #[.pointer none, .int .i64 0, .int .i64 0], false, none⟩
theorem row224_ok : RowOk Try.prog 224 row224 := ⟨by kernel_rfl, by kernel_rfl, by kernel_rfl, fun h => (by cases h)⟩
def row225 : TR := ⟨.pointer 5, 1, 8, .pointer none, false, none⟩
theorem row225_ok : RowOk Try.prog 225 row225 := ⟨by kernel_rfl, by kernel_rfl, by kernel_rfl, fun h => (by cases h)⟩
def row227 : TR := ⟨.func #[52, 3, 3] #[] false, 1, 8, .nilFunc, false, none⟩
theorem row227_ok : RowOk Try.prog 227 row227 := ⟨by kernel_rfl, by kernel_rfl, by kernel_rfl, fun h => (by cases h)⟩
def row228 : TR := ⟨.int .i64, 1, 8, .int .i64 0, false, none⟩
theorem row228_ok : RowOk Try.prog 228 row228 := ⟨by kernel_rfl, by kernel_rfl, by kernel_rfl, fun h => (by cases h)⟩
def row230 : TR := ⟨.func #[52, 3, 3] #[3, 228] false, 1, 8, .nilFunc, false, none⟩
theorem row230_ok : RowOk Try.prog 230 row230 := ⟨by kernel_rfl, by kernel_rfl, by kernel_rfl, fun h => (by cases h)⟩
def row231 : TR := ⟨.func #[52, 3, 3] #[4] false, 1, 8, .nilFunc, false, none⟩
theorem row231_ok : RowOk Try.prog 231 row231 := ⟨by kernel_rfl, by kernel_rfl, by kernel_rfl, fun h => (by cases h)⟩
def row232 : TR := ⟨.func #[52, 3, 3, 3] #[3] false, 1, 8, .nilFunc, false, none⟩
theorem row232_ok : RowOk Try.prog 232 row232 := ⟨by kernel_rfl, by kernel_rfl, by kernel_rfl, fun h => (by cases h)⟩
def row234 : TR := ⟨.func #[52, 3, 3, 3] #[3, 4] false, 1, 8, .nilFunc, false, none⟩
theorem row234_ok : RowOk Try.prog 234 row234 := ⟨by kernel_rfl, by kernel_rfl, by kernel_rfl, fun h => (by cases h)⟩
def row235 : TR := ⟨.func #[236] #[3] false, 1, 8, .nilFunc, false, none⟩
theorem row235_ok : RowOk Try.prog 235 row235 := ⟨by kernel_rfl, by kernel_rfl, by kernel_rfl, fun h => (by cases h)⟩
def row236 : TR := ⟨.int .u32, 1, 4, .int .u32 0, false, none⟩
theorem row236_ok : RowOk Try.prog 236 row236 := ⟨by kernel_rfl, by kernel_rfl, by kernel_rfl, fun h => (by cases h)⟩
def row237 : TR := ⟨.func #[22] #[3] false, 1, 8, .nilFunc, false, none⟩
theorem row237_ok : RowOk Try.prog 237 row237 := ⟨by kernel_rfl, by kernel_rfl, by kernel_rfl, fun h => (by cases h)⟩
def row238 : TR := ⟨.func #[52, 178] #[52] false, 1, 8, .nilFunc, false, none⟩
theorem row238_ok : RowOk Try.prog 238 row238 := ⟨by kernel_rfl, by kernel_rfl, by kernel_rfl, fun h => (by cases h)⟩
def row239 : TR := ⟨.func #[142, 191] #[142] false, 1, 8, .nilFunc, false, none⟩
theorem row239_ok : RowOk Try.prog 239 row239 := ⟨by kernel_rfl, by kernel_rfl, by kernel_rfl, fun h => (by cases h)⟩
def row240 : TR := ⟨.func #[142, 3, 3, 3] #[] false, 1, 8, .nilFunc, false, none⟩
theorem row240_ok : RowOk Try.prog 240 row240 := ⟨by kernel_rfl, by kernel_rfl, by kernel_rfl, fun h => (by cases h)⟩
def row241 : TR := ⟨.array 9 224, 27, 216, .agg #[.pointer none, .int .i64 0, .int .i64 0, .pointer none, .int .i64 0, .int .i64 0, .pointer none, .int .i64 0, .int .i64 0, .pointer none, .int .i64 0, .int .i64 0, .pointer none, .int .i64 0, .int .i64 0, .pointer none, .int .i64 0, .int .i64 0, .pointer none, .int .i64 0, .int .i64 0, .pointer none, .int .i64 0, .int .i64 0, .pointer none, .int .i64 0, .int .i64 0], false, none⟩
theorem row241_ok : RowOk Try.prog 241 row241 := ⟨by kernel_rfl, by kernel_rfl, by kernel_rfl, fun h => (by cases h)⟩
def row242 : TR := ⟨.func #[3, 224] #[4] false, 1, 8, .nilFunc, false, none⟩
theorem row242_ok : RowOk Try.prog 242 row242 := ⟨by kernel_rfl, by kernel_rfl, by kernel_rfl, fun h => (by cases h)⟩
def row244 : TR := ⟨.func #[243] #[243] false, 1, 8, .nilFunc, false, none⟩
theorem row244_ok : RowOk Try.prog 244 row244 := ⟨by kernel_rfl, by kernel_rfl, by kernel_rfl, fun h => (by cases h)⟩
def row245 : TR := ⟨.int .u64, 1, 8, .int .u64 0, false, none⟩
theorem row245_ok : RowOk Try.prog 245 row245 := ⟨by kernel_rfl, by kernel_rfl, by kernel_rfl, fun h => (by cases h)⟩
def row246 : TR := ⟨.func #[3] #[195] false, 1, 8, .nilFunc, false, none⟩
theorem row246_ok : RowOk Try.prog 246 row246 := ⟨by kernel_rfl, by kernel_rfl, by kernel_rfl, fun h => (by cases h)⟩
def row247 : TR := ⟨.func #[52, 3, 222] #[3] false, 1, 8, .nilFunc, false, none⟩
theorem row247_ok : RowOk Try.prog 247 row247 := ⟨by kernel_rfl, by kernel_rfl, by kernel_rfl, fun h => (by cases h)⟩
def row248 : TR := ⟨.func #[52, 3, 3, 3, 222] #[3] false, 1, 8, .nilFunc, false, none⟩
theorem row248_ok : RowOk Try.prog 248 row248 := ⟨by kernel_rfl, by kernel_rfl, by kernel_rfl, fun h => (by cases h)⟩
def row249 : TR := ⟨.func #[142, 3, 3] #[] false, 1, 8, .nilFunc, false, none⟩
theorem row249_ok : RowOk Try.prog 249 row249 := ⟨by kernel_rfl, by kernel_rfl, by kernel_rfl, fun h => (by cases h)⟩
def row250 : TR := ⟨.func #[142, 3, 3] #[3, 228] false, 1, 8, .nilFunc, false, none⟩
theorem row250_ok : RowOk Try.prog 250 row250 := ⟨by kernel_rfl, by kernel_rfl, by kernel_rfl, fun h => (by cases h)⟩
def row251 : TR := ⟨.func #[142, 3, 3] #[4] false, 1, 8, .nilFunc, false, none⟩
theorem row251_ok : RowOk Try.prog 251 row251 := ⟨by kernel_rfl, by kernel_rfl, by kernel_rfl, fun h => (by cases h)⟩
def row252 : TR := ⟨.func #[3, 3] #[4] false, 1, 8, .nilFunc, false, none⟩
theorem row252_ok : RowOk Try.prog 252 row252 := ⟨by kernel_rfl, by kernel_rfl, by kernel_rfl, fun h => (by cases h)⟩
def row253 : TR := ⟨.func #[142, 3, 3, 3] #[3] false, 1, 8, .nilFunc, false, none⟩
theorem row253_ok : RowOk Try.prog 253 row253 := ⟨by kernel_rfl, by kernel_rfl, by kernel_rfl, fun h => (by cases h)⟩
def row254 : TR := ⟨.func #[142, 3, 3, 3] #[3, 4] false, 1, 8, .nilFunc, false, none⟩
theorem row254_ok : RowOk Try.prog 254 row254 := ⟨by kernel_rfl, by kernel_rfl, by kernel_rfl, fun h => (by cases h)⟩
def row255 : TR := ⟨.pointer 245, 1, 8, .pointer none, false, none⟩
theorem row255_ok : RowOk Try.prog 255 row255 := ⟨by kernel_rfl, by kernel_rfl, by kernel_rfl, fun h => (by cases h)⟩
def row257 : TR := ⟨.func #[52, 3, 3, 222] #[3, 3] false, 1, 8, .nilFunc, false, none⟩
theorem row257_ok : RowOk Try.prog 257 row257 := ⟨by kernel_rfl, by kernel_rfl, by kernel_rfl, fun h => (by cases h)⟩
def row258 : TR := ⟨.func #[142, 3, 222] #[3] false, 1, 8, .nilFunc, false, none⟩
theorem row258_ok : RowOk Try.prog 258 row258 := ⟨by kernel_rfl, by kernel_rfl, by kernel_rfl, fun h => (by cases h)⟩
def row259 : TR := ⟨.func #[142, 3, 3, 3, 222] #[3] false, 1, 8, .nilFunc, false, none⟩
theorem row259_ok : RowOk Try.prog 259 row259 := ⟨by kernel_rfl, by kernel_rfl, by kernel_rfl, fun h => (by cases h)⟩
def row260 : TR := ⟨.func #[142, 3, 3, 222] #[3, 3] false, 1, 8, .nilFunc, false, none⟩
theorem row260_ok : RowOk Try.prog 260 row260 := ⟨by kernel_rfl, by kernel_rfl, by kernel_rfl, fun h => (by cases h)⟩
def row263 : TR := ⟨.array 0 16, 0, 0, .agg #[], false, none⟩
theorem row263_ok : RowOk Try.prog 263 row263 := ⟨by kernel_rfl, by kernel_rfl, by kernel_rfl, fun h => (by cases h)⟩
def row268 : TR := ⟨.func #[243, 243] #[4] false, 1, 8, .nilFunc, false, none⟩
theorem row268_ok : RowOk Try.prog 268 row268 := ⟨by kernel_rfl, by kernel_rfl, by kernel_rfl, fun h => (by cases h)⟩
def tyTab : List (TypeId × TR) := [(1, row1), (2, row2), (3, row3), (4, row4), (5, row5), (9, row9), (12, row12), (20, row20), (21, row21), (22, row22), (23, row23), (24, row24), (25, row25), (26, row26), (27, row27), (29, row29), (30, row30), (31, row31), (32, row32), (34, row34), (36, row36), (37, row37), (38, row38), (39, row39), (40, row40), (41, row41), (42, row42), (43, row43), (44, row44), (45, row45), (46, row46), (47, row47), (48, row48), (49, row49), (50, row50), (51, row51), (52, row52), (53, row53), (54, row54), (55, row55), (56, row56), (57, row57), (58, row58), (59, row59), (60, row60), (61, row61), (62, row62), (63, row63), (64, row64), (65, row65), (66, row66), (68, row68), (69, row69), (70, row70), (71, row71), (72, row72), (73, row73), (74, row74), (75, row75), (76, row76), (77, row77), (78, row78), (79, row79), (80, row80), (81, row81), (82, row82), (83, row83), (84, row84), (85, row85), (86, row86), (87, row87), (88, row88), (90, row90), (91, row91), (92, row92), (93, row93), (94, row94), (95, row95), (96, row96), (97, row97), (98, row98), (99, row99), (100, row100), (101, row101), (102, row102), (103, row103), (104, row104), (106, row106), (107, row107), (108, row108), (109, row109), (110, row110), (112, row112), (113, row113), (114, row114), (115, row115), (116, row116), (117, row117), (118, row118), (119, row119), (120, row120), (121, row121), (122, row122), (123, row123), (124, row124), (125, row125), (126, row126), (127, row127), (128, row128), (129, row129), (130, row130), (131, row131), (132, row132), (133, row133), (135, row135), (136, row136), (137, row137), (138, row138), (139, row139), (140, row140), (141, row141), (142, row142), (143, row143), (144, row144), (145, row145), (146, row146), (147, row147), (148, row148), (149, row149), (150, row150), (151, row151), (152, row152), (154, row154), (156, row156), (158, row158), (160, row160), (161, row161), (162, row162), (164, row164), (165, row165), (166, row166), (167, row167), (168, row168), (169, row169), (170, row170), (171, row171), (172, row172), (173, row173), (174, row174), (176, row176), (177, row177), (178, row178), (179, row179), (180, row180), (181, row181), (182, row182), (183, row183), (184, row184), (186, row186), (187, row187), (188, row188), (189, row189), (190, row190), (191, row191), (192, row192), (193, row193), (194, row194), (195, row195), (196, row196), (197, row197), (198, row198), (199, row199), (200, row200), (201, row201), (203, row203), (204, row204), (205, row205), (206, row206), (207, row207), (208, row208), (209, row209), (210, row210), (211, row211), (212, row212), (213, row213), (214, row214), (215, row215), (216, row216), (217, row217), (218, row218), (219, row219), (220, row220), (221, row221), (222, row222), (223, row223), (224, row224), (225, row225), (227, row227), (228, row228), (230, row230), (231, row231), (232, row232), (234, row234), (235, row235), (236, row236), (237, row237), (238, row238), (239, row239), (240, row240), (241, row241), (242, row242), (244, row244), (245, row245), (246, row246), (247, row247), (248, row248), (249, row249), (250, row250), (251, row251), (252, row252), (253, row253), (254, row254), (255, row255), (257, row257), (258, row258), (259, row259), (260, row260), (263, row263), (268, row268)]
theorem tyTab_ok : AllOk Try.prog tyTab := ⟨row1_ok, row2_ok, row3_ok, row4_ok, row5_ok, row9_ok, row12_ok, row20_ok, row21_ok, row22_ok, row23_ok, row24_ok, row25_ok, row26_ok, row27_ok, row29_ok, row30_ok, row31_ok, row32_ok, row34_ok, row36_ok, row37_ok, row38_ok, row39_ok, row40_ok, row41_ok, row42_ok, row43_ok, row44_ok, row45_ok, row46_ok, row47_ok, row48_ok, row49_ok, row50_ok, row51_ok, row52_ok, row53_ok, row54_ok, row55_ok, row56_ok, row57_ok, row58_ok, row59_ok, row60_ok, row61_ok, row62_ok, row63_ok, row64_ok, row65_ok, row66_ok, row68_ok, row69_ok, row70_ok, row71_ok, row72_ok, row73_ok, row74_ok, row75_ok, row76_ok, row77_ok, row78_ok, row79_ok, row80_ok, row81_ok, row82_ok, row83_ok, row84_ok, row85_ok, row86_ok, row87_ok, row88_ok, row90_ok, row91_ok, row92_ok, row93_ok, row94_ok, row95_ok, row96_ok, row97_ok, row98_ok, row99_ok, row100_ok, row101_ok, row102_ok, row103_ok, row104_ok, row106_ok, row107_ok, row108_ok, row109_ok, row110_ok, row112_ok, row113_ok, row114_ok, row115_ok, row116_ok, row117_ok, row118_ok, row119_ok, row120_ok, row121_ok, row122_ok, row123_ok, row124_ok, row125_ok, row126_ok, row127_ok, row128_ok, row129_ok, row130_ok, row131_ok, row132_ok, row133_ok, row135_ok, row136_ok, row137_ok, row138_ok, row139_ok, row140_ok, row141_ok, row142_ok, row143_ok, row144_ok, row145_ok, row146_ok, row147_ok, row148_ok, row149_ok, row150_ok, row151_ok, row152_ok, row154_ok, row156_ok, row158_ok, row160_ok, row161_ok, row162_ok, row164_ok, row165_ok, row166_ok, row167_ok, row168_ok, row169_ok, row170_ok, row171_ok, row172_ok, row173_ok, row174_ok, row176_ok, row177_ok, row178_ok, row179_ok, row180_ok, row181_ok, row182_ok, row183_ok, row184_ok, row186_ok, row187_ok, row188_ok, row189_ok, row190_ok, row191_ok, row192_ok, row193_ok, row194_ok, row195_ok, row196_ok, row197_ok, row198_ok, row199_ok, row200_ok, row201_ok, row203_ok, row204_ok, row205_ok, row206_ok, row207_ok, row208_ok, row209_ok, row210_ok, row211_ok, row212_ok, row213_ok, row214_ok, row215_ok, row216_ok, row217_ok, row218_ok, row219_ok, row220_ok, row221_ok, row222_ok, row223_ok, row224_ok, row225_ok, row227_ok, row228_ok, row230_ok, row231_ok, row232_ok, row234_ok, row235_ok, row236_ok, row237_ok, row238_ok, row239_ok, row240_ok, row241_ok, row242_ok, row244_ok, row245_ok, row246_ok, row247_ok, row248_ok, row249_ok, row250_ok, row251_ok, row252_ok, row253_ok, row254_ok, row255_ok, row257_ok, row258_ok, row259_ok, row260_ok, row263_ok, row268_ok, trivial⟩
def TT : TypeId → TR := lookT tyTab
theorem tt_ok : TOk Try.prog TT := lookT_ok tyTab tyTab_ok
end Go.Proofs.Ytpnlhnhjedopgaa
