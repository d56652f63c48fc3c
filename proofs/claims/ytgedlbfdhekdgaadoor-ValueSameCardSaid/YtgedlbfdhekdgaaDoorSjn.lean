/- strings.Join in the abstract run. -/
import Derived.Test.YtgedlbfdhekdgaaDoorLaw
import Derived.Shelf.Strings.OnBuilder
set_option maxRecDepth 100000
set_option linter.unusedSimpArgs false
namespace Go.Proofs.YtgedlbfdhekdgaaDoor
open Go Go.RowKit Go.Proofs Go.Shelf

def lays156_ren : Go.Shelf.Ren := ⟨fun | 156 => 45 | 165 => 59 | 166 => 60 | 169 => 43 | 240 => 57 | 241 => 68 | 276 => 67 | 277 => 71 | n => n, fun | 0 => 0 | 3 => 3 | 4 => 4 | 5 => 5 | 9 => 9 | 20 => 20 | 31 => 72 | 37 => 64 | 70 => 63 | 72 => 66 | 75 => 68 | 76 => 85 | 80 => 71 | 127 => 83 | 164 => 93 | n => n, fun  | n => n⟩
theorem lays156 : Go.Proofs.Lays.n156 Tryd.prog lays156_ren := {
  mixed := by kernel_rfl
  f156 := Tryd.func45.trans (congrArg some (by kernel_rfl))
  f165 := Tryd.func59.trans (congrArg some (by kernel_rfl))
  f166 := Tryd.func60.trans (congrArg some (by kernel_rfl))
  f169 := Tryd.func43.trans (congrArg some (by kernel_rfl))
  f240 := Tryd.func57.trans (congrArg some (by kernel_rfl))
  f241 := Tryd.func68.trans (congrArg some (by kernel_rfl))
  f276 := Tryd.func67.trans (congrArg some (by kernel_rfl))
  f277 := Tryd.func71.trans (congrArg some (by kernel_rfl))
  t0 := Tryd.underlying0
  a0 := Tryd.isAgg0
  z0 := Tryd.sizeOf0
  v0 := Tryd.zeroValue0
  t3 := Tryd.underlying3
  a3 := Tryd.isAgg3
  z3 := Tryd.sizeOf3
  v3 := Tryd.zeroValue3
  t4 := Tryd.underlying4
  a4 := Tryd.isAgg4
  z4 := Tryd.sizeOf4
  v4 := Tryd.zeroValue4
  t9 := Tryd.underlying9
  a9 := Tryd.isAgg9
  z9 := Tryd.sizeOf9
  v9 := Tryd.zeroValue9
  t20 := Tryd.underlying20
  a20 := Tryd.isAgg20
  z20 := Tryd.sizeOf20
  v20 := Tryd.zeroValue20
  t31 := Tryd.underlying72
  a31 := Tryd.isAgg72
  z31 := Tryd.sizeOf72
  v31 := Tryd.zeroValue72
  t37 := Tryd.underlying64
  a37 := Tryd.isAgg64
  z37 := Tryd.sizeOf64
  v37 := Tryd.zeroValue64
  t70 := Tryd.underlying63
  a70 := Tryd.isAgg63
  z70 := Tryd.sizeOf63
  v70 := Tryd.zeroValue63
  t72 := Tryd.underlying66
  a72 := Tryd.isAgg66
  z72 := Tryd.sizeOf66
  v72 := Tryd.zeroValue66
  t75 := Tryd.underlying68
  a75 := Tryd.isAgg68
  z75 := Tryd.sizeOf68
  v75 := Tryd.zeroValue68
  t76 := Tryd.underlying85
  a76 := Tryd.isAgg85
  z76 := Tryd.sizeOf85
  v76 := Tryd.zeroValue85
  t127 := Tryd.underlying83
  a127 := Tryd.isAgg83
  z127 := Tryd.sizeOf83
  v127 := Tryd.zeroValue83
  t164 := Tryd.underlying93
  a164 := Tryd.isAgg93
  z164 := Tryd.sizeOf93
  v164 := Tryd.zeroValue93
}
theorem bldX156 : Builder.Extra Tryd.prog lays156_ren where
  sizeBuilder := by kernel_rfl
  liesBuilder := by kernel_rfl
  t5 := Tryd.underlying5
  a5 := Tryd.isAgg5
  z5 := Tryd.sizeOf5
  v5 := Tryd.zeroValue5
  infoByte := by kernel_rfl
  cellsByte := by kernel_rfl
  sizeByte := by kernel_rfl
  neB5 := by decide
def strC (l : List UInt8) : List AV := [.str (S l)]
theorem sjoin_ok (ls : List (List UInt8)) (sep : List UInt8) (G : Glob) (hn : ls.length ≤ 1048576) (hl : (Lib.join ls sep).length ≤ 1048576) (h0 : ls ≠ []) :
    CallOk Tryd.prog TT 45 [.slc 9 (ls.map strC), .str (S sep)] G (fun v G' => v = .str (S (Lib.join ls sep)) ∧ G' = G) := by
  refine .of_gives ⟨_, Tryd.func45, by decide, rfl⟩ fun g us w hlen hd => ?_
  obtain ⟨us⟩ := us
  match us, hlen with
  | [u0, u1], _ =>
    cases hd 1 _ u1 rfl rfl
    obtain ⟨p, cap, rfl, hc, hm, hs, hp⟩ := slc_cells (hd 0 _ u0 rfl rfl)
    rw [List.length_map] at hc hp
    have hpos : 0 < ls.length := List.length_pos_iff.2 h0
    obtain ⟨b, off, F, rfl, hF⟩ := hp hpos
    refine ⟨_, .str _, ?_⟩
    have e : (ls.map S).map (·.data.toList) = ls := by rw [List.map_map]; exact (List.map_congr_left (fun x _ => S_list x)).trans (List.map_id _)
    have h := Any.strings_Join lays156 bldX156 b off cap (ls.map S) (S sep) w (fun j x hx => by
      rw [List.getElem?_map] at hx
      cases hj : ls[j]? with
      | none => rw [hj] at hx; cases hx
      | some y =>
        rw [hj] at hx
        simp only [Option.map_some, Option.some.injEq] at hx
        subst hx
        obtain ⟨f1, f2, f3, f4⟩ := hF j (strC y) (by rw [List.getElem?_map, hj]; rfl) 0 (by decide)
        have h1 : (TT 9).cells = 1 := rfl
        rw [h1, Nat.mul_one, Nat.add_zero] at f2
        rw [f2]
        have f5 := f4 (.str (S y)) rfl
        generalize F j 0 = q at f5 ⊢
        cases f5; rfl) (by
      obtain ⟨y, hy⟩ : ∃ y, ls[0]? = some y := ⟨_, List.getElem?_eq_getElem hpos⟩
      obtain ⟨f1, f2, f3, f4⟩ := hF 0 (strC y) (by rw [List.getElem?_map, hy]; rfl) 0 (by decide)
      exact cell_lt f2) (by rw [List.length_map]; omega) (by rw [List.length_map]; exact hc) (by rw [e, S_list]; omega)
    rw [e, S_list, List.length_map] at h
    rw [List.length_map]
    exact h.mono fun e w' ⟨h1, h2⟩ => ⟨h1, h2⟩
theorem joinT_len : ∀ (ls : List (List UInt8)) (sep : List UInt8) (n : Nat), (∀ x ∈ ls, x.length ≤ n) → (Lib.joinTail sep ls).length ≤ ls.length * (sep.length + n)
  | [], _, _, _ => by simp [Lib.joinTail]
  | x :: r, sep, n, h => by
    have h1 := joinT_len r sep n (fun y hy => h y (by simp [hy]))
    have h2 := h x (by simp)
    have e : Lib.joinTail sep (x :: r) = sep ++ x ++ Lib.joinTail sep r := by simp [Lib.joinTail]
    rw [e, List.length_append, List.length_append, List.length_cons, Nat.add_mul, Nat.one_mul]; omega
theorem join_len (ls : List (List UInt8)) (sep : List UInt8) (n : Nat) (h : ∀ x ∈ ls, x.length ≤ n) : (Lib.join ls sep).length ≤ ls.length * (sep.length + n) := by
  cases ls with
  | nil => simp [Lib.join_nil]
  | cons x r =>
    rw [Lib.join_cons, List.length_append, List.length_cons, Nat.add_mul, Nat.one_mul]
    have h1 := joinT_len r sep n (fun y hy => h y (by simp [hy]))
    have h2 := h x (by simp)
    omega
theorem sjoin_any (ls : List (List UInt8)) (sep : List UInt8) (G : Glob) (hn : ls.length ≤ 1048576) (hl : (Lib.join ls sep).length ≤ 1048576) :
    CallOk Tryd.prog TT 45 [.slc 9 (ls.map strC), .str (S sep)] G (fun v G' => v = .str (S (Lib.join ls sep)) ∧ G' = G) := by
  cases ls with
  | cons x r => exact sjoin_ok (x :: r) sep G hn hl (by simp)
  | nil =>
    refine call_sem tt_ok Tryd.func45 rfl (by kernel_rfl) Tryd.ntmps45 Tryd.results45 ?_; conv => whnf
    repeat' (first | ((first | refine Sem.reg tt_ok ?_ | refine Sem.condS ?_ | refine Sem.regL tt_ok ?_ | refine Sem.skip tt_ok ?_ | refine Sem.exit tt_ok ?_ | refine Sem.ret tt_ok ?_ | refine BS_t (by assumption) ?_ | refine BS_f (by assumption) ?_ | refine (nthK_iff _ _).2 ⟨_, (by assumption), ?_⟩ | refine ⟨_, ⟨(by omega), (by assumption)⟩, ?_⟩ | refine And.intro (by first | decide | omega) ?_ | fail); conv => whnf) | refine Sem.seqS ?_ | refine Sem.block ?_ | fail)
    exact ⟨_, fun _ _ h => h, rfl, rfl⟩
end Go.Proofs.YtgedlbfdhekdgaaDoor
