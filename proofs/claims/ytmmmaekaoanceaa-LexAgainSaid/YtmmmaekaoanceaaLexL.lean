/- Texts joined by blanks. -/
import Derived.Test.YtmmmaekaoanceaaLexK
import Derived.Shelf.Strings.OnBuilder
set_option maxRecDepth 100000
set_option linter.unusedSimpArgs false
namespace Go.Proofs.Ytmmmaekaoanceaa
open Go Go.RowKit Go.Proofs Go.Shelf

def lays156_ren : Go.Shelf.Ren := ⟨fun | 156 => 89 | 165 => 110 | 166 => 76 | 169 => 77 | 240 => 96 | 241 => 118 | 276 => 111 | 277 => 121 | n => n, fun | 0 => 0 | 3 => 3 | 4 => 4 | 5 => 5 | 9 => 9 | 20 => 20 | 31 => 155 | 37 => 122 | 70 => 121 | 72 => 124 | 75 => 127 | 76 => 128 | 80 => 130 | 127 => 162 | 164 => 178 | n => n, fun | n => n⟩
theorem lays156 : Go.Proofs.Lays.n156 Try.prog lays156_ren := {
  mixed := by kernel_rfl
  f156 := Try.func89.trans (congrArg some (by kernel_rfl))
  f165 := Try.func110.trans (congrArg some (by kernel_rfl))
  f166 := Try.func76.trans (congrArg some (by kernel_rfl))
  f169 := Try.func77.trans (congrArg some (by kernel_rfl))
  f240 := Try.func96.trans (congrArg some (by kernel_rfl))
  f241 := Try.func118.trans (congrArg some (by kernel_rfl))
  f276 := Try.func111.trans (congrArg some (by kernel_rfl))
  f277 := Try.func121.trans (congrArg some (by kernel_rfl))
  t0 := Try.underlying0
  a0 := Try.isAgg0
  z0 := Try.sizeOf0
  v0 := Try.zeroValue0
  t3 := Try.underlying3
  a3 := Try.isAgg3
  z3 := Try.sizeOf3
  v3 := Try.zeroValue3
  t4 := Try.underlying4
  a4 := Try.isAgg4
  z4 := Try.sizeOf4
  v4 := Try.zeroValue4
  t9 := Try.underlying9
  a9 := Try.isAgg9
  z9 := Try.sizeOf9
  v9 := Try.zeroValue9
  t20 := Try.underlying20
  a20 := Try.isAgg20
  z20 := Try.sizeOf20
  v20 := Try.zeroValue20
  t31 := Try.underlying155
  a31 := Try.isAgg155
  z31 := Try.sizeOf155
  v31 := Try.zeroValue155
  t37 := Try.underlying122
  a37 := Try.isAgg122
  z37 := Try.sizeOf122
  v37 := Try.zeroValue122
  t70 := Try.underlying121
  a70 := Try.isAgg121
  z70 := Try.sizeOf121
  v70 := Try.zeroValue121
  t72 := Try.underlying124
  a72 := Try.isAgg124
  z72 := Try.sizeOf124
  v72 := Try.zeroValue124
  t75 := Try.underlying127
  a75 := Try.isAgg127
  z75 := Try.sizeOf127
  v75 := Try.zeroValue127
  t76 := Try.underlying128
  a76 := Try.isAgg128
  z76 := Try.sizeOf128
  v76 := Try.zeroValue128
  t127 := Try.underlying162
  a127 := Try.isAgg162
  z127 := Try.sizeOf162
  v127 := Try.zeroValue162
  t164 := Try.underlying178
  a164 := Try.isAgg178
  z164 := Try.sizeOf178
  v164 := Try.zeroValue178
}
theorem bldX156 : Builder.Extra Try.prog lays156_ren where
  sizeBuilder := by kernel_rfl
  liesBuilder := by kernel_rfl
  t5 := Try.underlying5
  a5 := Try.isAgg5
  z5 := Try.sizeOf5
  v5 := Try.zeroValue5
  infoByte := by kernel_rfl
  cellsByte := by kernel_rfl
  sizeByte := by kernel_rfl
  neB5 := by decide
def strC (l : List UInt8) : List AV := [.str (S l)]
theorem sjoin_ok (ls : List (List UInt8)) (sep : List UInt8) (G : Glob) (hn : ls.length ≤ 1048576) (hl : (Lib.join ls sep).length ≤ 1048576) (h0 : ls ≠ []) :
    CallOk Try.prog TT 89 [.slc 9 (ls.map strC), .str (S sep)] G (fun v G' => v = .str (S (Lib.join ls sep)) ∧ G' = G) := by
  refine .of_gives ⟨_, Try.func89, by decide, rfl⟩ fun g us w hlen hd => ?_
  obtain ⟨us⟩ := us
  match us, hlen with
  | [u0, u1], _ =>
    cases hd 1 _ u1 rfl rfl
    obtain ⟨p, cap, rfl, hc, hm, hs, hp⟩ := slc_cells (hd 0 _ u0 rfl rfl)
    rw [List.length_map] at hc hp
    have hpos : 0 < ls.length := List.length_pos_iff.2 h0
    obtain ⟨b, off, F, rfl, hF⟩ := hp hpos
    refine ⟨_, .str _, ?_⟩
    have e : (ls.map S).map (·.data.toList) = ls := by rw [List.map_map]; exact (List.map_congr_left (fun x _ => S_list x)).trans (List.map_id _)
    have h := Any.strings_Join lays156 bldX156 b off cap (ls.map S) (S sep) w (fun j x hx => by
      rw [List.getElem?_map] at hx
      cases hj : ls[j]? with
      | none => rw [hj] at hx; cases hx
      | some y =>
        rw [hj] at hx
        simp only [Option.map_some, Option.some.injEq] at hx
        subst hx
        obtain ⟨f1, f2, f3, f4⟩ := hF j (strC y) (by rw [List.getElem?_map, hj]; rfl) 0 (by decide)
        have h1 : (TT 9).cells = 1 := rfl
        rw [h1, Nat.mul_one, Nat.add_zero] at f2
        rw [f2]
        have f5 := f4 (.str (S y)) rfl
        generalize F j 0 = q at f5 ⊢
        cases f5; rfl) (by
      obtain ⟨y, hy⟩ : ∃ y, ls[0]? = some y := ⟨_, List.getElem?_eq_getElem hpos⟩
      obtain ⟨f1, f2, f3, f4⟩ := hF 0 (strC y) (by rw [List.getElem?_map, hy]; rfl) 0 (by decide)
      exact cell_lt f2) (by rw [List.length_map]; omega) (by rw [List.length_map]; exact hc) (by rw [e, S_list]; omega)
    rw [e, S_list, List.length_map] at h
    rw [List.length_map]
    exact h.mono fun e w' ⟨h1, h2⟩ => ⟨h1, h2⟩
theorem joinT_len : ∀ (ls : List (List UInt8)) (sep : List UInt8) (n : Nat), (∀ x ∈ ls, x.length ≤ n) → (Lib.joinTail sep ls).length ≤ ls.length * (sep.length + n)
  | [], _, _, _ => by simp [Lib.joinTail]
  | x :: r, sep, n, h => by
    have h1 := joinT_len r sep n (fun y hy => h y (by simp [hy]))
    have h2 := h x (by simp)
    have e : Lib.joinTail sep (x :: r) = sep ++ x ++ Lib.joinTail sep r := by simp [Lib.joinTail]
    rw [e, List.length_append, List.length_append, List.length_cons, Nat.add_mul, Nat.one_mul]; omega
theorem join_len (ls : List (List UInt8)) (sep : List UInt8) (n : Nat) (h : ∀ x ∈ ls, x.length ≤ n) : (Lib.join ls sep).length ≤ ls.length * (sep.length + n) := by
  cases ls with
  | nil => simp [Lib.join_nil]
  | cons x r =>
    rw [Lib.join_cons, List.length_append, List.length_cons, Nat.add_mul, Nat.one_mul]
    have h1 := joinT_len r sep n (fun y hy => h y (by simp [hy]))
    have h2 := h x (by simp)
    omega
structure JI (l : List Tok) where
  k : Nat
  hk : k ≤ l.length
def textsL (l : List Tok) : List (List UInt8) := l.map Tok.text
theorem lexjoin_ok (l : List Tok) (G : Glob) (h0 : l ≠ []) (hl : l.length ≤ 2048) (hx : ∀ t ∈ l, t.text.length ≤ 16) : CallOk Try.prog TT 63 [.slc 92 (l.map Tok.av)] G (fun v G' => v = .str (S (Lib.join (textsL l) [32])) ∧ G' = G) := by
  have hj := sjoin_ok (textsL l) [32] G (by unfold textsL; rw [List.length_map]; omega) (by
    have h1 := join_len (textsL l) [32] 16 (fun x hx' => by unfold textsL at hx'; obtain ⟨t, ht, rfl⟩ := List.mem_map.1 hx'; exact hx t ht)
    have : (textsL l).length = l.length := List.length_map _
    rw [this] at h1
    simp only [List.length_singleton] at h1
    omega) (by unfold textsL; simp [h0])
  refine call_sem tt_ok Try.func63 rfl (by kernel_rfl) Try.ntmps63 Try.results63 ?_; conv => whnf
  repeat' (first | ((first | refine Sem.reg tt_ok ?_ | refine Sem.condS ?_ | refine Sem.regL tt_ok ?_ | refine Sem.skip tt_ok ?_ | refine Sem.exit tt_ok ?_ | refine Sem.ret tt_ok ?_ | refine BS_t (by assumption) ?_ | refine BS_f (by assumption) ?_ | refine (nthK_iff _ _).2 ⟨_, (by assumption), ?_⟩ | refine ⟨_, ⟨(by omega), (by assumption)⟩, ?_⟩ | refine And.intro (by first | decide | omega) ?_ | fail); conv => whnf) | refine Sem.seqS ?_ | refine Sem.block ?_ | fail)
  refine Sem.loop (ι := JI l) (fun x => ⟨(.slc 92 (l.map Tok.av) :: .top :: .str ⟨#[]⟩ :: .own 0 9 ((textsL (l.take x.k)).map strC) :: .top :: .top :: .slc 92 (l.map Tok.av) :: .int .i64 (l.length : Nat) :: .int .i64 (x.k : Nat) :: .top :: .top :: .top :: .top :: .top :: .top :: .top :: .top :: .top :: .top :: .top :: []), [], 0, 1, G⟩) (fun x => l.length - x.k) ⟨0, Nat.zero_le _⟩ ?_ (fun x => ?_)
  · refine weak_by [none] ?_; (conv => whnf); repeat (first | (refine And.intro rfl ?_; conv => whnf) | fail)
    refine And.intro (by rw [List.length_map]) ?_
    (conv => whnf); repeat (first | (refine And.intro rfl ?_; conv => whnf) | fail)
    exact ⟨fun i y hy => hy, rfl, Nat.le_refl _, rfl, rfl⟩
  have hk := x.hk
  generalize x.k = k at hk ⊢
  repeat' (first | ((first | refine Sem.reg tt_ok ?_ | refine Sem.condS ?_ | refine Sem.regL tt_ok ?_ | refine Sem.skip tt_ok ?_ | refine Sem.exit tt_ok ?_ | refine Sem.ret tt_ok ?_ | refine BS_t (by assumption) ?_ | refine BS_f (by assumption) ?_ | refine (nthK_iff _ _).2 ⟨_, (by assumption), ?_⟩ | refine ⟨_, ⟨(by omega), (by assumption)⟩, ?_⟩ | refine And.intro (by first | decide | omega) ?_ | fail); conv => whnf) | refine Sem.seqS ?_ | refine Sem.block ?_ | fail)
  by_cases hlt : k < l.length
  · have c0 : decide (((k : Nat) : Int) < ((l.length : Nat) : Int)) = true := by simp; omega
    obtain ⟨u, hu⟩ : ∃ u, l[k]? = some u := ⟨_, List.getElem?_eq_getElem hlt⟩
    have hlu : (l.map Tok.av)[((k : Nat) : Int).toNat]? = some u.av := by rw [Int.toNat_natCast, List.getElem?_map, hu]; rfl
    have ht : l.take (k + 1) = l.take k ++ [u] := by rw [List.take_add_one, hu]; rfl
    repeat' (first | ((first | refine Sem.reg tt_ok ?_ | refine Sem.condS ?_ | refine Sem.regL tt_ok ?_ | refine Sem.skip tt_ok ?_ | refine Sem.exit tt_ok ?_ | refine Sem.ret tt_ok ?_ | refine BS_t (by assumption) ?_ | refine BS_f (by assumption) ?_ | refine (nthK_iff _ _).2 ⟨_, (by assumption), ?_⟩ | refine ⟨_, ⟨(by omega), (by assumption)⟩, ?_⟩ | refine And.intro (by first | decide | omega) ?_ | fail); conv => whnf) | refine Sem.seqS ?_ | refine Sem.block ?_ | fail)
    refine And.intro (app_le (by simp only [textsL, List.length_map, List.length_take, List.length_cons, List.length_nil]; omega) (by decide)) ?_; conv => whnf
    repeat' (first | ((first | refine Sem.reg tt_ok ?_ | refine Sem.condS ?_ | refine Sem.regL tt_ok ?_ | refine Sem.skip tt_ok ?_ | refine Sem.exit tt_ok ?_ | refine Sem.ret tt_ok ?_ | refine BS_t (by assumption) ?_ | refine BS_f (by assumption) ?_ | refine (nthK_iff _ _).2 ⟨_, (by assumption), ?_⟩ | refine ⟨_, ⟨(by omega), (by assumption)⟩, ?_⟩ | refine And.intro (by first | decide | omega) ?_ | fail); conv => whnf) | refine Sem.seqS ?_ | refine Sem.block ?_ | fail)
    refine ⟨⟨k + 1, hlt⟩, by show l.length - (k + 1) < l.length - k; omega, ?_⟩
    refine weak_by [some 0] ?_; (conv => whnf); repeat (first | (refine And.intro rfl ?_; conv => whnf) | fail)
    refine And.intro (by rw [ht]; simp [textsL, strC]) ?_
    (conv => whnf); repeat (first | (refine And.intro rfl ?_; conv => whnf) | fail)
    refine And.intro (show _ = (((k + 1 : Nat)) : Int) from by rw [IntWalk.i64_in _ (by omega)]; omega) ?_
    (conv => whnf); repeat (first | (refine And.intro rfl ?_; conv => whnf) | fail)
    exact ⟨fun i y hy => hy, rfl, by omega, rfl, rfl⟩
  · have c0 : decide (((k : Nat) : Int) < ((l.length : Nat) : Int)) = false := by simp; omega
    rw [List.take_of_length_le (by omega)]
    repeat' (first | ((first | refine Sem.reg tt_ok ?_ | refine Sem.condS ?_ | refine Sem.regL tt_ok ?_ | refine Sem.skip tt_ok ?_ | refine Sem.exit tt_ok ?_ | refine Sem.ret tt_ok ?_ | refine BS_t (by assumption) ?_ | refine BS_f (by assumption) ?_ | refine (nthK_iff _ _).2 ⟨_, (by assumption), ?_⟩ | refine ⟨_, ⟨(by omega), (by assumption)⟩, ?_⟩ | refine And.intro (by first | decide | omega) ?_ | fail); conv => whnf) | refine Sem.seqS ?_ | refine Sem.block ?_ | fail)
    refine hj.on ?_; conv => whnf
    repeat' (first | ((first | refine Sem.reg tt_ok ?_ | refine Sem.condS ?_ | refine Sem.regL tt_ok ?_ | refine Sem.skip tt_ok ?_ | refine Sem.exit tt_ok ?_ | refine Sem.ret tt_ok ?_ | refine BS_t (by assumption) ?_ | refine BS_f (by assumption) ?_ | refine (nthK_iff _ _).2 ⟨_, (by assumption), ?_⟩ | refine ⟨_, ⟨(by omega), (by assumption)⟩, ?_⟩ | refine And.intro (by first | decide | omega) ?_ | fail); conv => whnf) | refine Sem.seqS ?_ | refine Sem.block ?_ | fail)
    exact ⟨_, fun _ _ h => h, rfl, rfl⟩
theorem join_blanks : ∀ (m : List Tok) (n a : Nat), Lib.join (textsL (m ++ [⟨4, [], n, a⟩])) [32] = blanks m
  | [], n, a => by simp [textsL, Lib.join_one, blanks]
  | t :: m, n, a => by
    have ih := join_blanks m n a
    have e : textsL (t :: m ++ [⟨4, [], n, a⟩]) = t.text :: textsL (m ++ [⟨4, [], n, a⟩]) := rfl
    rw [e, Lib.join_cons]
    have e2 : Lib.joinTail [32] (textsL (m ++ [⟨4, [], n, a⟩])) = 32 :: Lib.join (textsL (m ++ [⟨4, [], n, a⟩])) [32] := by
      cases hq : textsL (m ++ [⟨4, [], n, a⟩]) with
      | nil => simp [textsL] at hq
      | cons x r => rw [Lib.join_cons]; simp [Lib.joinTail]
    rw [e2, ih]
    simp [blanks]
end Go.Proofs.Ytmmmaekaoanceaa
