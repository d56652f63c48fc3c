/- The words of the language: strings.Contains, parse.Word. -/
import Derived.Test.YtofhakbmmgpgdaaPrsA
import Derived.Shelf.Strings.Search3
import Derived.Lib.IndexAny
set_option maxRecDepth 100000
set_option linter.unusedSimpArgs false
namespace Go.Proofs.Ytofhakbmmgpgdaa
open Go Go.RowKit Go.Proofs Go.Shelf

def lays144_ren : Go.Shelf.Ren := ⟨fun | 143 => 17 | 144 => 10 | 217 => 39 | 219 => 31 | 224 => 41 | 225 => 40 | 266 => 48 | 267 => 42 | 314 => 49 | n => n, fun | 3 => 3 | 4 => 4 | 5 => 5 | 9 => 9 | 46 => 72 | 51 => 75 | 146 => 76 | n => n, fun | 1 => 0 | n => n⟩
theorem lays144 : Go.Proofs.Lays.n144 Try.prog lays144_ren := {
  mixed := by kernel_rfl
  f143 := Try.func17.trans (congrArg some (by kernel_rfl))
  f144 := Try.func10.trans (congrArg some (by kernel_rfl))
  f217 := Try.func39.trans (congrArg some (by kernel_rfl))
  f219 := Try.func31.trans (congrArg some (by kernel_rfl))
  f224 := Try.func41.trans (congrArg some (by kernel_rfl))
  f225 := Try.func40.trans (congrArg some (by kernel_rfl))
  f266 := Try.func48.trans (congrArg some (by kernel_rfl))
  f267 := Try.func42.trans (congrArg some (by kernel_rfl))
  f314 := Try.func49.trans (congrArg some (by kernel_rfl))
  t3 := Try.underlying3
  a3 := Try.isAgg3
  z3 := Try.sizeOf3
  v3 := Try.zeroValue3
  t4 := Try.underlying4
  a4 := Try.isAgg4
  z4 := Try.sizeOf4
  v4 := Try.zeroValue4
  t5 := Try.underlying5
  a5 := Try.isAgg5
  z5 := Try.sizeOf5
  v5 := Try.zeroValue5
  t9 := Try.underlying9
  a9 := Try.isAgg9
  z9 := Try.sizeOf9
  v9 := Try.zeroValue9
  t46 := Try.underlying72
  a46 := Try.isAgg72
  z46 := Try.sizeOf72
  v46 := Try.zeroValue72
  t51 := Try.underlying75
  a51 := Try.isAgg75
  z51 := Try.sizeOf75
  v51 := Try.zeroValue75
  t146 := Try.underlying76
  a146 := Try.isAgg76
  z146 := Try.sizeOf76
  v146 := Try.zeroValue76
  g1 := by kernel_rfl
}
/-- the library's variable is there -/
def MaxOk (G : Glob) : Prop := ∃ b o m, G b = some (.pin (lays144_ren.g 1) o) ∧ ∀ w : World, w.heap[lays144_ren.g 1]? = some o → w.cell? ⟨lays144_ren.g 1, 0, none⟩ = some (.int .i64 m)
theorem MaxOk.set {G : Glob} (h : MaxOk G) {b : Nat} {x : GB} (hb : G b = some x) (hx : ∀ k o, x ≠ .pin k o) (y : GB) : MaxOk (setG G b y) := by
  obtain ⟨c, o, m, h1, h2⟩ := h
  refine ⟨c, o, m, ?_, h2⟩
  rw [setG_ne _ _ (by rintro rfl; rw [hb, Option.some.injEq] at h1; exact hx _ _ h1)]
  exact h1
theorem MaxOk.rm {G : Glob} (h : MaxOk G) {b : Nat} {x : GB} (hb : G b = some x) (hx : ∀ k o, x ≠ .pin k o) : MaxOk (rmG G b) := by
  obtain ⟨c, o, m, h1, h2⟩ := h
  refine ⟨c, o, m, ?_, h2⟩
  rw [rmG_ne _ (by rintro rfl; rw [hb, Option.some.injEq] at h1; exact hx _ _ h1)]
  exact h1
theorem MaxOk.new {G : Glob} (h : MaxOk G) {b : Nat} (hb : G b = none) (y : GB) : MaxOk (setG G b y) := by
  obtain ⟨c, o, m, h1, h2⟩ := h
  refine ⟨c, o, m, ?_, h2⟩
  rw [setG_ne _ _ (by rintro rfl; rw [hb] at h1; cases h1)]
  exact h1
theorem contains_ok (s sub : ByteArray) (hs : s.size < 4294967281) {G : Glob} (hG : MaxOk G) : CallOk Try.prog TT 10 [.str s, .str sub] G (fun v G' => v = .bool (Lib.contains s.data.toList sub.data.toList) ∧ G' = G) := by
  refine ⟨⟨_, Try.func10, by decide, rfl⟩, fun g us w hr hl hd => ?_⟩
  obtain ⟨b, o, m, h1, h2⟩ := hG
  obtain ⟨us⟩ := us
  match us, hl with
  | [u0, u1], _ =>
    cases hd 0 _ u0 rfl rfl
    cases hd 1 _ u1 rfl rfl
    obtain ⟨_, _, h3, h4⟩ := hr b _ h1
    refine (Any.strings_Contains lays144 s sub m w hs (h2 w h4)).mono fun e w' hh => ?_
    obtain ⟨rfl, rfl⟩ := hh
    exact ⟨_, g, G, _, rfl, ⟨rfl, rfl⟩, hr, Ext.refl _ _, .bool _⟩
theorem sindexbyte_ok (s : ByteArray) (c : Int) (G : Glob) : CallOk Try.prog TT 39 [.str s, .int .u8 c] G (fun v G' => v = .int .i64 (Lib.indexByte s.data.toList c.toNat.toUInt8) ∧ G' = G) := by
  refine .still ⟨_, Try.func39, by decide, rfl⟩ fun g us w hl hd => ?_
  obtain ⟨us⟩ := us
  match us, hl with
  | [u0, u1], _ =>
    cases hd 0 _ u0 rfl rfl
    cases hd 1 _ u1 rfl rfl
    exact ⟨_, .int _ _, Any.stringslite_IndexByte { lays144 with } s c w⟩
theorem sindex1_ok (s : List UInt8) (G : Glob) : CallOk Try.prog TT 31 [.str (S s), .str (S [32])] G (fun v G' => (∃ n, v = .int .i64 n ∧ decide (n ≥ 0) = decide (32 ∈ s)) ∧ G' = G) := by
  have hc : decide (Lib.indexByte s 32 ≥ 0) = decide (32 ∈ s) := by
    have := Lib.contains_iff_indexByte s 32
    rw [show decide (Lib.indexByte s 32 ≥ 0) = decide (0 ≤ Lib.indexByte s 32) from rfl, ← this, Bool.eq_iff_iff]; simp
  have hix := sindexbyte_ok (S s) 32 G
  rw [S_list] at hix
  have e1 := seq_S [32] s
  refine call_sem tt_ok Try.func31 rfl (by kernel_rfl) Try.ntmps31 Try.results31 ?_; conv => whnf
  repeat' (first | ((first | refine Sem.reg tt_ok ?_ | refine Sem.condS ?_ | refine Sem.regL tt_ok ?_ | refine Sem.skip tt_ok ?_ | refine Sem.exit tt_ok ?_ | refine Sem.ret tt_ok ?_ | refine BS_t (by assumption) ?_ | refine BS_f (by assumption) ?_ | refine atG (by repeat (first | assumption | exact setG_same _ _ _ | refine Eq.trans (setG_ne _ _ (by first | assumption | exact Ne.symm (by assumption))) ?_)) ?_ | refine (nthK_iff _ _).2 ⟨_, (by assumption), ?_⟩ | refine ⟨_, ⟨(by omega), (by assumption)⟩, ?_⟩ | refine And.intro (by first | decide | omega) ?_ | fail); conv => whnf) | refine Sem.seqS ?_ | refine Sem.block ?_ | fail)
  by_cases h : s = [32]
  · have t1 : ((S [32]).toList == (S s).toList) = true := by rw [e1]; simp [h]
    repeat' (first | ((first | refine Sem.reg tt_ok ?_ | refine Sem.condS ?_ | refine Sem.regL tt_ok ?_ | refine Sem.skip tt_ok ?_ | refine Sem.exit tt_ok ?_ | refine Sem.ret tt_ok ?_ | refine BS_t (by assumption) ?_ | refine BS_f (by assumption) ?_ | refine atG (by repeat (first | assumption | exact setG_same _ _ _ | refine Eq.trans (setG_ne _ _ (by first | assumption | exact Ne.symm (by assumption))) ?_)) ?_ | refine (nthK_iff _ _).2 ⟨_, (by assumption), ?_⟩ | refine ⟨_, ⟨(by omega), (by assumption)⟩, ?_⟩ | refine And.intro (by first | decide | omega) ?_ | fail); conv => whnf) | refine Sem.seqS ?_ | refine Sem.block ?_ | fail)
    exact ⟨_, fun _ _ h => h, ⟨_, rfl, by simp [h]⟩, rfl⟩
  · have t1 : ((S [32]).toList == (S s).toList) = false := by rw [e1]; simp [Ne.symm h]
    repeat' (first | ((first | refine Sem.reg tt_ok ?_ | refine Sem.condS ?_ | refine Sem.regL tt_ok ?_ | refine Sem.skip tt_ok ?_ | refine Sem.exit tt_ok ?_ | refine Sem.ret tt_ok ?_ | refine BS_t (by assumption) ?_ | refine BS_f (by assumption) ?_ | refine atG (by repeat (first | assumption | exact setG_same _ _ _ | refine Eq.trans (setG_ne _ _ (by first | assumption | exact Ne.symm (by assumption))) ?_)) ?_ | refine (nthK_iff _ _).2 ⟨_, (by assumption), ?_⟩ | refine ⟨_, ⟨(by omega), (by assumption)⟩, ?_⟩ | refine And.intro (by first | decide | omega) ?_ | fail); conv => whnf) | refine Sem.seqS ?_ | refine Sem.block ?_ | fail)
    refine hix.on ?_; conv => whnf
    repeat' (first | ((first | refine Sem.reg tt_ok ?_ | refine Sem.condS ?_ | refine Sem.regL tt_ok ?_ | refine Sem.skip tt_ok ?_ | refine Sem.exit tt_ok ?_ | refine Sem.ret tt_ok ?_ | refine BS_t (by assumption) ?_ | refine BS_f (by assumption) ?_ | refine atG (by repeat (first | assumption | exact setG_same _ _ _ | refine Eq.trans (setG_ne _ _ (by first | assumption | exact Ne.symm (by assumption))) ?_)) ?_ | refine (nthK_iff _ _).2 ⟨_, (by assumption), ?_⟩ | refine ⟨_, ⟨(by omega), (by assumption)⟩, ?_⟩ | refine And.intro (by first | decide | omega) ?_ | fail); conv => whnf) | refine Sem.seqS ?_ | refine Sem.block ?_ | fail)
    exact ⟨_, fun _ _ h => h, ⟨_, rfl, hc⟩, rfl⟩
theorem index1_ok (s : List UInt8) (G : Glob) : CallOk Try.prog TT 17 [.str (S s), .str (S [32])] G (fun v G' => (∃ n, v = .int .i64 n ∧ decide (n ≥ 0) = decide (32 ∈ s)) ∧ G' = G) := by
  refine call_sem tt_ok Try.func17 rfl (by kernel_rfl) Try.ntmps17 Try.results17 ?_; conv => whnf
  repeat' (first | ((first | refine Sem.reg tt_ok ?_ | refine Sem.condS ?_ | refine Sem.regL tt_ok ?_ | refine Sem.skip tt_ok ?_ | refine Sem.exit tt_ok ?_ | refine Sem.ret tt_ok ?_ | refine BS_t (by assumption) ?_ | refine BS_f (by assumption) ?_ | refine atG (by repeat (first | assumption | exact setG_same _ _ _ | refine Eq.trans (setG_ne _ _ (by first | assumption | exact Ne.symm (by assumption))) ?_)) ?_ | refine (nthK_iff _ _).2 ⟨_, (by assumption), ?_⟩ | refine ⟨_, ⟨(by omega), (by assumption)⟩, ?_⟩ | refine And.intro (by first | decide | omega) ?_ | fail); conv => whnf) | refine Sem.seqS ?_ | refine Sem.block ?_ | fail)
  refine (sindex1_ok s G).mono fun v G1 hv => ?_
  obtain ⟨⟨n, rfl, hn⟩, rfl⟩ := hv
  conv => whnf
  repeat' (first | ((first | refine Sem.reg tt_ok ?_ | refine Sem.condS ?_ | refine Sem.regL tt_ok ?_ | refine Sem.skip tt_ok ?_ | refine Sem.exit tt_ok ?_ | refine Sem.ret tt_ok ?_ | refine BS_t (by assumption) ?_ | refine BS_f (by assumption) ?_ | refine atG (by repeat (first | assumption | exact setG_same _ _ _ | refine Eq.trans (setG_ne _ _ (by first | assumption | exact Ne.symm (by assumption))) ?_)) ?_ | refine (nthK_iff _ _).2 ⟨_, (by assumption), ?_⟩ | refine ⟨_, ⟨(by omega), (by assumption)⟩, ?_⟩ | refine And.intro (by first | decide | omega) ?_ | fail); conv => whnf) | refine Sem.seqS ?_ | refine Sem.block ?_ | fail)
  exact ⟨_, fun _ _ h => h, ⟨_, rfl, hn⟩, rfl⟩
theorem contains1_ok (s : List UInt8) (G : Glob) : CallOk Try.prog TT 10 [.str (S s), .str (S [32])] G (fun v G' => v = .bool (decide (32 ∈ s)) ∧ G' = G) := by
  refine call_sem tt_ok Try.func10 rfl (by kernel_rfl) Try.ntmps10 Try.results10 ?_; conv => whnf
  repeat' (first | ((first | refine Sem.reg tt_ok ?_ | refine Sem.condS ?_ | refine Sem.regL tt_ok ?_ | refine Sem.skip tt_ok ?_ | refine Sem.exit tt_ok ?_ | refine Sem.ret tt_ok ?_ | refine BS_t (by assumption) ?_ | refine BS_f (by assumption) ?_ | refine atG (by repeat (first | assumption | exact setG_same _ _ _ | refine Eq.trans (setG_ne _ _ (by first | assumption | exact Ne.symm (by assumption))) ?_)) ?_ | refine (nthK_iff _ _).2 ⟨_, (by assumption), ?_⟩ | refine ⟨_, ⟨(by omega), (by assumption)⟩, ?_⟩ | refine And.intro (by first | decide | omega) ?_ | fail); conv => whnf) | refine Sem.seqS ?_ | refine Sem.block ?_ | fail)
  refine (index1_ok s G).mono fun v G1 hv => ?_
  obtain ⟨⟨n, rfl, hn⟩, rfl⟩ := hv
  conv => whnf
  repeat' (first | ((first | refine Sem.reg tt_ok ?_ | refine Sem.condS ?_ | refine Sem.regL tt_ok ?_ | refine Sem.skip tt_ok ?_ | refine Sem.exit tt_ok ?_ | refine Sem.ret tt_ok ?_ | refine BS_t (by assumption) ?_ | refine BS_f (by assumption) ?_ | refine atG (by repeat (first | assumption | exact setG_same _ _ _ | refine Eq.trans (setG_ne _ _ (by first | assumption | exact Ne.symm (by assumption))) ?_)) ?_ | refine (nthK_iff _ _).2 ⟨_, (by assumption), ?_⟩ | refine ⟨_, ⟨(by omega), (by assumption)⟩, ?_⟩ | refine And.intro (by first | decide | omega) ?_ | fail); conv => whnf) | refine Sem.seqS ?_ | refine Sem.block ?_ | fail)
  exact ⟨_, fun _ _ h => h, by rw [hn], rfl⟩
/-- words between blanks -/
def textW (ws : List (List UInt8)) : List UInt8 := 32 :: ws.flatMap fun w => w ++ [32]
theorem pre_word : ∀ (s w rest : List UInt8), 32 ∉ s → 32 ∉ w → (s ++ [32]).isPrefixOf (w ++ 32 :: rest) = decide (s = w)
  | [], [], rest, _, _ => by simp
  | [], x :: w, rest, _, h => by
    have : ¬ (32 : UInt8) = x := fun e => h (by simp [e])
    rw [List.nil_append, List.cons_append, List.isPrefixOf_cons_cons, beq_false_of_ne this]
    simp
  | x :: s, [], rest, h, _ => by
    have : ¬ x = (32 : UInt8) := fun e => h (by simp [e])
    rw [List.nil_append, List.cons_append, List.isPrefixOf_cons_cons, beq_false_of_ne this]
    simp
  | x :: s, y :: w, rest, h1, h2 => by
    have ih := pre_word s w rest (fun h => h1 (by simp [h])) (fun h => h2 (by simp [h]))
    rw [List.cons_append, List.cons_append, List.isPrefixOf_cons_cons, ih, Bool.eq_iff_iff]
    simp
theorem contains_cons (b : UInt8) (l sub : List UInt8) : Lib.contains (b :: l) sub = (sub.isPrefixOf (b :: l) || Lib.contains l sub) := by
  have hge := Lib.index_ge l sub
  unfold Lib.contains
  rw [Lib.index]
  cases hp : sub.isPrefixOf (b :: l) with
  | true => simp
  | false =>
    simp only [Bool.false_eq_true, if_false, Bool.false_or]
    by_cases h : Lib.index l sub = -1
    · simp [h]
    · have h' : (Lib.index l sub == -1) = false := by simpa using h
      rw [h', if_neg (by decide), Bool.eq_iff_iff]
      simp only [decide_eq_true_eq]
      omega
theorem contains_skip : ∀ (w l t : List UInt8), 32 ∉ w → Lib.contains (w ++ l) (32 :: t) = Lib.contains l (32 :: t)
  | [], l, t, _ => rfl
  | x :: w, l, t, h => by
    have hx : ¬ (32 : UInt8) = x := fun e => h (by simp [e])
    rw [List.cons_append, contains_cons, contains_skip w l t (fun h' => h (by simp [h']))]
    simp [hx]
theorem contains_words (s : List UInt8) (h : 32 ∉ s) : ∀ (ws : List (List UInt8)), (∀ w ∈ ws, 32 ∉ w) → Lib.contains (textW ws) (32 :: (s ++ [32])) = decide (s ∈ ws)
  | [], _ => by
    have : textW [] = [32] := rfl
    rw [this, contains_cons]
    have e : Lib.contains [] (32 :: (s ++ [32])) = false := rfl
    rw [e]
    cases s <;> simp
  | w :: ws, hw => by
    have e : textW (w :: ws) = 32 :: (w ++ textW ws) := by simp [textW]
    have e2 : textW ws = 32 :: ws.flatMap fun w => w ++ [32] := rfl
    have h1 := hw w (by simp)
    rw [e, contains_cons, contains_skip w _ _ h1, contains_words s h ws (fun x hx => hw x (by simp [hx])), List.isPrefixOf_cons_cons, e2, pre_word s w _ h h1, Bool.eq_iff_iff]
    simp
theorem words_no : ∀ w ∈ wordsL, (32 : UInt8) ∉ w := by decide
theorem pword_ok (s : List UInt8) (hs : s.length ≤ 1000000000000000) {G : Glob} (hG : MaxOk G) : CallOk Try.prog TT 5 [.str (S s)] G (fun v G' => v = .bool (wordB s) ∧ G' = G) := by
  have hsz := S_size s
  have e1 := seq_S s []
  have hc1 := contains1_ok s G
  by_cases h0 : s = []
  · have t1 : (!((S s).toList == (ByteArray.mk #[]).toList)) = false := by rw [show ByteArray.mk #[] = S [] from rfl, e1]; simp [h0]
    have hw : wordB s = false := by rw [h0]; decide
    rw [hw]
    refine call_sem tt_ok Try.func5 rfl (by kernel_rfl) Try.ntmps5 Try.results5 ?_; conv => whnf
    repeat' (first | ((first | refine Sem.reg tt_ok ?_ | refine Sem.condS ?_ | refine Sem.regL tt_ok ?_ | refine Sem.skip tt_ok ?_ | refine Sem.exit tt_ok ?_ | refine Sem.ret tt_ok ?_ | refine BS_t (by assumption) ?_ | refine BS_f (by assumption) ?_ | refine atG (by repeat (first | assumption | exact setG_same _ _ _ | refine Eq.trans (setG_ne _ _ (by first | assumption | exact Ne.symm (by assumption))) ?_)) ?_ | refine (nthK_iff _ _).2 ⟨_, (by assumption), ?_⟩ | refine ⟨_, ⟨(by omega), (by assumption)⟩, ?_⟩ | refine And.intro (by first | decide | omega) ?_ | fail); conv => whnf) | refine Sem.seqS ?_ | refine Sem.block ?_ | fail)
    exact ⟨_, fun _ _ h => h, rfl, rfl⟩
  · have t1 : (!((S s).toList == (ByteArray.mk #[]).toList)) = true := by rw [show ByteArray.mk #[] = S [] from rfl, e1]; simp [h0]
    by_cases h1 : 32 ∈ s
    · have hw : wordB s = false := by
        unfold wordB
        rw [decide_eq_false_iff_not]
        exact fun h => words_no s h h1
      rw [hw]
      rw [show decide (32 ∈ s) = true by simpa using h1] at hc1
      refine call_sem tt_ok Try.func5 rfl (by kernel_rfl) Try.ntmps5 Try.results5 ?_; conv => whnf
      repeat' (first | ((first | refine Sem.reg tt_ok ?_ | refine Sem.condS ?_ | refine Sem.regL tt_ok ?_ | refine Sem.skip tt_ok ?_ | refine Sem.exit tt_ok ?_ | refine Sem.ret tt_ok ?_ | refine BS_t (by assumption) ?_ | refine BS_f (by assumption) ?_ | refine atG (by repeat (first | assumption | exact setG_same _ _ _ | refine Eq.trans (setG_ne _ _ (by first | assumption | exact Ne.symm (by assumption))) ?_)) ?_ | refine (nthK_iff _ _).2 ⟨_, (by assumption), ?_⟩ | refine ⟨_, ⟨(by omega), (by assumption)⟩, ?_⟩ | refine And.intro (by first | decide | omega) ?_ | fail); conv => whnf) | refine Sem.seqS ?_ | refine Sem.block ?_ | fail)
      refine hc1.on ?_; conv => whnf
      repeat' (first | ((first | refine Sem.reg tt_ok ?_ | refine Sem.condS ?_ | refine Sem.regL tt_ok ?_ | refine Sem.skip tt_ok ?_ | refine Sem.exit tt_ok ?_ | refine Sem.ret tt_ok ?_ | refine BS_t (by assumption) ?_ | refine BS_f (by assumption) ?_ | refine atG (by repeat (first | assumption | exact setG_same _ _ _ | refine Eq.trans (setG_ne _ _ (by first | assumption | exact Ne.symm (by assumption))) ?_)) ?_ | refine (nthK_iff _ _).2 ⟨_, (by assumption), ?_⟩ | refine ⟨_, ⟨(by omega), (by assumption)⟩, ?_⟩ | refine And.intro (by first | decide | omega) ?_ | fail); conv => whnf) | refine Sem.seqS ?_ | refine Sem.block ?_ | fail)
      exact ⟨_, fun _ _ h => h, rfl, rfl⟩
    · rw [show decide (32 ∈ s) = false by simpa using h1] at hc1
      have e2 : (S [32]).size = 1 := rfl
      have hc2 := contains_ok (S (textW wordsL)) (S [32] ++ S s ++ S [32]) (by decide) hG
      have e3 : Lib.contains (S (textW wordsL)).data.toList (S [32] ++ S s ++ S [32]).data.toList = decide (s ∈ wordsL) := by
        rw [S_append, S_append, S_list, S_list, show [32] ++ s ++ [32] = 32 :: (s ++ [32]) by simp, contains_words s h1 _ words_no]
      rw [e3] at hc2
      unfold wordB
      refine call_sem tt_ok Try.func5 rfl (by kernel_rfl) Try.ntmps5 Try.results5 ?_; conv => whnf
      repeat' (first | ((first | refine Sem.reg tt_ok ?_ | refine Sem.condS ?_ | refine Sem.regL tt_ok ?_ | refine Sem.skip tt_ok ?_ | refine Sem.exit tt_ok ?_ | refine Sem.ret tt_ok ?_ | refine BS_t (by assumption) ?_ | refine BS_f (by assumption) ?_ | refine atG (by repeat (first | assumption | exact setG_same _ _ _ | refine Eq.trans (setG_ne _ _ (by first | assumption | exact Ne.symm (by assumption))) ?_)) ?_ | refine (nthK_iff _ _).2 ⟨_, (by assumption), ?_⟩ | refine ⟨_, ⟨(by omega), (by assumption)⟩, ?_⟩ | refine And.intro (by first | decide | omega) ?_ | fail); conv => whnf) | refine Sem.seqS ?_ | refine Sem.block ?_ | fail)
      refine hc1.on ?_; conv => whnf
      repeat' (first | ((first | refine Sem.reg tt_ok ?_ | refine Sem.condS ?_ | refine Sem.regL tt_ok ?_ | refine Sem.skip tt_ok ?_ | refine Sem.exit tt_ok ?_ | refine Sem.ret tt_ok ?_ | refine BS_t (by assumption) ?_ | refine BS_f (by assumption) ?_ | refine atG (by repeat (first | assumption | exact setG_same _ _ _ | refine Eq.trans (setG_ne _ _ (by first | assumption | exact Ne.symm (by assumption))) ?_)) ?_ | refine (nthK_iff _ _).2 ⟨_, (by assumption), ?_⟩ | refine ⟨_, ⟨(by omega), (by assumption)⟩, ?_⟩ | refine And.intro (by first | decide | omega) ?_ | fail); conv => whnf) | refine Sem.seqS ?_ | refine Sem.block ?_ | fail)
      refine And.intro (by rw [show ByteArray.mk #[32] = S [32] from rfl]; show ((1 + (S s).size : Nat) : Int) ≤ IntKind.i64.max; have : IntKind.i64.max = 9223372036854775807 := rfl; omega) ?_
      conv => whnf
      refine And.intro (by rw [show ByteArray.mk #[32] = S [32] from rfl, ByteArray.size_append, e2]; have : IntKind.i64.max = 9223372036854775807 := rfl; omega) ?_
      conv => whnf
      refine hc2.on ?_; conv => whnf
      repeat' (first | ((first | refine Sem.reg tt_ok ?_ | refine Sem.condS ?_ | refine Sem.regL tt_ok ?_ | refine Sem.skip tt_ok ?_ | refine Sem.exit tt_ok ?_ | refine Sem.ret tt_ok ?_ | refine BS_t (by assumption) ?_ | refine BS_f (by assumption) ?_ | refine atG (by repeat (first | assumption | exact setG_same _ _ _ | refine Eq.trans (setG_ne _ _ (by first | assumption | exact Ne.symm (by assumption))) ?_)) ?_ | refine (nthK_iff _ _).2 ⟨_, (by assumption), ?_⟩ | refine ⟨_, ⟨(by omega), (by assumption)⟩, ?_⟩ | refine And.intro (by first | decide | omega) ?_ | fail); conv => whnf) | refine Sem.seqS ?_ | refine Sem.block ?_ | fail)
      exact ⟨_, fun _ _ h => h, rfl, rfl⟩
end Go.Proofs.Ytofhakbmmgpgdaa
