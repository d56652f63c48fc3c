/- The lexer: a word, a number, a note. -/
import Derived.Test.YtofhakbmmgpgdaaLexC
import Derived.Shelf.Strings.Prefix
import Derived.Shelf.Small.Strs
set_option maxRecDepth 100000
set_option linter.unusedSimpArgs false
namespace Go.Proofs.Ytofhakbmmgpgdaa
open Go Go.RowKit Go.Proofs Go.Shelf

def lays99_ren : Go.Shelf.Ren := ⟨fun | 99 => 45 | 206 => 50 | n => n, fun | 3 => 3 | 4 => 4 | 5 => 5 | 9 => 9 | n => n, fun  | n => n⟩
theorem lays99 : Go.Proofs.Lays.n99 Try.prog lays99_ren := {
  mixed := by kernel_rfl
  f99 := Try.func45.trans (congrArg some (by kernel_rfl))
  f206 := Try.func50.trans (congrArg some (by kernel_rfl))
  t3 := Try.underlying3
  a3 := Try.isAgg3
  z3 := Try.sizeOf3
  v3 := Try.zeroValue3
  t4 := Try.underlying4
  a4 := Try.isAgg4
  z4 := Try.sizeOf4
  v4 := Try.zeroValue4
  t9 := Try.underlying9
  a9 := Try.isAgg9
  z9 := Try.sizeOf9
  v9 := Try.zeroValue9
}
def lays137_ren : Go.Shelf.Ren := ⟨fun | 137 => 37 | 217 => 39 | 266 => 48 | n => n, fun | 3 => 3 | 5 => 5 | 9 => 9 | n => n, fun  | n => n⟩
theorem lays137 : Go.Proofs.Lays.n137 Try.prog lays137_ren := {
  mixed := by kernel_rfl
  f137 := Try.func37.trans (congrArg some (by kernel_rfl))
  f217 := Try.func39.trans (congrArg some (by kernel_rfl))
  f266 := Try.func48.trans (congrArg some (by kernel_rfl))
  t3 := Try.underlying3
  a3 := Try.isAgg3
  z3 := Try.sizeOf3
  v3 := Try.zeroValue3
  t5 := Try.underlying5
  a5 := Try.isAgg5
  z5 := Try.sizeOf5
  v5 := Try.zeroValue5
  t9 := Try.underlying9
  a9 := Try.isAgg9
  z9 := Try.sizeOf9
  v9 := Try.zeroValue9
}
theorem CallOk.still {f : FuncId} {args : List AV} {G : Glob} {v : AV} (he : ∃ fn, (Try.prog).funcs[f]? = some fn ∧ (fn.name == "runtime.NumGoroutine") = false ∧ fn.body.isNone = false)
    (h : ∀ (g : Gh) (us : Array Value) (w : World), us.size = args.length → (∀ (i : Nat) (a : AV) (u : Value), args[i]? = some a → us[i]? = some u → Dz TT g w a u) → ∃ u, Dz TT g w v u ∧ Calls Try.prog f us w (fun e w' => e = .returned u ∧ w' = w)) :
    CallOk Try.prog TT f args G (fun x G' => x = v ∧ G' = G) :=
  .of_gives he fun g us w hl hd => by
    obtain ⟨u, h1, h2⟩ := h g us w hl hd
    exact ⟨u, h1, h2.mono fun e w' ⟨h3, h4⟩ => ⟨h3, by rw [h4]; exact Up.refl _⟩⟩
theorem hasprefix_ok (s p : ByteArray) (G : Glob) : CallOk Try.prog TT 45 [.str s, .str p] G (fun v G' => v = .bool (Lib.hasPrefix s.data.toList p.data.toList) ∧ G' = G) := by
  refine .still ⟨_, Try.func45, by decide, rfl⟩ fun g us w hl hd => ?_
  obtain ⟨us⟩ := us
  match us, hl with
  | [u0, u1], _ =>
    cases hd 0 _ u0 rfl rfl
    cases hd 1 _ u1 rfl rfl
    exact ⟨_, .bool _, Any.strings_HasPrefix lays99 s p w⟩
theorem indexbyte_ok (s : ByteArray) (c : Int) (G : Glob) : CallOk Try.prog TT 37 [.str s, .int .u8 c] G (fun v G' => v = .int .i64 (Lib.indexByte s.data.toList c.toNat.toUInt8) ∧ G' = G) := by
  refine .still ⟨_, Try.func37, by decide, rfl⟩ fun g us w hl hd => ?_
  obtain ⟨us⟩ := us
  match us, hl with
  | [u0, u1], _ =>
    cases hd 0 _ u0 rfl rfl
    cases hd 1 _ u1 rfl rfl
    exact ⟨_, .int _ _, Any.strings_IndexByte lays137 s c w⟩
/-- a token as cells -/
def Tok.av (t : Tok) : List AV := tokC t.kind (S t.text) t.num t.at_
/-- what a step of the lexer leaves -/
def stepQ (s : List UInt8) (r : Option Tok × Nat × Nat) (els : List (List AV)) (b : Nat) (G : Glob) (v : AV) (G' : Glob) : Prop :=
  v = .int .i64 (r.2.2 : Nat) ∧ ∃ a', G' = setG G b (lexB (S s) a' (els ++ r.1.toList.map Tok.av)) ∧ (r.2.2 = 0 → a' = (r.2.1 : Nat))
theorem word_ok (s : List UInt8) (a : Nat) (els : List (List AV)) (b : Nat) (G : Glob) (hG : G b = some (lexB (S s) (a : Nat) els)) (hs : s.length ≤ 1048576) (he : els.length ≤ 1048576) {c : UInt8} (hc : s[a]? = some c) (hp : isLet c = true) :
    CallOk Try.prog TT 33 [.gptr b 0] G (stepQ s (oneL s a) els b G) := by
  have ha : a ≤ s.length := Nat.le_of_lt (List.getElem?_eq_some_iff.1 hc).1
  have hw := while_ok (f := 44) inner_ok s a els b G hG ha hs
  have e1 := oneL_of hc
  unfold oneC at e1
  rw [if_pos hp] at e1
  have hsz := S_size (runL isIn s a)
  have hG' := hG
  rw [lexB_at] at hG'
  rw [e1]
  generalize runL isIn s a = r at *
  clear e1
  refine call_sem tt_ok Try.func33 rfl (by kernel_rfl) Try.ntmps33 Try.results33 ?_; conv => whnf
  repeat' (first | ((first | refine Sem.reg tt_ok ?_ | refine Sem.condS ?_ | refine Sem.regL tt_ok ?_ | refine Sem.skip tt_ok ?_ | refine Sem.exit tt_ok ?_ | refine Sem.ret tt_ok ?_ | refine BS_t (by assumption) ?_ | refine BS_f (by assumption) ?_ | refine atG (by repeat (first | assumption | exact setG_same _ _ _ | refine Eq.trans (setG_ne _ _ (by first | assumption | exact Ne.symm (by assumption))) ?_)) ?_ | refine (nthK_iff _ _).2 ⟨_, (by assumption), ?_⟩ | refine ⟨_, ⟨(by omega), (by assumption)⟩, ?_⟩ | refine And.intro (by first | decide | omega) ?_ | fail); conv => whnf) | refine Sem.seqS ?_ | refine Sem.block ?_ | fail)
  refine hw.on ?_; conv => whnf
  repeat' (first | ((first | refine Sem.reg tt_ok ?_ | refine Sem.condS ?_ | refine Sem.regL tt_ok ?_ | refine Sem.skip tt_ok ?_ | refine Sem.exit tt_ok ?_ | refine Sem.ret tt_ok ?_ | refine BS_t (by assumption) ?_ | refine BS_f (by assumption) ?_ | refine atG (by repeat (first | assumption | exact setG_same _ _ _ | refine Eq.trans (setG_ne _ _ (by first | assumption | exact Ne.symm (by assumption))) ?_)) ?_ | refine (nthK_iff _ _).2 ⟨_, (by assumption), ?_⟩ | refine ⟨_, ⟨(by omega), (by assumption)⟩, ?_⟩ | refine And.intro (by first | decide | omega) ?_ | fail); conv => whnf) | refine Sem.seqS ?_ | refine Sem.block ?_ | fail)
  refine BS_intro (fun h => ?_) (fun h => ?_) <;> conv => whnf
  · have h : 16 < r.length := by simp at h; omega
    rw [if_pos h]
    repeat' (first | ((first | refine Sem.reg tt_ok ?_ | refine Sem.condS ?_ | refine Sem.regL tt_ok ?_ | refine Sem.skip tt_ok ?_ | refine Sem.exit tt_ok ?_ | refine Sem.ret tt_ok ?_ | refine BS_t (by assumption) ?_ | refine BS_f (by assumption) ?_ | refine atG (by repeat (first | assumption | exact setG_same _ _ _ | refine Eq.trans (setG_ne _ _ (by first | assumption | exact Ne.symm (by assumption))) ?_)) ?_ | refine (nthK_iff _ _).2 ⟨_, (by assumption), ?_⟩ | refine ⟨_, ⟨(by omega), (by assumption)⟩, ?_⟩ | refine And.intro (by first | decide | omega) ?_ | fail); conv => whnf) | refine Sem.seqS ?_ | refine Sem.block ?_ | fail)
    exact ⟨_, fun _ _ h => h, rfl, _, by simp; rfl, fun h => by cases h⟩
  · have h : ¬ 16 < r.length := by simp at h; omega
    rw [if_neg h]
    repeat' (first | ((first | refine Sem.reg tt_ok ?_ | refine Sem.condS ?_ | refine Sem.regL tt_ok ?_ | refine Sem.skip tt_ok ?_ | refine Sem.exit tt_ok ?_ | refine Sem.ret tt_ok ?_ | refine BS_t (by assumption) ?_ | refine BS_f (by assumption) ?_ | refine atG (by repeat (first | assumption | exact setG_same _ _ _ | refine Eq.trans (setG_ne _ _ (by first | assumption | exact Ne.symm (by assumption))) ?_)) ?_ | refine (nthK_iff _ _).2 ⟨_, (by assumption), ?_⟩ | refine ⟨_, ⟨(by omega), (by assumption)⟩, ?_⟩ | refine And.intro (by first | decide | omega) ?_ | fail); conv => whnf) | refine Sem.seqS ?_ | refine Sem.block ?_ | fail)
    refine (lexput_ok _ b (S s) ((a + r.length : Nat) : Int) els 1 0 (a : Nat) (S r) (setG_same _ _ _) he).on ?_; conv => whnf
    repeat' (first | ((first | refine Sem.reg tt_ok ?_ | refine Sem.condS ?_ | refine Sem.regL tt_ok ?_ | refine Sem.skip tt_ok ?_ | refine Sem.exit tt_ok ?_ | refine Sem.ret tt_ok ?_ | refine BS_t (by assumption) ?_ | refine BS_f (by assumption) ?_ | refine atG (by repeat (first | assumption | exact setG_same _ _ _ | refine Eq.trans (setG_ne _ _ (by first | assumption | exact Ne.symm (by assumption))) ?_)) ?_ | refine (nthK_iff _ _).2 ⟨_, (by assumption), ?_⟩ | refine ⟨_, ⟨(by omega), (by assumption)⟩, ?_⟩ | refine And.intro (by first | decide | omega) ?_ | fail); conv => whnf) | refine Sem.seqS ?_ | refine Sem.block ?_ | fail)
    refine ⟨_, fun _ _ h => h, rfl, _, ?_, fun _ => rfl⟩
    rw [setG_twice]; rfl
structure NI (r : List UInt8) where
  k : Nat
  hk : k ≤ r.length
theorem digN_snoc : ∀ (l : List UInt8) (c : UInt8) (n : Nat), digN (l ++ [c]) n = 10 * digN l n + (c.toNat - 48)
  | [], _, _ => rfl
  | x :: l, c, n => by simp only [List.cons_append, digN]; exact digN_snoc l c _
theorem digN_lt : ∀ (l : List UInt8), (∀ c ∈ l, isDig c = true) → l.length ≤ 4 → digN l 0 ≤ 9999 := fun l h hl => by
  cases l with
  | nil => simp [digN]
  | cons c r =>
    by_cases hx : isLet c = true
    · have h2 := h c (by simp)
      unfold isLet at hx; unfold isDig at h2
      simp only [decide_eq_true_eq] at hx h2
      omega
    · by_cases hz : 1 < (c :: r).length ∧ c.toNat = 48
      · have := TokOk.num (t := ⟨2, r, digN r 0, 0⟩)
        cases r with
        | nil => simp at hz
        | cons d q =>
          have key : digN (c :: d :: q) 0 = digN (d :: q) 0 := by simp [digN, hz.2]
          rw [key]
          refine digN_lt (d :: q) (fun x hx => h x (by simp [hx])) (by simp at hl ⊢; omega)
      · exact TokOk.num (t := ⟨2, c :: r, digN (c :: r) 0, 0⟩) (.inr (.inl ⟨rfl, rfl, hl, h, c, r, rfl, h c (by simp), by simpa using hx, hz⟩))
termination_by l => l.length
theorem number_ok (s : List UInt8) (a : Nat) (els : List (List AV)) (b : Nat) (G : Glob) (hG : G b = some (lexB (S s) (a : Nat) els)) (hs : s.length ≤ 1048576) (he : els.length ≤ 1048576) {c : UInt8} (hc : s[a]? = some c) (hp : isLet c = false) (hd : isDig c = true) :
    CallOk Try.prog TT 35 [.gptr b 0] G (stepQ s (oneL s a) els b G) := by
  have ha : a ≤ s.length := Nat.le_of_lt (List.getElem?_eq_some_iff.1 hc).1
  have hw := while_ok (f := 34) digit_ok s a els b G hG ha hs
  have e1 := oneL_of hc
  unfold oneC at e1
  rw [if_neg (by simp [hp]), if_pos hd] at e1
  obtain ⟨r', hr'⟩ := run_cons hc hd
  have hall : ∀ c ∈ runL isDig s a, isDig c = true := mem_run
  have hsz := S_size (runL isDig s a)
  have hG' := hG
  rw [lexB_at] at hG'
  rw [e1]
  generalize runL isDig s a = r at *
  clear e1
  have h0 : r[0]? = some c := by rw [hr']; rfl
  have hb0 := byteAt_S (j := 0) h0 rfl
  refine call_sem tt_ok Try.func35 rfl (by kernel_rfl) Try.ntmps35 Try.results35 ?_; conv => whnf
  repeat' (first | ((first | refine Sem.reg tt_ok ?_ | refine Sem.condS ?_ | refine Sem.regL tt_ok ?_ | refine Sem.skip tt_ok ?_ | refine Sem.exit tt_ok ?_ | refine Sem.ret tt_ok ?_ | refine BS_t (by assumption) ?_ | refine BS_f (by assumption) ?_ | refine atG (by repeat (first | assumption | exact setG_same _ _ _ | refine Eq.trans (setG_ne _ _ (by first | assumption | exact Ne.symm (by assumption))) ?_)) ?_ | refine (nthK_iff _ _).2 ⟨_, (by assumption), ?_⟩ | refine ⟨_, ⟨(by omega), (by assumption)⟩, ?_⟩ | refine And.intro (by first | decide | omega) ?_ | fail); conv => whnf) | refine Sem.seqS ?_ | refine Sem.block ?_ | fail)
  refine hw.on ?_; conv => whnf
  repeat' (first | ((first | refine Sem.reg tt_ok ?_ | refine Sem.condS ?_ | refine Sem.regL tt_ok ?_ | refine Sem.skip tt_ok ?_ | refine Sem.exit tt_ok ?_ | refine Sem.ret tt_ok ?_ | refine BS_t (by assumption) ?_ | refine BS_f (by assumption) ?_ | refine atG (by repeat (first | assumption | exact setG_same _ _ _ | refine Eq.trans (setG_ne _ _ (by first | assumption | exact Ne.symm (by assumption))) ?_)) ?_ | refine (nthK_iff _ _).2 ⟨_, (by assumption), ?_⟩ | refine ⟨_, ⟨(by omega), (by assumption)⟩, ?_⟩ | refine And.intro (by first | decide | omega) ?_ | fail); conv => whnf) | refine Sem.seqS ?_ | refine Sem.block ?_ | fail)
  by_cases hz : 1 < r.length ∧ c.toNat = 48
  · have t1 : decide (((S r).size : Int) > 1) = true := by simp; omega
    have t2 : (byteAt (S r) (0 : Int).toNat == 48) = true := by rw [hb0]; simp; omega
    rw [if_pos hz]
    repeat' (first | ((first | refine Sem.reg tt_ok ?_ | refine Sem.condS ?_ | refine Sem.regL tt_ok ?_ | refine Sem.skip tt_ok ?_ | refine Sem.exit tt_ok ?_ | refine Sem.ret tt_ok ?_ | refine BS_t (by assumption) ?_ | refine BS_f (by assumption) ?_ | refine atG (by repeat (first | assumption | exact setG_same _ _ _ | refine Eq.trans (setG_ne _ _ (by first | assumption | exact Ne.symm (by assumption))) ?_)) ?_ | refine (nthK_iff _ _).2 ⟨_, (by assumption), ?_⟩ | refine ⟨_, ⟨(by omega), (by assumption)⟩, ?_⟩ | refine And.intro (by first | decide | omega) ?_ | fail); conv => whnf) | refine Sem.seqS ?_ | refine Sem.block ?_ | fail)
    exact ⟨_, fun _ _ h => h, rfl, _, by simp; rfl, fun h => by cases h⟩
  · rw [if_neg hz]
    by_cases h4 : 4 < r.length
    · have t1 : decide (((S r).size : Int) > 1) = true := by simp; omega
      have t2 : (byteAt (S r) (0 : Int).toNat == 48) = false := by rw [hb0, beq_eq_false_iff_ne]; omega
      have t3 : decide (((S r).size : Int) > 4) = true := by simp; omega
      rw [if_pos h4]
      repeat' (first | ((first | refine Sem.reg tt_ok ?_ | refine Sem.condS ?_ | refine Sem.regL tt_ok ?_ | refine Sem.skip tt_ok ?_ | refine Sem.exit tt_ok ?_ | refine Sem.ret tt_ok ?_ | refine BS_t (by assumption) ?_ | refine BS_f (by assumption) ?_ | refine atG (by repeat (first | assumption | exact setG_same _ _ _ | refine Eq.trans (setG_ne _ _ (by first | assumption | exact Ne.symm (by assumption))) ?_)) ?_ | refine (nthK_iff _ _).2 ⟨_, (by assumption), ?_⟩ | refine ⟨_, ⟨(by omega), (by assumption)⟩, ?_⟩ | refine And.intro (by first | decide | omega) ?_ | fail); conv => whnf) | refine Sem.seqS ?_ | refine Sem.block ?_ | fail)
      exact ⟨_, fun _ _ h => h, rfl, _, by simp; rfl, fun h => by cases h⟩
    rw [if_neg h4]
    have t3 : decide (((S r).size : Int) > 4) = false := by simp; omega
    by_cases h1 : 1 < r.length
    · have t1 : decide (((S r).size : Int) > 1) = true := by simp; omega
      have t2 : (byteAt (S r) (0 : Int).toNat == 48) = false := by rw [hb0, beq_eq_false_iff_ne]; omega
      repeat' (first | ((first | refine Sem.reg tt_ok ?_ | refine Sem.condS ?_ | refine Sem.regL tt_ok ?_ | refine Sem.skip tt_ok ?_ | refine Sem.exit tt_ok ?_ | refine Sem.ret tt_ok ?_ | refine BS_t (by assumption) ?_ | refine BS_f (by assumption) ?_ | refine atG (by repeat (first | assumption | exact setG_same _ _ _ | refine Eq.trans (setG_ne _ _ (by first | assumption | exact Ne.symm (by assumption))) ?_)) ?_ | refine (nthK_iff _ _).2 ⟨_, (by assumption), ?_⟩ | refine ⟨_, ⟨(by omega), (by assumption)⟩, ?_⟩ | refine And.intro (by first | decide | omega) ?_ | fail); conv => whnf) | refine Sem.seqS ?_ | refine Sem.block ?_ | fail)
      refine Sem.loop (ι := NI r) (fun x => ⟨(.gptr b 0 :: .top :: .int .i64 0 :: .int .i64 (a : Nat) :: .str (S r) :: .int .i64 (digN (r.take x.k) 0 : Nat) :: .top :: .top :: .top :: .top :: .top :: .top :: .top :: .top :: .top :: .top :: .top :: .top :: .top :: .top :: .top :: .top :: .top :: .top :: .top :: .top :: .top :: .int .i64 (r.length : Nat) :: .int .i64 (x.k : Nat) :: .top :: .top :: .top :: .top :: .top :: .top :: .top :: .top :: .top :: .top :: .top :: .top :: .top :: .top :: .top :: .top :: []), [], 0, 0, setG G b (lexB (S s) ((a + r.length : Nat) : Int) els)⟩) (fun x => r.length - x.k) ⟨0, Nat.zero_le _⟩ ?_ (fun x => ?_)
      · refine weak_by [] ?_; (conv => whnf); repeat (first | (refine And.intro rfl ?_; conv => whnf) | fail)
        exact ⟨fun i y hy => hy, rfl, Nat.le_refl _, rfl, rfl⟩
      have hk := x.hk
      generalize x.k = k at hk ⊢
      have hn := digN_lt (r.take k) (fun c hc => hall c (List.mem_of_mem_take hc)) (by rw [List.length_take]; omega)
      repeat' (first | ((first | refine Sem.reg tt_ok ?_ | refine Sem.condS ?_ | refine Sem.regL tt_ok ?_ | refine Sem.skip tt_ok ?_ | refine Sem.exit tt_ok ?_ | refine Sem.ret tt_ok ?_ | refine BS_t (by assumption) ?_ | refine BS_f (by assumption) ?_ | refine atG (by repeat (first | assumption | exact setG_same _ _ _ | refine Eq.trans (setG_ne _ _ (by first | assumption | exact Ne.symm (by assumption))) ?_)) ?_ | refine (nthK_iff _ _).2 ⟨_, (by assumption), ?_⟩ | refine ⟨_, ⟨(by omega), (by assumption)⟩, ?_⟩ | refine And.intro (by first | decide | omega) ?_ | fail); conv => whnf) | refine Sem.seqS ?_ | refine Sem.block ?_ | fail)
      refine BS_intro (fun hlt => ?_) (fun hlt => ?_) <;> conv => whnf
      · have hlt : k < r.length := by simp at hlt; omega
        have hck : r[k]? = some r[k] := List.getElem?_eq_getElem hlt
        have hbk := byteAt_S (j := (k : Int)) hck rfl
        have hdk := hall r[k] (List.getElem_mem hlt)
        have htk : r.take (k + 1) = r.take k ++ [r[k]] := by rw [List.take_add_one, hck]; rfl
        generalize r[k] = d at hck hbk hdk htk
        have hsn := digN_snoc (r.take k) d 0
        rw [← htk] at hsn
        unfold isDig at hdk
        simp only [decide_eq_true_eq] at hdk
        repeat' (first | ((first | refine Sem.reg tt_ok ?_ | refine Sem.condS ?_ | refine Sem.regL tt_ok ?_ | refine Sem.skip tt_ok ?_ | refine Sem.exit tt_ok ?_ | refine Sem.ret tt_ok ?_ | refine BS_t (by assumption) ?_ | refine BS_f (by assumption) ?_ | refine atG (by repeat (first | assumption | exact setG_same _ _ _ | refine Eq.trans (setG_ne _ _ (by first | assumption | exact Ne.symm (by assumption))) ?_)) ?_ | refine (nthK_iff _ _).2 ⟨_, (by assumption), ?_⟩ | refine ⟨_, ⟨(by omega), (by assumption)⟩, ?_⟩ | refine And.intro (by first | decide | omega) ?_ | fail); conv => whnf) | refine Sem.seqS ?_ | refine Sem.block ?_ | fail)
        refine ⟨⟨k + 1, hlt⟩, by show r.length - (k + 1) < r.length - k; omega, ?_⟩
        refine weak_by [] ?_; (conv => whnf); repeat (first | (refine And.intro rfl ?_; conv => whnf) | fail)
        refine And.intro (by rw [hbk, hsn, IntWalk.i64_in (10 * ((digN (r.take k) 0 : Nat) : Int)) (by omega), show IntKind.u8.wrap ((d.toNat : Int) - 48) = (d.toNat : Int) - 48 from by rw [IntKind.wrap_u8]; omega, IntWalk.i64_in ((d.toNat : Int) - 48) (by omega), IntWalk.i64_in _ (by omega)]; omega) ?_
        (conv => whnf); repeat (first | (refine And.intro rfl ?_; conv => whnf) | fail)
        refine And.intro (show _ = (((k + 1 : Nat)) : Int) from by rw [IntWalk.i64_in _ (by omega)]; omega) ?_
        (conv => whnf); repeat (first | (refine And.intro rfl ?_; conv => whnf) | fail)
        exact ⟨fun i y hy => hy, rfl, Nat.le_refl _, rfl, rfl⟩
      · have hlt : k = r.length := by simp at hlt; omega
        subst hlt
        rw [List.take_length]
        repeat' (first | ((first | refine Sem.reg tt_ok ?_ | refine Sem.condS ?_ | refine Sem.regL tt_ok ?_ | refine Sem.skip tt_ok ?_ | refine Sem.exit tt_ok ?_ | refine Sem.ret tt_ok ?_ | refine BS_t (by assumption) ?_ | refine BS_f (by assumption) ?_ | refine atG (by repeat (first | assumption | exact setG_same _ _ _ | refine Eq.trans (setG_ne _ _ (by first | assumption | exact Ne.symm (by assumption))) ?_)) ?_ | refine (nthK_iff _ _).2 ⟨_, (by assumption), ?_⟩ | refine ⟨_, ⟨(by omega), (by assumption)⟩, ?_⟩ | refine And.intro (by first | decide | omega) ?_ | fail); conv => whnf) | refine Sem.seqS ?_ | refine Sem.block ?_ | fail)
        refine (lexput_ok _ b (S s) ((a + r.length : Nat) : Int) els 2 (digN r 0 : Nat) (a : Nat) (S r) (setG_same _ _ _) he).on ?_; conv => whnf
        repeat' (first | ((first | refine Sem.reg tt_ok ?_ | refine Sem.condS ?_ | refine Sem.regL tt_ok ?_ | refine Sem.skip tt_ok ?_ | refine Sem.exit tt_ok ?_ | refine Sem.ret tt_ok ?_ | refine BS_t (by assumption) ?_ | refine BS_f (by assumption) ?_ | refine atG (by repeat (first | assumption | exact setG_same _ _ _ | refine Eq.trans (setG_ne _ _ (by first | assumption | exact Ne.symm (by assumption))) ?_)) ?_ | refine (nthK_iff _ _).2 ⟨_, (by assumption), ?_⟩ | refine ⟨_, ⟨(by omega), (by assumption)⟩, ?_⟩ | refine And.intro (by first | decide | omega) ?_ | fail); conv => whnf) | refine Sem.seqS ?_ | refine Sem.block ?_ | fail)
        refine ⟨_, fun _ _ h => h, rfl, _, ?_, fun _ => rfl⟩
        rw [setG_twice]; rfl
    · have t1 : decide (((S r).size : Int) > 1) = false := by simp; omega
      repeat' (first | ((first | refine Sem.reg tt_ok ?_ | refine Sem.condS ?_ | refine Sem.regL tt_ok ?_ | refine Sem.skip tt_ok ?_ | refine Sem.exit tt_ok ?_ | refine Sem.ret tt_ok ?_ | refine BS_t (by assumption) ?_ | refine BS_f (by assumption) ?_ | refine atG (by repeat (first | assumption | exact setG_same _ _ _ | refine Eq.trans (setG_ne _ _ (by first | assumption | exact Ne.symm (by assumption))) ?_)) ?_ | refine (nthK_iff _ _).2 ⟨_, (by assumption), ?_⟩ | refine ⟨_, ⟨(by omega), (by assumption)⟩, ?_⟩ | refine And.intro (by first | decide | omega) ?_ | fail); conv => whnf) | refine Sem.seqS ?_ | refine Sem.block ?_ | fail)
      refine Sem.loop (ι := NI r) (fun x => ⟨(.gptr b 0 :: .top :: .int .i64 0 :: .int .i64 (a : Nat) :: .str (S r) :: .int .i64 (digN (r.take x.k) 0 : Nat) :: .top :: .top :: .top :: .top :: .top :: .top :: .top :: .top :: .top :: .top :: .top :: .top :: .top :: .top :: .top :: .top :: .top :: .top :: .top :: .top :: .top :: .int .i64 (r.length : Nat) :: .int .i64 (x.k : Nat) :: .top :: .top :: .top :: .top :: .top :: .top :: .top :: .top :: .top :: .top :: .top :: .top :: .top :: .top :: .top :: .top :: []), [], 0, 0, setG G b (lexB (S s) ((a + r.length : Nat) : Int) els)⟩) (fun x => r.length - x.k) ⟨0, Nat.zero_le _⟩ ?_ (fun x => ?_)
      · refine weak_by [] ?_; (conv => whnf); repeat (first | (refine And.intro rfl ?_; conv => whnf) | fail)
        exact ⟨fun i y hy => hy, rfl, Nat.le_refl _, rfl, rfl⟩
      have hk := x.hk
      generalize x.k = k at hk ⊢
      have hn := digN_lt (r.take k) (fun c hc => hall c (List.mem_of_mem_take hc)) (by rw [List.length_take]; omega)
      repeat' (first | ((first | refine Sem.reg tt_ok ?_ | refine Sem.condS ?_ | refine Sem.regL tt_ok ?_ | refine Sem.skip tt_ok ?_ | refine Sem.exit tt_ok ?_ | refine Sem.ret tt_ok ?_ | refine BS_t (by assumption) ?_ | refine BS_f (by assumption) ?_ | refine atG (by repeat (first | assumption | exact setG_same _ _ _ | refine Eq.trans (setG_ne _ _ (by first | assumption | exact Ne.symm (by assumption))) ?_)) ?_ | refine (nthK_iff _ _).2 ⟨_, (by assumption), ?_⟩ | refine ⟨_, ⟨(by omega), (by assumption)⟩, ?_⟩ | refine And.intro (by first | decide | omega) ?_ | fail); conv => whnf) | refine Sem.seqS ?_ | refine Sem.block ?_ | fail)
      refine BS_intro (fun hlt => ?_) (fun hlt => ?_) <;> conv => whnf
      · have hlt : k < r.length := by simp at hlt; omega
        have hck : r[k]? = some r[k] := List.getElem?_eq_getElem hlt
        have hbk := byteAt_S (j := (k : Int)) hck rfl
        have hdk := hall r[k] (List.getElem_mem hlt)
        have htk : r.take (k + 1) = r.take k ++ [r[k]] := by rw [List.take_add_one, hck]; rfl
        generalize r[k] = d at hck hbk hdk htk
        have hsn := digN_snoc (r.take k) d 0
        rw [← htk] at hsn
        unfold isDig at hdk
        simp only [decide_eq_true_eq] at hdk
        repeat' (first | ((first | refine Sem.reg tt_ok ?_ | refine Sem.condS ?_ | refine Sem.regL tt_ok ?_ | refine Sem.skip tt_ok ?_ | refine Sem.exit tt_ok ?_ | refine Sem.ret tt_ok ?_ | refine BS_t (by assumption) ?_ | refine BS_f (by assumption) ?_ | refine atG (by repeat (first | assumption | exact setG_same _ _ _ | refine Eq.trans (setG_ne _ _ (by first | assumption | exact Ne.symm (by assumption))) ?_)) ?_ | refine (nthK_iff _ _).2 ⟨_, (by assumption), ?_⟩ | refine ⟨_, ⟨(by omega), (by assumption)⟩, ?_⟩ | refine And.intro (by first | decide | omega) ?_ | fail); conv => whnf) | refine Sem.seqS ?_ | refine Sem.block ?_ | fail)
        refine ⟨⟨k + 1, hlt⟩, by show r.length - (k + 1) < r.length - k; omega, ?_⟩
        refine weak_by [] ?_; (conv => whnf); repeat (first | (refine And.intro rfl ?_; conv => whnf) | fail)
        refine And.intro (by rw [hbk, hsn, IntWalk.i64_in (10 * ((digN (r.take k) 0 : Nat) : Int)) (by omega), show IntKind.u8.wrap ((d.toNat : Int) - 48) = (d.toNat : Int) - 48 from by rw [IntKind.wrap_u8]; omega, IntWalk.i64_in ((d.toNat : Int) - 48) (by omega), IntWalk.i64_in _ (by omega)]; omega) ?_
        (conv => whnf); repeat (first | (refine And.intro rfl ?_; conv => whnf) | fail)
        refine And.intro (show _ = (((k + 1 : Nat)) : Int) from by rw [IntWalk.i64_in _ (by omega)]; omega) ?_
        (conv => whnf); repeat (first | (refine And.intro rfl ?_; conv => whnf) | fail)
        exact ⟨fun i y hy => hy, rfl, Nat.le_refl _, rfl, rfl⟩
      · have hlt : k = r.length := by simp at hlt; omega
        subst hlt
        rw [List.take_length]
        repeat' (first | ((first | refine Sem.reg tt_ok ?_ | refine Sem.condS ?_ | refine Sem.regL tt_ok ?_ | refine Sem.skip tt_ok ?_ | refine Sem.exit tt_ok ?_ | refine Sem.ret tt_ok ?_ | refine BS_t (by assumption) ?_ | refine BS_f (by assumption) ?_ | refine atG (by repeat (first | assumption | exact setG_same _ _ _ | refine Eq.trans (setG_ne _ _ (by first | assumption | exact Ne.symm (by assumption))) ?_)) ?_ | refine (nthK_iff _ _).2 ⟨_, (by assumption), ?_⟩ | refine ⟨_, ⟨(by omega), (by assumption)⟩, ?_⟩ | refine And.intro (by first | decide | omega) ?_ | fail); conv => whnf) | refine Sem.seqS ?_ | refine Sem.block ?_ | fail)
        refine (lexput_ok _ b (S s) ((a + r.length : Nat) : Int) els 2 (digN r 0 : Nat) (a : Nat) (S r) (setG_same _ _ _) he).on ?_; conv => whnf
        repeat' (first | ((first | refine Sem.reg tt_ok ?_ | refine Sem.condS ?_ | refine Sem.regL tt_ok ?_ | refine Sem.skip tt_ok ?_ | refine Sem.exit tt_ok ?_ | refine Sem.ret tt_ok ?_ | refine BS_t (by assumption) ?_ | refine BS_f (by assumption) ?_ | refine atG (by repeat (first | assumption | exact setG_same _ _ _ | refine Eq.trans (setG_ne _ _ (by first | assumption | exact Ne.symm (by assumption))) ?_)) ?_ | refine (nthK_iff _ _).2 ⟨_, (by assumption), ?_⟩ | refine ⟨_, ⟨(by omega), (by assumption)⟩, ?_⟩ | refine And.intro (by first | decide | omega) ?_ | fail); conv => whnf) | refine Sem.seqS ?_ | refine Sem.block ?_ | fail)
        refine ⟨_, fun _ _ h => h, rfl, _, ?_, fun _ => rfl⟩
        rw [setG_twice]; rfl
end Go.Proofs.Ytofhakbmmgpgdaa
