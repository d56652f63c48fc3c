/- mac and dice by the abstract run -/
import Derived.Test.YtmmmaekaoanceaaLaw
import Derived.Test.YtmmmaekaoanceaaMacP
import Derived.Test.YtmmmaekaoanceaaMacE
set_option maxRecDepth 100000
namespace Go.Proofs.Ytmmmaekaoanceaa
open Go Go.Proofs

structure IsDice (q : List Int) (cells : List AV) : Prop where
  len : cells.length = 66
  max : q.length ≤ 64
  first : ∃ f : Nat, f < 64 ∧ cells[64]? = some (.int .i64 f) ∧ ∀ (i : Nat) (x : Int), q[i]? = some x → cells[(f + i) % 64]? = some (.int .u64 x)
  n : cells[65]? = some (.int .i64 (q.length : Nat))
theorem diceput_ok (n : Int) (b : Nat) (q : List Int) (cells : List AV) (G : Glob) (hG : G b = some (.cells cells)) (hd : IsDice q cells) (hq : q.length < 64) :
    CallOk Try.prog TT 22 [.gptr b 0, .int .u64 n] G (fun v G' => v = .bool true ∧ ∃ cells', G' = setG G b (.cells cells') ∧ IsDice (q ++ [n]) cells') := by
  obtain ⟨f, hf, h64, hf2⟩ := hd.first
  have h65 := hd.n
  have hlen := hd.len
  have hne : (((q.length : Nat) : Int) == 64) = false := by rw [beq_eq_false_iff_ne]; omega
  refine call_body tt_ok Try.func22 rfl (by kernel_rfl) Try.ntmps22 Try.results22 ?_; conv => whnf
  repeat' (first | (refine BS_t (by assumption) ?_; conv => whnf) | (refine BS_f (by assumption) ?_; conv => whnf) | (refine atG (by first | assumption | exact setG_same _ _ _) ?_; conv => whnf) | (refine (nthK_iff _ _).2 ⟨_, (by assumption), ?_⟩; conv => whnf) | (refine Exists.intro _ (And.intro (And.intro (by omega) (by assumption)) ?_); conv => whnf) | (refine And.intro (by first | decide | omega) ?_; conv => whnf) | fail)
  refine draw_sound (eff := []) tt_ok (by kernel_rfl) (by kernel_rfl) ?_; conv => whnf
  repeat' (first | (refine BS_t (by assumption) ?_; conv => whnf) | (refine BS_f (by assumption) ?_; conv => whnf) | (refine atG (by first | assumption | exact setG_same _ _ _) ?_; conv => whnf) | (refine (nthK_iff _ _).2 ⟨_, (by assumption), ?_⟩; conv => whnf) | (refine Exists.intro _ (And.intro (And.intro (by omega) (by assumption)) ?_); conv => whnf) | (refine And.intro (by first | decide | omega) ?_; conv => whnf) | fail)
  have hw : IntKind.i64.wrap ((f : Int) + (q.length : Nat)) = ((f + q.length : Nat) : Int) := by rw [IntWalk.i64_in _ (by omega)]; omega
  have hm : Int.tmod ((f + q.length : Nat) : Int) 64 = (((f + q.length) % 64 : Nat) : Int) := by rw [Int.tmod_eq_emod_of_nonneg (by omega)]; omega
  rw [hw, hm]
  repeat' (first | (refine BS_t (by assumption) ?_; conv => whnf) | (refine BS_f (by assumption) ?_; conv => whnf) | (refine atG (by first | assumption | exact setG_same _ _ _) ?_; conv => whnf) | (refine (nthK_iff _ _).2 ⟨_, (by assumption), ?_⟩; conv => whnf) | (refine Exists.intro _ (And.intro (And.intro (by omega) (by assumption)) ?_); conv => whnf) | (refine And.intro (by first | decide | omega) ?_; conv => whnf) | fail)
  have g64 : (cells.set ((f + q.length) % 64) (AV.int .u64 n))[64]? = some (.int .i64 f) := by rw [List.getElem?_set_ne (by omega)]; exact h64
  have g65 : (cells.set ((f + q.length) % 64) (AV.int .u64 n))[65]? = some (.int .i64 (q.length : Nat)) := by rw [List.getElem?_set_ne (by omega)]; exact h65
  refine puts1_at (i := (f + q.length) % 64) (by show 0 + 0 + Int.toNat _ * 1 = _; omega) (by omega) ?_; conv => whnf
  repeat' (first | (refine BS_t (by assumption) ?_; conv => whnf) | (refine BS_f (by assumption) ?_; conv => whnf) | (refine atG (by first | assumption | exact setG_same _ _ _) ?_; conv => whnf) | (refine (nthK_iff _ _).2 ⟨_, (by assumption), ?_⟩; conv => whnf) | (refine Exists.intro _ (And.intro (And.intro (by omega) (by assumption)) ?_); conv => whnf) | (refine And.intro (by first | decide | omega) ?_; conv => whnf) | fail)
  refine puts1_at (i := 65) rfl (by simp [hlen]) ?_; conv => whnf
  refine ⟨_, fun _ _ h => h, rfl, _, setG_twice _ _ _ _, ?_⟩
  refine ⟨by simp [hlen], by simp; omega, ⟨f, hf, ?_, fun i x hi => ?_⟩, ?_⟩
  · rw [List.getElem?_set_ne (by omega)]; exact g64
  · rw [List.getElem?_set_ne (by omega)]
    by_cases he : i = q.length
    · subst he
      rw [List.getElem?_append_right (Nat.le_refl _)] at hi
      simp at hi
      subst hi
      rw [List.getElem?_set_self (by omega)]
    · have hil : i < q.length := by have := (List.getElem?_eq_some_iff.1 hi).1; simp at this; omega
      rw [List.getElem?_append_left hil] at hi
      rw [List.getElem?_set_ne (by omega)]
      exact hf2 i x hi
  · rw [List.getElem?_set_self (by simp [hlen])]
    rw [IntWalk.i64_in _ (by omega)]
    simp
theorem dicetake_ok (n : Int) (b : Nat) (q : List Int) (cells : List AV) (G : Glob) (hG : G b = some (.cells cells)) (hd : IsDice (n :: q) cells) :
    CallOk Try.prog TT 24 [.gptr b 0] G (fun v G' => v = .tup [.int .u64 n, .bool true] ∧ ∃ cells', G' = setG G b (.cells cells') ∧ IsDice q cells') := by
  obtain ⟨f, hf, h64, hf2⟩ := hd.first
  have h65 := hd.n
  have hlen := hd.len
  have hmax := hd.max
  simp only [List.length_cons] at h65 hmax
  have h0 := hf2 0 n rfl
  rw [Nat.add_zero, Nat.mod_eq_of_lt hf] at h0
  have hne : (((q.length + 1 : Nat) : Int) == 0) = false := by rw [beq_eq_false_iff_ne]; omega
  refine call_body tt_ok Try.func24 rfl (by kernel_rfl) Try.ntmps24 Try.results24 ?_; conv => whnf
  repeat' (first | (refine BS_t (by assumption) ?_; conv => whnf) | (refine BS_f (by assumption) ?_; conv => whnf) | (refine atG (by first | assumption | exact setG_same _ _ _) ?_; conv => whnf) | (refine (nthK_iff _ _).2 ⟨_, (by assumption), ?_⟩; conv => whnf) | (refine Exists.intro _ (And.intro (And.intro (by omega) (by assumption)) ?_); conv => whnf) | (refine And.intro (by first | decide | omega) ?_; conv => whnf) | fail)
  refine draw_sound (eff := []) tt_ok (by kernel_rfl) (by kernel_rfl) ?_; conv => whnf
  repeat' (first | (refine BS_t (by assumption) ?_; conv => whnf) | (refine BS_f (by assumption) ?_; conv => whnf) | (refine atG (by first | assumption | exact setG_same _ _ _) ?_; conv => whnf) | (refine (nthK_iff _ _).2 ⟨_, (by assumption), ?_⟩; conv => whnf) | (refine Exists.intro _ (And.intro (And.intro (by omega) (by assumption)) ?_); conv => whnf) | (refine And.intro (by first | decide | omega) ?_; conv => whnf) | fail)
  refine nthK_at (i := f) (by show 0 + 0 + Int.toNat _ * 1 = _; omega) h0 ?_; conv => whnf
  repeat' (first | (refine BS_t (by assumption) ?_; conv => whnf) | (refine BS_f (by assumption) ?_; conv => whnf) | (refine atG (by first | assumption | exact setG_same _ _ _) ?_; conv => whnf) | (refine (nthK_iff _ _).2 ⟨_, (by assumption), ?_⟩; conv => whnf) | (refine Exists.intro _ (And.intro (And.intro (by omega) (by assumption)) ?_); conv => whnf) | (refine And.intro (by first | decide | omega) ?_; conv => whnf) | fail)
  have hw : IntKind.i64.wrap ((f : Int) + 1) = ((f + 1 : Nat) : Int) := by rw [IntWalk.i64_in _ (by omega)]; omega
  have hm : Int.tmod ((f + 1 : Nat) : Int) 64 = (((f + 1) % 64 : Nat) : Int) := by rw [Int.tmod_eq_emod_of_nonneg (by omega)]; omega
  rw [hw, hm]
  have g65 : (cells.set 64 (AV.int .i64 ((f + 1) % 64 : Nat)))[65]? = some (.int .i64 (q.length + 1 : Nat)) := by rw [List.getElem?_set_ne (by omega)]; exact h65
  refine puts1_at (i := 64) rfl (by simp [hlen]) ?_; conv => whnf
  repeat' (first | (refine BS_t (by assumption) ?_; conv => whnf) | (refine BS_f (by assumption) ?_; conv => whnf) | (refine atG (by first | assumption | exact setG_same _ _ _) ?_; conv => whnf) | (refine (nthK_iff _ _).2 ⟨_, (by assumption), ?_⟩; conv => whnf) | (refine Exists.intro _ (And.intro (And.intro (by omega) (by assumption)) ?_); conv => whnf) | (refine And.intro (by first | decide | omega) ?_; conv => whnf) | fail)
  refine puts1_at (i := 65) rfl (by simp [hlen]) ?_; conv => whnf
  refine ⟨_, fun _ _ h => h, rfl, _, setG_twice _ _ _ _, ?_⟩
  refine ⟨by simp [hlen], by omega, ⟨(f + 1) % 64, Nat.mod_lt _ (by decide), ?_, fun i x hi => ?_⟩, ?_⟩
  · rw [List.getElem?_set_ne (by omega), List.getElem?_set_self (by omega)]
  · rw [List.getElem?_set_ne (by omega), List.getElem?_set_ne (by omega)]
    have := hf2 (i + 1) x (by simpa using hi)
    rw [show ((f + 1) % 64 + i) % 64 = (f + (i + 1)) % 64 by omega]
    exact this
  · rw [List.getElem?_set_self (by simp [hlen])]
    rw [IntWalk.i64_in _ (by omega)]
    simp
theorem dicenone_ok (b : Nat) (cells : List AV) (G : Glob) (hG : G b = some (.cells cells)) (hd : IsDice [] cells) :
    CallOk Try.prog TT 24 [.gptr b 0] G (fun v G' => v = .tup [.int .u64 0, .bool false] ∧ G' = G) := by
  have h65 := hd.n
  refine call_body tt_ok Try.func24 rfl (by kernel_rfl) Try.ntmps24 Try.results24 ?_; conv => whnf
  repeat' (first | (refine BS_t (by assumption) ?_; conv => whnf) | (refine BS_f (by assumption) ?_; conv => whnf) | (refine atG (by first | assumption | exact setG_same _ _ _) ?_; conv => whnf) | (refine (nthK_iff _ _).2 ⟨_, (by assumption), ?_⟩; conv => whnf) | (refine Exists.intro _ (And.intro (And.intro (by omega) (by assumption)) ?_); conv => whnf) | (refine And.intro (by first | decide | omega) ?_; conv => whnf) | fail)
  exact ⟨_, fun _ _ h => h, rfl, rfl⟩
theorem dicenew_ok (G : Glob) : CallOk Try.prog TT 21 [] G (fun v G' => ∃ b cells, G b = none ∧ v = .gptr b 0 ∧ G' = setG G b (.cells cells) ∧ IsDice [] cells) := by
  refine call_body tt_ok Try.func21 rfl (by kernel_rfl) Try.ntmps21 Try.results21 ?_; conv => whnf
  intro b hb
  conv => whnf
  refine ⟨_, fun _ _ h => h, b, _, hb, rfl, rfl, ?_⟩
  exact ⟨rfl, by decide, ⟨0, by decide, rfl, fun i x h => by simp at h⟩, rfl⟩
/-- mac -/
structure IsTab (t : Tab) (cells : List AV) : Prop where
  len : cells.length = 27
  es : ∀ o : Nat, o ≤ 8 → cells[o]? = some (.int .i64 (t.es o : Nat))
  b0 : ∀ o : Nat, o ≤ 8 → cells[9 + o * 2]? = some (.int .i64 (t.bs o).1)
  b1 : ∀ o : Nat, o ≤ 8 → cells[9 + o * 2 + 1]? = some (.int .u64 ((t.bs o).2 : Nat))
theorem tabnew_ok (G : Glob) : CallOk Try.prog TT 20 [] G (fun v G' => ∃ b cells, G b = none ∧ v = .gptr b 0 ∧ G' = setG G b (.cells cells) ∧ IsTab Tab.none cells) := by
  refine call_body tt_ok Try.func20 rfl (by kernel_rfl) Try.ntmps20 Try.results20 ?_; conv => whnf
  intro b hb
  conv => whnf
  refine ⟨_, fun _ _ h => h, b, _, hb, rfl, rfl, ?_⟩
  refine ⟨rfl, fun o h => ?_, fun o h => ?_, fun o h => ?_⟩ <;> (have := h; match o, h with | 0, _ | 1, _ | 2, _ | 3, _ | 4, _ | 5, _ | 6, _ | 7, _ | 8, _ => rfl)
theorem owns_ok (o : Int) (G : Glob) : CallOk Try.prog TT 64 [.int .i64 o] G (fun v G' => v = .bool (decide (0 ≤ o ∧ o ≤ 8)) ∧ G' = G) := by
  refine call_body tt_ok Try.func64 rfl (by kernel_rfl) Try.ntmps64 Try.results64 ?_; conv => whnf
  repeat' (first | (refine BS_t (by assumption) ?_; conv => whnf) | (refine BS_f (by assumption) ?_; conv => whnf) | (refine BS_intro (fun _ => ?_) (fun _ => ?_) <;> conv => whnf))
  all_goals (refine ⟨G, fun _ _ h => h, ?_, rfl⟩; simp_all <;> omega)
theorem epoch_ok (o : Int) (b : Nat) (t : Tab) (cells : List AV) (G : Glob) (hG : G b = some (.cells cells)) (ht : IsTab t cells) :
    CallOk Try.prog TT 28 [.gptr b 0, .int .i64 o] G (fun v G' => v = .int .i64 (if 0 ≤ o ∧ o ≤ 8 then (t.es o.toNat : Nat) else 0) ∧ G' = G) := by
  have ow := owns_ok o G
  refine call_body tt_ok Try.func28 rfl (by kernel_rfl) Try.ntmps28 Try.results28 ?_; conv => whnf
  repeat' (first | (refine BS_t (by assumption) ?_; conv => whnf) | (refine BS_f (by assumption) ?_; conv => whnf) | (refine atG (by first | assumption | exact setG_same _ _ _) ?_; conv => whnf) | (refine (nthK_iff _ _).2 ⟨_, (by assumption), ?_⟩; conv => whnf) | (refine Exists.intro _ (And.intro (And.intro (by omega) (by assumption)) ?_); conv => whnf) | (refine And.intro (by first | decide | omega) ?_; conv => whnf) | fail)
  by_cases h : 0 ≤ o ∧ o ≤ 8
  · rw [decide_eq_true h] at ow
    have h1 := ht.es o.toNat (by omega)
    refine ow.on ?_; conv => whnf
    repeat' (first | (refine BS_t (by assumption) ?_; conv => whnf) | (refine BS_f (by assumption) ?_; conv => whnf) | (refine atG (by first | assumption | exact setG_same _ _ _) ?_; conv => whnf) | (refine (nthK_iff _ _).2 ⟨_, (by assumption), ?_⟩; conv => whnf) | (refine Exists.intro _ (And.intro (And.intro (by omega) (by assumption)) ?_); conv => whnf) | (refine And.intro (by first | decide | omega) ?_; conv => whnf) | fail)
    refine nthK_at (i := o.toNat) (by show 0 + 0 + o.toNat * 1 = _; omega) h1 ?_; conv => whnf
    exact ⟨_, fun _ _ h => h, by simp [h], rfl⟩
  · rw [decide_eq_false h] at ow
    refine ow.on ?_; conv => whnf
    repeat' (first | (refine BS_t (by assumption) ?_; conv => whnf) | (refine BS_f (by assumption) ?_; conv => whnf) | (refine atG (by first | assumption | exact setG_same _ _ _) ?_; conv => whnf) | (refine (nthK_iff _ _).2 ⟨_, (by assumption), ?_⟩; conv => whnf) | (refine Exists.intro _ (And.intro (And.intro (by omega) (by assumption)) ?_); conv => whnf) | (refine And.intro (by first | decide | omega) ?_; conv => whnf) | fail)
    exact ⟨_, fun _ _ h => h, by simp [h], rfl⟩
theorem knows_ok (o e : Int) (n : Nat) (b : Nat) (t : Tab) (cells : List AV) (G : Glob) (hG : G b = some (.cells cells)) (ht : IsTab t cells) :
    CallOk Try.prog TT 30 [.gptr b 0, .int .i64 o, .int .i64 e, .int .u64 n] G (fun v G' => v = .bool (knowsT t o e n) ∧ G' = G) := by
  have ow := owns_ok o G
  refine call_body tt_ok Try.func30 rfl (by kernel_rfl) Try.ntmps30 Try.results30 ?_; conv => whnf
  repeat' (first | (refine BS_t (by assumption) ?_; conv => whnf) | (refine BS_f (by assumption) ?_; conv => whnf) | (refine atG (by first | assumption | exact setG_same _ _ _) ?_; conv => whnf) | (refine (nthK_iff _ _).2 ⟨_, (by assumption), ?_⟩; conv => whnf) | (refine Exists.intro _ (And.intro (And.intro (by omega) (by assumption)) ?_); conv => whnf) | (refine And.intro (by first | decide | omega) ?_; conv => whnf) | fail)
  by_cases h : 0 ≤ o ∧ o ≤ 8
  · rw [decide_eq_true h] at ow
    have h0 := ht.b0 o.toNat (by omega)
    have h1 := ht.b1 o.toNat (by omega)
    refine ow.on ?_; conv => whnf
    repeat' (first | (refine BS_t (by assumption) ?_; conv => whnf) | (refine BS_f (by assumption) ?_; conv => whnf) | (refine atG (by first | assumption | exact setG_same _ _ _) ?_; conv => whnf) | (refine (nthK_iff _ _).2 ⟨_, (by assumption), ?_⟩; conv => whnf) | (refine Exists.intro _ (And.intro (And.intro (by omega) (by assumption)) ?_); conv => whnf) | (refine And.intro (by first | decide | omega) ?_; conv => whnf) | fail)
    by_cases hn : n = 0
    · have hb : (((n : Nat) : Int) != 0) = false := by simp [hn]
      repeat' (first | (refine BS_t (by assumption) ?_; conv => whnf) | (refine BS_f (by assumption) ?_; conv => whnf) | (refine atG (by first | assumption | exact setG_same _ _ _) ?_; conv => whnf) | (refine (nthK_iff _ _).2 ⟨_, (by assumption), ?_⟩; conv => whnf) | (refine Exists.intro _ (And.intro (And.intro (by omega) (by assumption)) ?_); conv => whnf) | (refine And.intro (by first | decide | omega) ?_; conv => whnf) | fail)
      exact ⟨_, fun _ _ h => h, by simp [knowsT, hn], rfl⟩
    · have hb : (((n : Nat) : Int) != 0) = true := by simp; omega
      repeat' (first | (refine BS_t (by assumption) ?_; conv => whnf) | (refine BS_f (by assumption) ?_; conv => whnf) | (refine atG (by first | assumption | exact setG_same _ _ _) ?_; conv => whnf) | (refine (nthK_iff _ _).2 ⟨_, (by assumption), ?_⟩; conv => whnf) | (refine Exists.intro _ (And.intro (And.intro (by omega) (by assumption)) ?_); conv => whnf) | (refine And.intro (by first | decide | omega) ?_; conv => whnf) | fail)
      refine drop2_at (i := 9 + o.toNat * 2) (by show 0 + 9 + o.toNat * 2 = _; omega) h0 h1 ?_; conv => whnf
      repeat' (first | (refine BS_t (by assumption) ?_; conv => whnf) | (refine BS_f (by assumption) ?_; conv => whnf) | (refine atG (by first | assumption | exact setG_same _ _ _) ?_; conv => whnf) | (refine (nthK_iff _ _).2 ⟨_, (by assumption), ?_⟩; conv => whnf) | (refine Exists.intro _ (And.intro (And.intro (by omega) (by assumption)) ?_); conv => whnf) | (refine And.intro (by first | decide | omega) ?_; conv => whnf) | fail)
      refine ⟨_, fun _ _ h => h, ?_, rfl⟩
      congr 1
      unfold knowsT
      obtain ⟨p, q⟩ := t.bs o.toNat
      rw [Bool.eq_iff_iff]
      simp [h, hn]
      intro _
      omega
  · rw [decide_eq_false h] at ow
    refine ow.on ?_; conv => whnf
    repeat' (first | (refine BS_t (by assumption) ?_; conv => whnf) | (refine BS_f (by assumption) ?_; conv => whnf) | (refine atG (by first | assumption | exact setG_same _ _ _) ?_; conv => whnf) | (refine (nthK_iff _ _).2 ⟨_, (by assumption), ?_⟩; conv => whnf) | (refine Exists.intro _ (And.intro (And.intro (by omega) (by assumption)) ?_); conv => whnf) | (refine And.intro (by first | decide | omega) ?_; conv => whnf) | fail)
    refine ⟨_, fun _ _ h => h, ?_, rfl⟩
    unfold knowsT
    simp; omega
theorem mrevoke_ok (o : Int) (b : Nat) (t : Tab) (cells : List AV) (G : Glob) (hG : G b = some (.cells cells)) (ht : IsTab t cells) (ho : 0 ≤ o ∧ o ≤ 8) :
    CallOk Try.prog TT 26 [.gptr b 0, .int .i64 o] G (fun v G' => v = .int .i64 (revE t o.toNat) ∧ ∃ cells', G' = setG G b (.cells cells') ∧ IsTab (t.clear o.toNat) cells') := by
  have ow := owns_ok o G
  rw [decide_eq_true ho] at ow
  have h0 := ht.b0 o.toNat (by omega)
  have h1 := ht.b1 o.toNat (by omega)
  refine call_body tt_ok Try.func26 rfl (by kernel_rfl) Try.ntmps26 Try.results26 ?_; conv => whnf
  repeat' (first | (refine BS_t (by assumption) ?_; conv => whnf) | (refine BS_f (by assumption) ?_; conv => whnf) | (refine atG (by first | assumption | exact setG_same _ _ _) ?_; conv => whnf) | (refine (nthK_iff _ _).2 ⟨_, (by assumption), ?_⟩; conv => whnf) | (refine Exists.intro _ (And.intro (And.intro (by omega) (by assumption)) ?_); conv => whnf) | (refine And.intro (by first | decide | omega) ?_; conv => whnf) | fail)
  refine ow.on ?_; conv => whnf
  repeat' (first | (refine BS_t (by assumption) ?_; conv => whnf) | (refine BS_f (by assumption) ?_; conv => whnf) | (refine atG (by first | assumption | exact setG_same _ _ _) ?_; conv => whnf) | (refine (nthK_iff _ _).2 ⟨_, (by assumption), ?_⟩; conv => whnf) | (refine Exists.intro _ (And.intro (And.intro (by omega) (by assumption)) ?_); conv => whnf) | (refine And.intro (by first | decide | omega) ?_; conv => whnf) | fail)
  refine drop2_at (i := 9 + o.toNat * 2) (by show 0 + 9 + o.toNat * 2 = _; omega) h0 h1 ?_; conv => whnf
  by_cases hz : t.bs o.toNat = (0, 0)
  · have hb : ((t.bs o.toNat).1 == 0 && (((t.bs o.toNat).2 : Int) == 0 && true)) = true := by rw [hz]; rfl
    repeat' (first | (refine BS_t (by assumption) ?_; conv => whnf) | (refine BS_f (by assumption) ?_; conv => whnf) | (refine atG (by first | assumption | exact setG_same _ _ _) ?_; conv => whnf) | (refine (nthK_iff _ _).2 ⟨_, (by assumption), ?_⟩; conv => whnf) | (refine Exists.intro _ (And.intro (And.intro (by omega) (by assumption)) ?_); conv => whnf) | (refine And.intro (by first | decide | omega) ?_; conv => whnf) | fail)
    refine ⟨_, fun _ _ h => h, by simp [revE, hz], cells, (setG_back hG).symm, ?_⟩
    rw [clear_same t _ hz]; exact ht
  · have hb : ((t.bs o.toNat).1 == 0 && (((t.bs o.toNat).2 : Int) == 0 && true)) = false := by
      rw [Bool.eq_false_iff]; intro hh
      simp at hh
      exact hz (Prod.ext hh.1 hh.2)
    repeat' (first | (refine BS_t (by assumption) ?_; conv => whnf) | (refine BS_f (by assumption) ?_; conv => whnf) | (refine atG (by first | assumption | exact setG_same _ _ _) ?_; conv => whnf) | (refine (nthK_iff _ _).2 ⟨_, (by assumption), ?_⟩; conv => whnf) | (refine Exists.intro _ (And.intro (And.intro (by omega) (by assumption)) ?_); conv => whnf) | (refine And.intro (by first | decide | omega) ?_; conv => whnf) | fail)
    refine puts2_at (i := 9 + o.toNat * 2) (by show 0 + 9 + o.toNat * 2 = _; omega) (by rw [ht.len]; omega) ?_; conv => whnf
    refine ⟨_, fun _ _ h => h, by simp [revE, hz], _, rfl, ?_⟩
    have hl := ht.len
    refine ⟨by simp [hl], fun p hp => ?_, fun p hp => ?_, fun p hp => ?_⟩
    · rw [List.getElem?_set_ne (by omega), List.getElem?_set_ne (by omega)]; exact ht.es p hp
    · unfold Tab.clear
      simp only
      rw [List.getElem?_set_ne (by omega)]
      by_cases he : p = o.toNat
      · subst he; rw [List.getElem?_set_self (by omega), if_pos rfl]
      · rw [List.getElem?_set_ne (by omega), if_neg he]; exact ht.b0 p hp
    · unfold Tab.clear
      simp only
      by_cases he : p = o.toNat
      · subst he; rw [List.getElem?_set_self (by simp; omega), if_pos rfl]; rfl
      · rw [List.getElem?_set_ne (by omega), List.getElem?_set_ne (by omega), if_neg he]; exact ht.b1 p hp
theorem mrevoke_form (o : Int) (b : Nat) (G : Glob) (ho : ¬ (0 ≤ o ∧ o ≤ 8)) :
    CallOk Try.prog TT 26 [.gptr b 0, .int .i64 o] G (fun v G' => v = .int .i64 1 ∧ G' = G) := by
  have ow := owns_ok o G
  rw [decide_eq_false ho] at ow
  refine call_body tt_ok Try.func26 rfl (by kernel_rfl) Try.ntmps26 Try.results26 ?_; conv => whnf
  repeat' (first | (refine BS_t (by assumption) ?_; conv => whnf) | (refine BS_f (by assumption) ?_; conv => whnf) | (refine atG (by first | assumption | exact setG_same _ _ _) ?_; conv => whnf) | (refine (nthK_iff _ _).2 ⟨_, (by assumption), ?_⟩; conv => whnf) | (refine Exists.intro _ (And.intro (And.intro (by omega) (by assumption)) ?_); conv => whnf) | (refine And.intro (by first | decide | omega) ?_; conv => whnf) | fail)
  refine ow.on ?_; conv => whnf
  repeat' (first | (refine BS_t (by assumption) ?_; conv => whnf) | (refine BS_f (by assumption) ?_; conv => whnf) | (refine atG (by first | assumption | exact setG_same _ _ _) ?_; conv => whnf) | (refine (nthK_iff _ _).2 ⟨_, (by assumption), ?_⟩; conv => whnf) | (refine Exists.intro _ (And.intro (And.intro (by omega) (by assumption)) ?_); conv => whnf) | (refine And.intro (by first | decide | omega) ?_; conv => whnf) | fail)
  exact ⟨_, fun _ _ h => h, rfl, rfl⟩
theorem issue_formq (o : Int) (b d : Nat) (G : Glob) (ho : ¬ (0 ≤ o ∧ o ≤ 8)) :
    CallOk Try.prog TT 23 [.gptr b 0, .int .i64 o, .gptr d 0] G (fun v G' => v = .tup [.int .i64 0, .int .u64 0, .int .i64 1] ∧ G' = G) := by
  have ow := owns_ok o G
  rw [decide_eq_false ho] at ow
  refine call_body tt_ok Try.func23 rfl (by kernel_rfl) Try.ntmps23 Try.results23 ?_; conv => whnf
  repeat' (first | (refine BS_t (by assumption) ?_; conv => whnf) | (refine BS_f (by assumption) ?_; conv => whnf) | (refine atG (by first | assumption | exact setG_same _ _ _) ?_; conv => whnf) | (refine (nthK_iff _ _).2 ⟨_, (by assumption), ?_⟩; conv => whnf) | (refine Exists.intro _ (And.intro (And.intro (by omega) (by assumption)) ?_); conv => whnf) | (refine And.intro (by first | decide | omega) ?_; conv => whnf) | fail)
  refine ow.on ?_; conv => whnf
  repeat' (first | (refine BS_t (by assumption) ?_; conv => whnf) | (refine BS_f (by assumption) ?_; conv => whnf) | (refine atG (by first | assumption | exact setG_same _ _ _) ?_; conv => whnf) | (refine (nthK_iff _ _).2 ⟨_, (by assumption), ?_⟩; conv => whnf) | (refine Exists.intro _ (And.intro (And.intro (by omega) (by assumption)) ?_); conv => whnf) | (refine And.intro (by first | decide | omega) ?_; conv => whnf) | fail)
  exact ⟨_, fun _ _ h => h, rfl, rfl⟩
theorem issue_noneq (o : Int) (b d : Nat) (cd : List AV) (G : Glob) (ho : 0 ≤ o ∧ o ≤ 8) (hd : G d = some (.cells cd)) (hi : IsDice [] cd) :
    CallOk Try.prog TT 23 [.gptr b 0, .int .i64 o, .gptr d 0] G (fun v G' => v = .tup [.int .i64 0, .int .u64 0, .int .i64 17] ∧ G' = G) := by
  have ow := owns_ok o G
  rw [decide_eq_true ho] at ow
  refine call_body tt_ok Try.func23 rfl (by kernel_rfl) Try.ntmps23 Try.results23 ?_; conv => whnf
  repeat' (first | (refine BS_t (by assumption) ?_; conv => whnf) | (refine BS_f (by assumption) ?_; conv => whnf) | (refine atG (by first | assumption | exact setG_same _ _ _) ?_; conv => whnf) | (refine (nthK_iff _ _).2 ⟨_, (by assumption), ?_⟩; conv => whnf) | (refine Exists.intro _ (And.intro (And.intro (by omega) (by assumption)) ?_); conv => whnf) | (refine And.intro (by first | decide | omega) ?_; conv => whnf) | fail)
  refine ow.on ?_; conv => whnf
  repeat' (first | (refine BS_t (by assumption) ?_; conv => whnf) | (refine BS_f (by assumption) ?_; conv => whnf) | (refine atG (by first | assumption | exact setG_same _ _ _) ?_; conv => whnf) | (refine (nthK_iff _ _).2 ⟨_, (by assumption), ?_⟩; conv => whnf) | (refine Exists.intro _ (And.intro (And.intro (by omega) (by assumption)) ?_); conv => whnf) | (refine And.intro (by first | decide | omega) ?_; conv => whnf) | fail)
  refine (dicenone_ok d cd G hd hi).on ?_; conv => whnf
  repeat' (first | (refine BS_t (by assumption) ?_; conv => whnf) | (refine BS_f (by assumption) ?_; conv => whnf) | (refine atG (by first | assumption | exact setG_same _ _ _) ?_; conv => whnf) | (refine (nthK_iff _ _).2 ⟨_, (by assumption), ?_⟩; conv => whnf) | (refine Exists.intro _ (And.intro (And.intro (by omega) (by assumption)) ?_); conv => whnf) | (refine And.intro (by first | decide | omega) ?_; conv => whnf) | fail)
  exact ⟨_, fun _ _ h => h, rfl, rfl⟩
theorem mix_ok (a b : Nat) (G : Glob) (ha : a < 18446744073709551616) (hb : b < 18446744073709551616) : CallOk Try.prog TT 65 [.int .u64 a, .int .u64 b] G (fun v G' => v = .int .u64 (mixN a b : Nat) ∧ G' = G) := by
  refine CallOk.of_gives ⟨_, Try.func65, by decide, rfl⟩ fun g us w hl hd => ?_
  obtain ⟨us⟩ := us
  match us, hl with
  | [u0, u1], _ =>
    cases hd 0 _ _ rfl rfl
    cases hd 1 _ _ rfl rfl
    exact ⟨_, .int _ _, mix_any a b w ha hb⟩
theorem issue_okq (o : Int) (n : Nat) (b d : Nat) (t : Tab) (q : List Int) (cells cd : List AV) (G : Glob) (hb : G b = some (.cells cells)) (ht : IsTab t cells) (hd : G d = some (.cells cd)) (hi : IsDice ((n : Int) :: q) cd) (hbd : b ≠ d)
    (ho : 0 ≤ o ∧ o ≤ 8) (hn : n < 18446744073709551616) (he : t.es o.toNat ≤ 1000000) :
    CallOk Try.prog TT 23 [.gptr b 0, .int .i64 o, .gptr d 0] G (fun v G' => v = .tup [.int .i64 ((t.es o.toNat + 1 : Nat) : Int), .int .u64 (tagN n (t.es o.toNat + 1) o.toNat : Nat), .int .i64 0] ∧
      ∃ cells' cd', G' = setG (setG G d (.cells cd')) b (.cells cells') ∧ IsTab (t.issue o.toNat n) cells' ∧ IsDice q cd') := by
  have ow := owns_ok o G
  rw [decide_eq_true ho] at ow
  have h0 := ht.es o.toNat (by omega)
  have hl := ht.len
  refine call_body tt_ok Try.func23 rfl (by kernel_rfl) Try.ntmps23 Try.results23 ?_; conv => whnf
  repeat' (first | (refine BS_t (by assumption) ?_; conv => whnf) | (refine BS_f (by assumption) ?_; conv => whnf) | (refine atG (by first | assumption | exact setG_same _ _ _) ?_; conv => whnf) | (refine (nthK_iff _ _).2 ⟨_, (by assumption), ?_⟩; conv => whnf) | (refine Exists.intro _ (And.intro (And.intro (by omega) (by assumption)) ?_); conv => whnf) | (refine And.intro (by first | decide | omega) ?_; conv => whnf) | fail)
  refine ow.on ?_; conv => whnf
  repeat' (first | (refine BS_t (by assumption) ?_; conv => whnf) | (refine BS_f (by assumption) ?_; conv => whnf) | (refine atG (by first | assumption | exact setG_same _ _ _) ?_; conv => whnf) | (refine (nthK_iff _ _).2 ⟨_, (by assumption), ?_⟩; conv => whnf) | (refine Exists.intro _ (And.intro (And.intro (by omega) (by assumption)) ?_); conv => whnf) | (refine And.intro (by first | decide | omega) ?_; conv => whnf) | fail)
  refine (dicetake_ok n d q cd G hd hi).mono fun v G' hv => ?_
  obtain ⟨rfl, cd', rfl, hi'⟩ := hv
  have hb' : setG G d (.cells cd') b = some (.cells cells) := by rw [setG_ne _ _ hbd]; exact hb
  conv => whnf
  repeat' (first | (refine BS_t (by assumption) ?_; conv => whnf) | (refine BS_f (by assumption) ?_; conv => whnf) | (refine atG (by first | assumption | exact setG_same _ _ _) ?_; conv => whnf) | (refine (nthK_iff _ _).2 ⟨_, (by assumption), ?_⟩; conv => whnf) | (refine Exists.intro _ (And.intro (And.intro (by omega) (by assumption)) ?_); conv => whnf) | (refine And.intro (by first | decide | omega) ?_; conv => whnf) | fail)
  refine draw_sound (eff := []) tt_ok (by kernel_rfl) (by kernel_rfl) ?_; conv => whnf
  repeat' (first | (refine BS_t (by assumption) ?_; conv => whnf) | (refine BS_f (by assumption) ?_; conv => whnf) | (refine atG (by first | assumption | exact setG_same _ _ _) ?_; conv => whnf) | (refine (nthK_iff _ _).2 ⟨_, (by assumption), ?_⟩; conv => whnf) | (refine Exists.intro _ (And.intro (And.intro (by omega) (by assumption)) ?_); conv => whnf) | (refine And.intro (by first | decide | omega) ?_; conv => whnf) | fail)
  refine nthK_at (i := o.toNat) (by show 0 + 0 + o.toNat * 1 = _; omega) h0 ?_; conv => whnf
  repeat' (first | (refine BS_t (by assumption) ?_; conv => whnf) | (refine BS_f (by assumption) ?_; conv => whnf) | (refine atG (by first | assumption | exact setG_same _ _ _) ?_; conv => whnf) | (refine (nthK_iff _ _).2 ⟨_, (by assumption), ?_⟩; conv => whnf) | (refine Exists.intro _ (And.intro (And.intro (by omega) (by assumption)) ?_); conv => whnf) | (refine And.intro (by first | decide | omega) ?_; conv => whnf) | fail)
  have hw : IntKind.i64.wrap ((t.es o.toNat : Int) + 1) = ((t.es o.toNat + 1 : Nat) : Int) := by rw [IntWalk.i64_in _ (by omega)]; omega
  rw [hw]
  refine puts1_at (i := o.toNat) (by show 0 + 0 + o.toNat * 1 = _; omega) (by omega) ?_; conv => whnf
  have h0' : (cells.set o.toNat (AV.int .i64 ((t.es o.toNat + 1 : Nat) : Int)))[o.toNat]? = some (.int .i64 ((t.es o.toNat + 1 : Nat) : Int)) := by rw [List.getElem?_set_self (by omega)]
  repeat' (first | (refine BS_t (by assumption) ?_; conv => whnf) | (refine BS_f (by assumption) ?_; conv => whnf) | (refine atG (by first | assumption | exact setG_same _ _ _) ?_; conv => whnf) | (refine (nthK_iff _ _).2 ⟨_, (by assumption), ?_⟩; conv => whnf) | (refine Exists.intro _ (And.intro (And.intro (by omega) (by assumption)) ?_); conv => whnf) | (refine And.intro (by first | decide | omega) ?_; conv => whnf) | fail)
  refine nthK_at (i := o.toNat) (by show 0 + 0 + o.toNat * 1 = _; omega) h0' ?_; conv => whnf
  repeat' (first | (refine BS_t (by assumption) ?_; conv => whnf) | (refine BS_f (by assumption) ?_; conv => whnf) | (refine atG (by first | assumption | exact setG_same _ _ _) ?_; conv => whnf) | (refine (nthK_iff _ _).2 ⟨_, (by assumption), ?_⟩; conv => whnf) | (refine Exists.intro _ (And.intro (And.intro (by omega) (by assumption)) ?_); conv => whnf) | (refine And.intro (by first | decide | omega) ?_; conv => whnf) | fail)
  refine CallOk.eqArgs (args' := [.int .u64 n, .int .u64 ((256 * (t.es o.toNat + 1) + o.toNat : Nat) : Int)]) ?_ ((mix_ok n (256 * (t.es o.toNat + 1) + o.toNat) _ hn (by omega)).on ?_)
  · show [_, AV.int .u64 (IntKind.u64.wrap (IntKind.u64.wrap (IntKind.u64.wrap ((t.es o.toNat + 1 : Nat) : Int) * 256) + IntKind.u64.wrap o))] = _
    congr 3
    simp only [IntKind.wrap_u64]
    omega
  conv => whnf
  repeat' (first | (refine BS_t (by assumption) ?_; conv => whnf) | (refine BS_f (by assumption) ?_; conv => whnf) | (refine atG (by first | assumption | exact setG_same _ _ _) ?_; conv => whnf) | (refine (nthK_iff _ _).2 ⟨_, (by assumption), ?_⟩; conv => whnf) | (refine Exists.intro _ (And.intro (And.intro (by omega) (by assumption)) ?_); conv => whnf) | (refine And.intro (by first | decide | omega) ?_; conv => whnf) | fail)
  have hT : (if (1 : Int) > ((mixN n (256 * (t.es o.toNat + 1) + o.toNat) : Nat) : Int) then (1 : Int) else ((mixN n (256 * (t.es o.toNat + 1) + o.toNat) : Nat) : Int)) = (tagN n (t.es o.toNat + 1) o.toNat : Nat) := by
    rw [← tagN_max]
    split <;> omega
  refine puts2_at (i := 9 + o.toNat * 2) (by show 0 + 9 + o.toNat * 2 = _; omega) (by simp; omega) ?_; conv => whnf
  refine ⟨_, fun _ _ h => h, by rw [← hT], _, cd', setG_twice _ _ _ _, ?_, hi'⟩
  refine ⟨by simp [hl], fun p hp => ?_, fun p hp => ?_, fun p hp => ?_⟩
  · rw [List.getElem?_set_ne (by omega), List.getElem?_set_ne (by omega)]
    unfold Tab.issue
    simp only
    by_cases he : p = o.toNat
    · subst he; rw [List.getElem?_set_self (by omega), if_pos rfl]
    · rw [List.getElem?_set_ne (by omega), if_neg he]; exact ht.es p hp
  · unfold Tab.issue
    simp only
    rw [List.getElem?_set_ne (by omega)]
    by_cases he : p = o.toNat
    · subst he; rw [List.getElem?_set_self (by simp; omega), if_pos rfl]
    · rw [List.getElem?_set_ne (by omega), List.getElem?_set_ne (by omega), if_neg he]; exact ht.b0 p hp
  · unfold Tab.issue
    simp only
    by_cases he : p = o.toNat
    · subst he; rw [List.getElem?_set_self (by simp; omega), if_pos rfl, ← hT]
    · rw [List.getElem?_set_ne (by omega), List.getElem?_set_ne (by omega), List.getElem?_set_ne (by omega), if_neg he]; exact ht.b1 p hp
end Go.Proofs.Ytmmmaekaoanceaa
