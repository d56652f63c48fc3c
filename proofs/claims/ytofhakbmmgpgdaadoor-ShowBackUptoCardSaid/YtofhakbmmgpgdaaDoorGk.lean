/- One text out of several: ShoA, ShoB, ShoC, ShoD, ShoE. -/
import Derived.Test.YtofhakbmmgpgdaaDoorIto
import Derived.Test.YtofhakbmmgpgdaaDoorOutB
import Derived.Test.YtofhakbmmgpgdaaDoorGh
import Derived.Test.YtofhakbmmgpgdaaDoorGj
import Derived.Test.YtofhakbmmgpgdaaDoorPrm

section
/- show's small functions in the abstract run: put, name, tag, word, arity, done. -/
set_option maxRecDepth 100000
set_option linter.unusedSimpArgs false
namespace Go.Proofs.YtofhakbmmgpgdaaDoor
open Go Go.RowKit Go.Proofs Go.Shelf

/-- what is written so far, and whether all may be told -/
def oB (s : List UInt8) (ok : Bool) : GB := .obld 90 (S s) (.bool ok)
theorem oB_at (s : List UInt8) (ok : Bool) : oB s ok = .obld 90 (S s) (.bool ok) := rfl
theorem oB_np (s : List UInt8) (ok : Bool) : ∀ k o, oB s ok ≠ .pin k o := fun k o h => by cases h
theorem MaxOk.del {G : Glob} (h : MaxOk G) {b : Nat} {x : GB} (hb : G b = some x) (hx : ∀ k o, x ≠ .pin k o) : MaxOk (delG G b) := by
  obtain ⟨c, o, m, h1, h2⟩ := h
  refine ⟨c, o, m, ?_, h2⟩
  rw [delG_ne _ (by rintro rfl; rw [hb, Option.some.injEq] at h1; exact hx _ _ h1)]
  exact h1
/-- both of the library's variables -/
def LibOk (G : Glob) : Prop := MaxOk G ∧ PowOk G
theorem LibOk.set {G : Glob} (h : LibOk G) {pb : Nat} {s : List UInt8} {ok : Bool} (hG : G pb = some (oB s ok)) (s' : List UInt8) (ok' : Bool) : LibOk (setG G pb (oB s' ok')) := ⟨h.1.set hG (oB_np s ok) _, h.2.set hG (oB_np s ok) _⟩
theorem strs_at (ws : List (List UInt8)) (k : Nat) (w : List UInt8) (h : ws[k]? = some w) : (ws.map fun w => [AV.str (S w)])[((k : Nat) : Int).toNat]? = some [AV.str (S w)] := by
  rw [Int.toNat_natCast, List.getElem?_map, h]; rfl
theorem flat_take (ws : List (List UInt8)) (k : Nat) (w : List UInt8) (h : ws[k]? = some w) : (ws.take (k + 1)).flatten = (ws.take k).flatten ++ w := by
  rw [List.take_add_one, h]; simp
theorem flat_le : ∀ (ws : List (List UInt8)) (k : Nat), (ws.take k).flatten.length ≤ ws.flatten.length
  | [], k => by simp
  | w :: ws, 0 => by simp
  | w :: ws, k + 1 => by have := flat_le ws k; simp only [List.take_succ_cons, List.flatten_cons, List.length_append]; omega
theorem put_ok (ws : List (List UInt8)) {s : List UInt8} {ok : Bool} {pb : Nat} {G : Glob} (hG : G pb = some (oB s ok)) (hl : s.length + ws.flatten.length ≤ 140737488355328) (hn : ws.length ≤ 1000) :
    CallOk Tryd.prog TT 79 [.gptr pb 0, .slc 9 (ws.map fun w => [AV.str (S w)])] G (fun v G' => v = .tup [] ∧ G' = setG G pb (oB (s ++ ws.flatten) ok)) := by
  have hlen : (ws.map fun w => [AV.str (S w)]).length = ws.length := by simp
  refine call_sem tt_ok Tryd.func79 rfl (by kernel_rfl) Tryd.ntmps79 Tryd.results79 ?_; conv => whnf
  repeat' (first | ((first | refine Sem.reg tt_ok ?_ | refine Sem.condS ?_ | refine Sem.regL tt_ok ?_ | refine Sem.skip tt_ok ?_ | refine Sem.exit tt_ok ?_ | refine Sem.ret tt_ok ?_ | refine BS_t (by assumption) ?_ | refine BS_f (by assumption) ?_ | refine atG (by first | assumption | exact setG_same _ _ _) ?_ | refine (nthK_iff _ _).2 ⟨_, (by assumption), ?_⟩ | refine ⟨_, ⟨(by omega), (by assumption)⟩, ?_⟩ | refine And.intro (by first | decide | omega) ?_ | fail); conv => whnf) | refine Sem.seqS ?_ | refine Sem.block ?_ | fail)
  refine Sem.loop (ι := {k : Nat // k ≤ ws.length}) (fun x => ⟨(.gptr pb 0 :: .top :: .top :: .top :: .top :: .top :: .slc 9 (ws.map fun w => [AV.str (S w)]) :: .int .i64 ((ws.map fun w => [AV.str (S w)]).length : Nat) :: .int .i64 (x.1 : Nat) :: .top :: .top :: .top :: .top :: .top :: .top :: .top :: .top :: .top :: []), [], 0, 0, setG G pb (oB (s ++ (ws.take x.1).flatten) ok)⟩) (fun x => ws.length - x.1) ⟨0, Nat.zero_le _⟩ ?_ (fun x => ?_)
  · refine weak_by [] ?_; (conv => whnf); repeat (first | (refine And.intro rfl ?_; conv => whnf) | fail)
    refine ⟨fun i y hy => ?_, rfl, by decide, rfl, rfl⟩
    rw [List.take_zero, List.flatten_nil, List.append_nil, setG_back hG] at hy; exact hy
  obtain ⟨k, hk⟩ := x
  simp only
  have h0 : (0 : Int) ≤ ((k : Nat) : Int) := by omega
  by_cases hlt : k < ws.length
  · obtain ⟨w, hw⟩ : ∃ w, ws[k]? = some w := ⟨_, List.getElem?_eq_getElem hlt⟩
    have t1 : decide (((k : Nat) : Int) < ((ws.map fun w => [AV.str (S w)]).length : Nat)) = true := by simp; omega
    have hm := strs_at ws k w hw
    have hft := flat_take ws k w hw
    have hfl := flat_le ws (k + 1)
    have hi : IntKind.i64.wrap ((k : Int) + 1) = ((k + 1 : Nat) : Int) := by rw [IntWalk.i64_in _ (by omega)]; omega
    have hsz : (S (s ++ (ws.take k).flatten)).size + (S w).size ≤ 140737488355328 := by
      rw [S_size, S_size, List.length_append]
      rw [hft, List.length_append] at hfl
      omega
    have hc := owrite_ok (S (s ++ (ws.take k).flatten)) (S w) (.bool ok) pb (setG G pb (oB (s ++ (ws.take k).flatten) ok)) (setG_same _ _ _) hsz
    rw [setG_twice, S_append, List.append_assoc, ← hft] at hc
    repeat' (first | ((first | refine Sem.reg tt_ok ?_ | refine Sem.condS ?_ | refine Sem.regL tt_ok ?_ | refine Sem.skip tt_ok ?_ | refine Sem.exit tt_ok ?_ | refine Sem.ret tt_ok ?_ | refine BS_t (by assumption) ?_ | refine BS_f (by assumption) ?_ | refine atG (by first | assumption | exact setG_same _ _ _) ?_ | refine (nthK_iff _ _).2 ⟨_, (by assumption), ?_⟩ | refine ⟨_, ⟨(by omega), (by assumption)⟩, ?_⟩ | refine And.intro (by first | decide | omega) ?_ | fail); conv => whnf) | refine Sem.seqS ?_ | refine Sem.block ?_ | fail)
    refine hc.on ?_; conv => whnf
    repeat' (first | ((first | refine Sem.reg tt_ok ?_ | refine Sem.condS ?_ | refine Sem.regL tt_ok ?_ | refine Sem.skip tt_ok ?_ | refine Sem.exit tt_ok ?_ | refine Sem.ret tt_ok ?_ | refine BS_t (by assumption) ?_ | refine BS_f (by assumption) ?_ | refine atG (by first | assumption | exact setG_same _ _ _) ?_ | refine (nthK_iff _ _).2 ⟨_, (by assumption), ?_⟩ | refine ⟨_, ⟨(by omega), (by assumption)⟩, ?_⟩ | refine And.intro (by first | decide | omega) ?_ | fail); conv => whnf) | refine Sem.seqS ?_ | refine Sem.block ?_ | fail)
    refine ⟨⟨k + 1, by omega⟩, by show ws.length - (k + 1) < ws.length - k; omega, ?_⟩
    refine weak_by [] ?_; (conv => whnf); repeat (first | (refine And.intro rfl ?_; conv => whnf) | fail)
    refine And.intro hi ?_
    (conv => whnf); repeat (first | (refine And.intro rfl ?_; conv => whnf) | fail)
    exact ⟨fun i y hy => hy, rfl, by decide, rfl, rfl⟩
  · have t1 : decide (((k : Nat) : Int) < ((ws.map fun w => [AV.str (S w)]).length : Nat)) = false := by simp; omega
    have hk' : k = ws.length := by omega
    subst hk'
    rw [List.take_length]
    repeat' (first | ((first | refine Sem.reg tt_ok ?_ | refine Sem.condS ?_ | refine Sem.regL tt_ok ?_ | refine Sem.skip tt_ok ?_ | refine Sem.exit tt_ok ?_ | refine Sem.ret tt_ok ?_ | refine BS_t (by assumption) ?_ | refine BS_f (by assumption) ?_ | refine atG (by first | assumption | exact setG_same _ _ _) ?_ | refine (nthK_iff _ _).2 ⟨_, (by assumption), ?_⟩ | refine ⟨_, ⟨(by omega), (by assumption)⟩, ?_⟩ | refine And.intro (by first | decide | omega) ?_ | fail); conv => whnf) | refine Sem.seqS ?_ | refine Sem.block ?_ | fail)
    exact ⟨_, fun _ _ h => h, rfl, rfl⟩
theorem uname_ok (s : List UInt8) (hs : s.length ≤ 140737488355328) (G : Glob) : CallOk Tryd.prog TT 106 [.str (S s)] G (fun v G' => v = .bool (nmB s) ∧ G' = G) := by
  refine .of_gives ⟨_, Tryd.func106, by decide, rfl⟩ fun g us w hl hd => ?_
  obtain ⟨us⟩ := us
  match us, hl with
  | [u0], _ =>
    cases hd 0 _ u0 rfl rfl
    have h := uname_any (S s) w (by rw [S_size]; exact hs)
    rw [S_list] at h
    exact ⟨_, .bool _, h⟩
theorem sname_ok (nm : List UInt8) (hn : nm.length ≤ 140737488355328) {s : List UInt8} {ok : Bool} {pb : Nat} {G : Glob} (hG : G pb = some (oB s ok)) (hL : LibOk G) :
    CallOk Tryd.prog TT 80 [.gptr pb 0, .str (S nm)] G (fun v G' => v = .str (S nm) ∧ G' = setG G pb (oB s (ok && nameOk nm))) := by
  have h1 := uname_ok nm hn G
  have h2 := pword_ok nm (by omega) hL.1
  unfold nameOk
  rw [oB_at] at hG
  cases ok with
  | false =>
    refine call_sem tt_ok Tryd.func80 rfl (by kernel_rfl) Tryd.ntmps80 Tryd.results80 ?_; conv => whnf
    repeat' (first | ((first | refine Sem.reg tt_ok ?_ | refine Sem.condS ?_ | refine Sem.regL tt_ok ?_ | refine Sem.skip tt_ok ?_ | refine Sem.exit tt_ok ?_ | refine Sem.ret tt_ok ?_ | refine BS_t (by assumption) ?_ | refine BS_f (by assumption) ?_ | refine atG (by first | assumption | exact setG_same _ _ _) ?_ | refine (nthK_iff _ _).2 ⟨_, (by assumption), ?_⟩ | refine ⟨_, ⟨(by omega), (by assumption)⟩, ?_⟩ | refine And.intro (by first | decide | omega) ?_ | fail); conv => whnf) | refine Sem.seqS ?_ | refine Sem.block ?_ | fail)
    exact ⟨_, fun _ _ h => h, rfl, rfl⟩
  | true =>
    cases hb : nmB nm with
    | false =>
      rw [hb] at h1
      refine call_sem tt_ok Tryd.func80 rfl (by kernel_rfl) Tryd.ntmps80 Tryd.results80 ?_; conv => whnf
      repeat' (first | ((first | refine Sem.reg tt_ok ?_ | refine Sem.condS ?_ | refine Sem.regL tt_ok ?_ | refine Sem.skip tt_ok ?_ | refine Sem.exit tt_ok ?_ | refine Sem.ret tt_ok ?_ | refine BS_t (by assumption) ?_ | refine BS_f (by assumption) ?_ | refine atG (by first | assumption | exact setG_same _ _ _) ?_ | refine (nthK_iff _ _).2 ⟨_, (by assumption), ?_⟩ | refine ⟨_, ⟨(by omega), (by assumption)⟩, ?_⟩ | refine And.intro (by first | decide | omega) ?_ | fail); conv => whnf) | refine Sem.seqS ?_ | refine Sem.block ?_ | fail)
      refine h1.on ?_; conv => whnf
      repeat' (first | ((first | refine Sem.reg tt_ok ?_ | refine Sem.condS ?_ | refine Sem.regL tt_ok ?_ | refine Sem.skip tt_ok ?_ | refine Sem.exit tt_ok ?_ | refine Sem.ret tt_ok ?_ | refine BS_t (by assumption) ?_ | refine BS_f (by assumption) ?_ | refine atG (by first | assumption | exact setG_same _ _ _) ?_ | refine (nthK_iff _ _).2 ⟨_, (by assumption), ?_⟩ | refine ⟨_, ⟨(by omega), (by assumption)⟩, ?_⟩ | refine And.intro (by first | decide | omega) ?_ | fail); conv => whnf) | refine Sem.seqS ?_ | refine Sem.block ?_ | fail)
      exact ⟨_, fun _ _ h => h, rfl, rfl⟩
    | true =>
      rw [hb] at h1
      refine call_sem tt_ok Tryd.func80 rfl (by kernel_rfl) Tryd.ntmps80 Tryd.results80 ?_; conv => whnf
      repeat' (first | ((first | refine Sem.reg tt_ok ?_ | refine Sem.condS ?_ | refine Sem.regL tt_ok ?_ | refine Sem.skip tt_ok ?_ | refine Sem.exit tt_ok ?_ | refine Sem.ret tt_ok ?_ | refine BS_t (by assumption) ?_ | refine BS_f (by assumption) ?_ | refine atG (by first | assumption | exact setG_same _ _ _) ?_ | refine (nthK_iff _ _).2 ⟨_, (by assumption), ?_⟩ | refine ⟨_, ⟨(by omega), (by assumption)⟩, ?_⟩ | refine And.intro (by first | decide | omega) ?_ | fail); conv => whnf) | refine Sem.seqS ?_ | refine Sem.block ?_ | fail)
      refine h1.on ?_; conv => whnf
      repeat' (first | ((first | refine Sem.reg tt_ok ?_ | refine Sem.condS ?_ | refine Sem.regL tt_ok ?_ | refine Sem.skip tt_ok ?_ | refine Sem.exit tt_ok ?_ | refine Sem.ret tt_ok ?_ | refine BS_t (by assumption) ?_ | refine BS_f (by assumption) ?_ | refine atG (by first | assumption | exact setG_same _ _ _) ?_ | refine (nthK_iff _ _).2 ⟨_, (by assumption), ?_⟩ | refine ⟨_, ⟨(by omega), (by assumption)⟩, ?_⟩ | refine And.intro (by first | decide | omega) ?_ | fail); conv => whnf) | refine Sem.seqS ?_ | refine Sem.block ?_ | fail)
      refine h2.on ?_; conv => whnf
      repeat' (first | ((first | refine Sem.reg tt_ok ?_ | refine Sem.condS ?_ | refine Sem.regL tt_ok ?_ | refine Sem.skip tt_ok ?_ | refine Sem.exit tt_ok ?_ | refine Sem.ret tt_ok ?_ | refine BS_t (by assumption) ?_ | refine BS_f (by assumption) ?_ | refine atG (by first | assumption | exact setG_same _ _ _) ?_ | refine (nthK_iff _ _).2 ⟨_, (by assumption), ?_⟩ | refine ⟨_, ⟨(by omega), (by assumption)⟩, ?_⟩ | refine And.intro (by first | decide | omega) ?_ | fail); conv => whnf) | refine Sem.seqS ?_ | refine Sem.block ?_ | fail)
      exact ⟨_, fun _ _ h => h, rfl, rfl⟩
theorem stag_ok (n : Int) (h0 : -9223372036854775808 ≤ n) (h1 : n ≤ 9223372036854775807) {s : List UInt8} {ok : Bool} {pb : Nat} {G : Glob} (hG : G pb = some (oB s ok)) (hL : LibOk G) :
    CallOk Tryd.prog TT 108 [.gptr pb 0, .int .i64 n] G (fun v G' => v = .str (S (Lib.itoa n)) ∧ G' = setG G pb (oB s (ok && tagOk n))) := by
  have hi := fun b => itoa_ok n h0 h1 (hL.set hG s b).2
  unfold tagOk
  unfold oB at hi ⊢
  rw [oB_at] at hG
  cases ok with
  | false =>
    refine call_sem tt_ok Tryd.func108 rfl (by kernel_rfl) Tryd.ntmps108 Tryd.results108 ?_; conv => whnf
    repeat' (first | ((first | refine Sem.reg tt_ok ?_ | refine Sem.condS ?_ | refine Sem.regL tt_ok ?_ | refine Sem.skip tt_ok ?_ | refine Sem.exit tt_ok ?_ | refine Sem.ret tt_ok ?_ | refine BS_t (by assumption) ?_ | refine BS_f (by assumption) ?_ | refine atG (by first | assumption | exact setG_same _ _ _) ?_ | refine (nthK_iff _ _).2 ⟨_, (by assumption), ?_⟩ | refine ⟨_, ⟨(by omega), (by assumption)⟩, ?_⟩ | refine And.intro (by first | decide | omega) ?_ | fail); conv => whnf) | refine Sem.seqS ?_ | refine Sem.block ?_ | fail)
    refine (hi false).on ?_; conv => whnf
    repeat' (first | ((first | refine Sem.reg tt_ok ?_ | refine Sem.condS ?_ | refine Sem.regL tt_ok ?_ | refine Sem.skip tt_ok ?_ | refine Sem.exit tt_ok ?_ | refine Sem.ret tt_ok ?_ | refine BS_t (by assumption) ?_ | refine BS_f (by assumption) ?_ | refine atG (by first | assumption | exact setG_same _ _ _) ?_ | refine (nthK_iff _ _).2 ⟨_, (by assumption), ?_⟩ | refine ⟨_, ⟨(by omega), (by assumption)⟩, ?_⟩ | refine And.intro (by first | decide | omega) ?_ | fail); conv => whnf) | refine Sem.seqS ?_ | refine Sem.block ?_ | fail)
    exact ⟨_, fun _ _ h => h, rfl, rfl⟩
  | true =>
    by_cases h : n ≥ 0
    · have t1 : decide (n ≥ 0) = true := decide_eq_true h
      have hi := hi (decide (n ≤ 9999))
      rw [t1]
      refine call_sem tt_ok Tryd.func108 rfl (by kernel_rfl) Tryd.ntmps108 Tryd.results108 ?_; conv => whnf
      repeat' (first | ((first | refine Sem.reg tt_ok ?_ | refine Sem.condS ?_ | refine Sem.regL tt_ok ?_ | refine Sem.skip tt_ok ?_ | refine Sem.exit tt_ok ?_ | refine Sem.ret tt_ok ?_ | refine BS_t (by assumption) ?_ | refine BS_f (by assumption) ?_ | refine atG (by first | assumption | exact setG_same _ _ _) ?_ | refine (nthK_iff _ _).2 ⟨_, (by assumption), ?_⟩ | refine ⟨_, ⟨(by omega), (by assumption)⟩, ?_⟩ | refine And.intro (by first | decide | omega) ?_ | fail); conv => whnf) | refine Sem.seqS ?_ | refine Sem.block ?_ | fail)
      refine hi.on ?_; conv => whnf
      repeat' (first | ((first | refine Sem.reg tt_ok ?_ | refine Sem.condS ?_ | refine Sem.regL tt_ok ?_ | refine Sem.skip tt_ok ?_ | refine Sem.exit tt_ok ?_ | refine Sem.ret tt_ok ?_ | refine BS_t (by assumption) ?_ | refine BS_f (by assumption) ?_ | refine atG (by first | assumption | exact setG_same _ _ _) ?_ | refine (nthK_iff _ _).2 ⟨_, (by assumption), ?_⟩ | refine ⟨_, ⟨(by omega), (by assumption)⟩, ?_⟩ | refine And.intro (by first | decide | omega) ?_ | fail); conv => whnf) | refine Sem.seqS ?_ | refine Sem.block ?_ | fail)
      exact ⟨_, fun _ _ h => h, rfl, rfl⟩
    · have t1 : decide (n ≥ 0) = false := decide_eq_false h
      have hi := hi false
      rw [t1]
      refine call_sem tt_ok Tryd.func108 rfl (by kernel_rfl) Tryd.ntmps108 Tryd.results108 ?_; conv => whnf
      repeat' (first | ((first | refine Sem.reg tt_ok ?_ | refine Sem.condS ?_ | refine Sem.regL tt_ok ?_ | refine Sem.skip tt_ok ?_ | refine Sem.exit tt_ok ?_ | refine Sem.ret tt_ok ?_ | refine BS_t (by assumption) ?_ | refine BS_f (by assumption) ?_ | refine atG (by first | assumption | exact setG_same _ _ _) ?_ | refine (nthK_iff _ _).2 ⟨_, (by assumption), ?_⟩ | refine ⟨_, ⟨(by omega), (by assumption)⟩, ?_⟩ | refine And.intro (by first | decide | omega) ?_ | fail); conv => whnf) | refine Sem.seqS ?_ | refine Sem.block ?_ | fail)
      refine hi.on ?_; conv => whnf
      repeat' (first | ((first | refine Sem.reg tt_ok ?_ | refine Sem.condS ?_ | refine Sem.regL tt_ok ?_ | refine Sem.skip tt_ok ?_ | refine Sem.exit tt_ok ?_ | refine Sem.ret tt_ok ?_ | refine BS_t (by assumption) ?_ | refine BS_f (by assumption) ?_ | refine atG (by first | assumption | exact setG_same _ _ _) ?_ | refine (nthK_iff _ _).2 ⟨_, (by assumption), ?_⟩ | refine ⟨_, ⟨(by omega), (by assumption)⟩, ?_⟩ | refine And.intro (by first | decide | omega) ?_ | fail); conv => whnf) | refine Sem.seqS ?_ | refine Sem.block ?_ | fail)
      exact ⟨_, fun _ _ h => h, rfl, rfl⟩
theorem kinds_by (k : Int) : k = 1 ∨ k = 2 ∨ k = 3 ∨ k = 4 ∨ k = 5 ∨ k = 6 ∨ k = 7 ∨ k = 8 ∨ k = 9 ∨ (k ≠ 1 ∧ k ≠ 2 ∧ k ≠ 3 ∧ k ≠ 4 ∧ k ≠ 5 ∧ k ≠ 6 ∧ k ≠ 7 ∧ k ≠ 8 ∧ k ≠ 9) := by omega
theorem sword_ok (k : Int) (G : Glob) : CallOk Tryd.prog TT 128 [.int .i64 k] G (fun v G' => v = .str (S (wordT k)) ∧ G' = G) := by
  rcases kinds_by k with rfl | rfl | rfl | rfl | rfl | rfl | rfl | rfl | rfl | ⟨h1, h2, h3, h4, h5, h6, h7, h8, h9⟩
  rotate_right
  · have t1 : (k == 1) = false := by simpa using h1
    have t2 : (k == 2) = false := by simpa using h2
    have t3 : (k == 3) = false := by simpa using h3
    have t4 : (k == 4) = false := by simpa using h4
    have t5 : (k == 5) = false := by simpa using h5
    have t7 : (k == 7) = false := by simpa using h7
    have t8 : (k == 8) = false := by simpa using h8
    have e : wordT k = [] := by unfold wordT; rw [if_neg h1, if_neg h2, if_neg h3, if_neg h4, if_neg h5, if_neg h7, if_neg h8]
    rw [e]
    refine call_sem tt_ok Tryd.func128 rfl (by kernel_rfl) Tryd.ntmps128 Tryd.results128 ?_; conv => whnf
    repeat' (first | ((first | refine Sem.reg tt_ok ?_ | refine Sem.condS ?_ | refine Sem.regL tt_ok ?_ | refine Sem.skip tt_ok ?_ | refine Sem.exit tt_ok ?_ | refine Sem.ret tt_ok ?_ | refine BS_t (by assumption) ?_ | refine BS_f (by assumption) ?_ | refine atG (by first | assumption | exact setG_same _ _ _) ?_ | refine (nthK_iff _ _).2 ⟨_, (by assumption), ?_⟩ | refine ⟨_, ⟨(by omega), (by assumption)⟩, ?_⟩ | refine And.intro (by first | decide | omega) ?_ | fail); conv => whnf) | refine Sem.seqS ?_ | refine Sem.block ?_ | fail)
    exact ⟨_, fun _ _ h => h, rfl, rfl⟩
  all_goals
    refine call_sem tt_ok Tryd.func128 rfl (by kernel_rfl) Tryd.ntmps128 Tryd.results128 ?_; conv => whnf
    repeat' (first | ((first | refine Sem.reg tt_ok ?_ | refine Sem.condS ?_ | refine Sem.regL tt_ok ?_ | refine Sem.skip tt_ok ?_ | refine Sem.exit tt_ok ?_ | refine Sem.ret tt_ok ?_ | refine BS_t (by assumption) ?_ | refine BS_f (by assumption) ?_ | refine atG (by first | assumption | exact setG_same _ _ _) ?_ | refine (nthK_iff _ _).2 ⟨_, (by assumption), ?_⟩ | refine ⟨_, ⟨(by omega), (by assumption)⟩, ?_⟩ | refine And.intro (by first | decide | omega) ?_ | fail); conv => whnf) | refine Sem.seqS ?_ | refine Sem.block ?_ | fail)
    exact ⟨_, fun _ _ h => h, rfl, rfl⟩
theorem sarity_ok (k : Int) (G : Glob) : CallOk Tryd.prog TT 127 [.int .i64 k] G (fun v G' => v = .int .i64 (arityT k : Nat) ∧ G' = G) := by
  rcases kinds_by k with rfl | rfl | rfl | rfl | rfl | rfl | rfl | rfl | rfl | ⟨h1, h2, h3, h4, h5, h6, h7, h8, h9⟩
  rotate_right
  · have t7 : (k == 7) = false := by simpa using h7
    have t8 : (k == 8) = false := by simpa using h8
    have t9 : (k == 9) = false := by simpa using h9
    have e : arityT k = 0 := by unfold arityT; rw [if_neg (by omega), if_neg h8]
    rw [e]
    refine call_sem tt_ok Tryd.func127 rfl (by kernel_rfl) Tryd.ntmps127 Tryd.results127 ?_; conv => whnf
    repeat' (first | ((first | refine Sem.reg tt_ok ?_ | refine Sem.condS ?_ | refine Sem.regL tt_ok ?_ | refine Sem.skip tt_ok ?_ | refine Sem.exit tt_ok ?_ | refine Sem.ret tt_ok ?_ | refine BS_t (by assumption) ?_ | refine BS_f (by assumption) ?_ | refine atG (by first | assumption | exact setG_same _ _ _) ?_ | refine (nthK_iff _ _).2 ⟨_, (by assumption), ?_⟩ | refine ⟨_, ⟨(by omega), (by assumption)⟩, ?_⟩ | refine And.intro (by first | decide | omega) ?_ | fail); conv => whnf) | refine Sem.seqS ?_ | refine Sem.block ?_ | fail)
    exact ⟨_, fun _ _ h => h, rfl, rfl⟩
  all_goals
    refine call_sem tt_ok Tryd.func127 rfl (by kernel_rfl) Tryd.ntmps127 Tryd.results127 ?_; conv => whnf
    repeat' (first | ((first | refine Sem.reg tt_ok ?_ | refine Sem.condS ?_ | refine Sem.regL tt_ok ?_ | refine Sem.skip tt_ok ?_ | refine Sem.exit tt_ok ?_ | refine Sem.ret tt_ok ?_ | refine BS_t (by assumption) ?_ | refine BS_f (by assumption) ?_ | refine atG (by first | assumption | exact setG_same _ _ _) ?_ | refine (nthK_iff _ _).2 ⟨_, (by assumption), ?_⟩ | refine ⟨_, ⟨(by omega), (by assumption)⟩, ?_⟩ | refine And.intro (by first | decide | omega) ?_ | fail); conv => whnf) | refine Sem.seqS ?_ | refine Sem.block ?_ | fail)
    exact ⟨_, fun _ _ h => h, rfl, rfl⟩
theorem sdone_ok {s : List UInt8} {ok : Bool} {pb : Nat} {G : Glob} (hG : G pb = some (oB s ok)) :
    CallOk Tryd.prog TT 54 [.gptr pb 0] G (fun v G' => v = .tup [.str (S (if ok = true then s else [])), .int .i64 (if ok = true then 0 else 1)] ∧ G' = if ok = true then delG G pb else G) := by
  have hc := ostring_ok (S s) (.bool ok) pb G hG
  rw [oB_at] at hG
  cases ok with
  | false =>
    refine call_sem tt_ok Tryd.func54 rfl (by kernel_rfl) Tryd.ntmps54 Tryd.results54 ?_; conv => whnf
    repeat' (first | ((first | refine Sem.reg tt_ok ?_ | refine Sem.condS ?_ | refine Sem.regL tt_ok ?_ | refine Sem.skip tt_ok ?_ | refine Sem.exit tt_ok ?_ | refine Sem.ret tt_ok ?_ | refine BS_t (by assumption) ?_ | refine BS_f (by assumption) ?_ | refine atG (by first | assumption | exact setG_same _ _ _) ?_ | refine (nthK_iff _ _).2 ⟨_, (by assumption), ?_⟩ | refine ⟨_, ⟨(by omega), (by assumption)⟩, ?_⟩ | refine And.intro (by first | decide | omega) ?_ | fail); conv => whnf) | refine Sem.seqS ?_ | refine Sem.block ?_ | fail)
    exact ⟨_, fun _ _ h => h, rfl, rfl⟩
  | true =>
    refine call_sem tt_ok Tryd.func54 rfl (by kernel_rfl) Tryd.ntmps54 Tryd.results54 ?_; conv => whnf
    repeat' (first | ((first | refine Sem.reg tt_ok ?_ | refine Sem.condS ?_ | refine Sem.regL tt_ok ?_ | refine Sem.skip tt_ok ?_ | refine Sem.exit tt_ok ?_ | refine Sem.ret tt_ok ?_ | refine BS_t (by assumption) ?_ | refine BS_f (by assumption) ?_ | refine atG (by first | assumption | exact setG_same _ _ _) ?_ | refine (nthK_iff _ _).2 ⟨_, (by assumption), ?_⟩ | refine ⟨_, ⟨(by omega), (by assumption)⟩, ?_⟩ | refine And.intro (by first | decide | omega) ?_ | fail); conv => whnf) | refine Sem.seqS ?_ | refine Sem.block ?_ | fail)
    refine hc.on ?_; conv => whnf
    repeat' (first | ((first | refine Sem.reg tt_ok ?_ | refine Sem.condS ?_ | refine Sem.regL tt_ok ?_ | refine Sem.skip tt_ok ?_ | refine Sem.exit tt_ok ?_ | refine Sem.ret tt_ok ?_ | refine BS_t (by assumption) ?_ | refine BS_f (by assumption) ?_ | refine atG (by first | assumption | exact setG_same _ _ _) ?_ | refine (nthK_iff _ _).2 ⟨_, (by assumption), ?_⟩ | refine ⟨_, ⟨(by omega), (by assumption)⟩, ?_⟩ | refine And.intro (by first | decide | omega) ?_ | fail); conv => whnf) | refine Sem.seqS ?_ | refine Sem.block ?_ | fail)
    exact ⟨_, fun _ _ h => h, rfl, rfl⟩
end Go.Proofs.YtofhakbmmgpgdaaDoor
end

section
/- show.typ in the abstract run. -/
set_option maxRecDepth 100000
set_option linter.unusedSimpArgs false
namespace Go.Proofs.YtofhakbmmgpgdaaDoor
open Go Go.RowKit Go.Proofs Go.Shelf

mutual
def GT.av : GT → List AV
  | .mk k nm of => [.int .i64 k, .str (S nm), .slc 81 (GT.avs of)]
def GT.avs : List GT → List (List AV)
  | [] => []
  | t :: r => GT.av t :: GT.avs r
end
theorem avs_map : ∀ l : List GT, GT.avs l = l.map GT.av
  | [] => by rw [GT.avs]; rfl
  | t :: r => by rw [GT.avs, avs_map r]; rfl
theorem avs_len (l : List GT) : (GT.avs l).length = l.length := by rw [avs_map]; simp
theorem avs_at {l : List GT} {i : Nat} {k : Int} {nm : List UInt8} {of : List GT} (h : l[i]? = some (.mk k nm of)) : (GT.avs l)[((i : Nat) : Int).toNat]? = some [.int .i64 k, .str (S nm), .slc 81 (GT.avs of)] := by
  rw [avs_map, Int.toNat_natCast, List.getElem?_map, h, Option.map_some, GT.av]
def TypOkG (t : GT) : Prop := ∀ (deep : Nat) (s : List UInt8) (ok : Bool) (pb : Nat) (G : Glob), deep ≤ 9 → G pb = some (oB s ok) → LibOk G → (typG t deep s ok).1.length ≤ 140737488355328 →
  CallOk Tryd.prog TT 109 [.gptr pb 0, .agg t.av, .int .i64 (deep : Nat)] G (fun v G' => v = .tup [] ∧ G' = setG G pb (oB (typG t deep s ok).1 (typG t deep s ok).2))
structure RowI (of : List GT) where
  k : Nat
  hk : k ≤ of.length
theorem styp_ok : ∀ t, TypOkG t := GT.ind fun kd nm of ih deep s ok pb G hd hG hL hl => by
  have har := sarity_ok kd
  have hwo := sword_ok kd
  have c1 : decide (((deep : Nat) : Int) > 8) = decide (8 < deep) := by rw [Bool.eq_iff_iff]; simp; omega
  have c2 : (!((((GT.avs of).length : Nat) : Int) == ((arityT kd : Nat) : Int))) = !decide (of.length = arityT kd) := by rw [avs_len, Bool.eq_iff_iff]; simp; omega
  have c3 : (!(kd == 6)) = !decide (kd = 6) := by rw [Bool.eq_iff_iff]; simp
  have c4 : (!((S nm).toList == (⟨#[]⟩ : ByteArray).toList)) = !decide (nm = []) := by rw [show (⟨#[]⟩ : ByteArray) = S [] from rfl, seq_S]
  have hav : (GT.mk kd nm of).av = [.int .i64 kd, .str (S nm), .slc 81 (GT.avs of)] := by rw [GT.av]
  have hbad : badT deep kd nm of.length = (decide (8 < deep) || (!decide (of.length = arityT kd) || (!decide (kd = 6) && !decide (nm = [])))) := rfl
  have hT := typG_mk kd nm of deep s ok
  rw [hav]
  have hG' := hG
  rw [oB_at] at hG'
  -- where it may not be
  have bad : badT deep kd nm of.length = true → CallOk Tryd.prog TT 109 [.gptr pb 0, .agg [.int .i64 kd, .str (S nm), .slc 81 (GT.avs of)], .int .i64 (deep : Nat)] G (fun v G' => v = .tup [] ∧ G' = setG G pb (oB s false)) := by
    intro hb
    rw [hbad] at hb
    have hG := hG'
    clear hG' ih hL hl hT
    by_cases d1 : 8 < deep
    · rw [decide_eq_true d1] at c1
      refine call_sem tt_ok Tryd.func109 rfl (by kernel_rfl) Tryd.ntmps109 Tryd.results109 ?_; conv => whnf
      repeat' (first | ((first | refine Sem.reg tt_ok ?_ | refine Sem.condS ?_ | refine Sem.regL tt_ok ?_ | refine Sem.skip tt_ok ?_ | refine Sem.exit tt_ok ?_ | refine Sem.ret tt_ok ?_ | refine BS_t (by assumption) ?_ | refine BS_f (by assumption) ?_ | refine atG (by first | assumption | exact setG_same _ _ _) ?_ | refine (nthK_iff _ _).2 ⟨_, (by assumption), ?_⟩ | refine ⟨_, ⟨(by omega), (by assumption)⟩, ?_⟩ | refine And.intro (by first | decide | omega) ?_ | fail); conv => whnf) | refine Sem.seqS ?_ | refine Sem.block ?_ | fail)
      refine draw_sound (eff := []) tt_ok (by kernel_rfl) (by kernel_rfl) ?_; conv => whnf
      repeat' (first | ((first | refine BS_t (by assumption) ?_ | refine BS_f (by assumption) ?_ | refine (nthK_iff _ _).2 ⟨_, (by assumption), ?_⟩ | refine ⟨_, ⟨(by omega), (by assumption)⟩, ?_⟩ | refine And.intro (by first | decide | omega) ?_ | fail); conv => whnf) | fail)
      repeat' (first | ((first | refine Sem.reg tt_ok ?_ | refine Sem.condS ?_ | refine Sem.regL tt_ok ?_ | refine Sem.skip tt_ok ?_ | refine Sem.exit tt_ok ?_ | refine Sem.ret tt_ok ?_ | refine BS_t (by assumption) ?_ | refine BS_f (by assumption) ?_ | refine atG (by first | assumption | exact setG_same _ _ _) ?_ | refine (nthK_iff _ _).2 ⟨_, (by assumption), ?_⟩ | refine ⟨_, ⟨(by omega), (by assumption)⟩, ?_⟩ | refine And.intro (by first | decide | omega) ?_ | fail); conv => whnf) | refine Sem.seqS ?_ | refine Sem.block ?_ | fail)
      exact ⟨_, fun _ _ h => h, rfl, rfl⟩
    rw [decide_eq_false d1] at c1 hb
    by_cases d2 : of.length = arityT kd
    · rw [decide_eq_true d2] at c2 hb
      simp only [Bool.not_true, Bool.false_or, Bool.and_eq_true] at hb
      rw [hb.1] at c3
      rw [hb.2] at c4
      simp only [Bool.not_true] at c2
      refine call_sem tt_ok Tryd.func109 rfl (by kernel_rfl) Tryd.ntmps109 Tryd.results109 ?_; conv => whnf
      repeat' (first | ((first | refine Sem.reg tt_ok ?_ | refine Sem.condS ?_ | refine Sem.regL tt_ok ?_ | refine Sem.skip tt_ok ?_ | refine Sem.exit tt_ok ?_ | refine Sem.ret tt_ok ?_ | refine BS_t (by assumption) ?_ | refine BS_f (by assumption) ?_ | refine atG (by first | assumption | exact setG_same _ _ _) ?_ | refine (nthK_iff _ _).2 ⟨_, (by assumption), ?_⟩ | refine ⟨_, ⟨(by omega), (by assumption)⟩, ?_⟩ | refine And.intro (by first | decide | omega) ?_ | fail); conv => whnf) | refine Sem.seqS ?_ | refine Sem.block ?_ | fail)
      refine draw_sound (eff := []) tt_ok (by kernel_rfl) (by kernel_rfl) ?_; conv => whnf
      repeat' (first | ((first | refine BS_t (by assumption) ?_ | refine BS_f (by assumption) ?_ | refine (nthK_iff _ _).2 ⟨_, (by assumption), ?_⟩ | refine ⟨_, ⟨(by omega), (by assumption)⟩, ?_⟩ | refine And.intro (by first | decide | omega) ?_ | fail); conv => whnf) | fail)
      refine ⟨_, _, har _, ?_⟩; (conv => whnf); refine And.intro rfl ?_; conv => whnf
      repeat' (first | ((first | refine BS_t (by assumption) ?_ | refine BS_f (by assumption) ?_ | refine (nthK_iff _ _).2 ⟨_, (by assumption), ?_⟩ | refine ⟨_, ⟨(by omega), (by assumption)⟩, ?_⟩ | refine And.intro (by first | decide | omega) ?_ | fail); conv => whnf) | fail)
      repeat' (first | ((first | refine Sem.reg tt_ok ?_ | refine Sem.condS ?_ | refine Sem.regL tt_ok ?_ | refine Sem.skip tt_ok ?_ | refine Sem.exit tt_ok ?_ | refine Sem.ret tt_ok ?_ | refine BS_t (by assumption) ?_ | refine BS_f (by assumption) ?_ | refine atG (by first | assumption | exact setG_same _ _ _) ?_ | refine (nthK_iff _ _).2 ⟨_, (by assumption), ?_⟩ | refine ⟨_, ⟨(by omega), (by assumption)⟩, ?_⟩ | refine And.intro (by first | decide | omega) ?_ | fail); conv => whnf) | refine Sem.seqS ?_ | refine Sem.block ?_ | fail)
      exact ⟨_, fun _ _ h => h, rfl, rfl⟩
    · rw [decide_eq_false d2] at c2
      simp only [Bool.not_false] at c2
      refine call_sem tt_ok Tryd.func109 rfl (by kernel_rfl) Tryd.ntmps109 Tryd.results109 ?_; conv => whnf
      repeat' (first | ((first | refine Sem.reg tt_ok ?_ | refine Sem.condS ?_ | refine Sem.regL tt_ok ?_ | refine Sem.skip tt_ok ?_ | refine Sem.exit tt_ok ?_ | refine Sem.ret tt_ok ?_ | refine BS_t (by assumption) ?_ | refine BS_f (by assumption) ?_ | refine atG (by first | assumption | exact setG_same _ _ _) ?_ | refine (nthK_iff _ _).2 ⟨_, (by assumption), ?_⟩ | refine ⟨_, ⟨(by omega), (by assumption)⟩, ?_⟩ | refine And.intro (by first | decide | omega) ?_ | fail); conv => whnf) | refine Sem.seqS ?_ | refine Sem.block ?_ | fail)
      refine draw_sound (eff := []) tt_ok (by kernel_rfl) (by kernel_rfl) ?_; conv => whnf
      repeat' (first | ((first | refine BS_t (by assumption) ?_ | refine BS_f (by assumption) ?_ | refine (nthK_iff _ _).2 ⟨_, (by assumption), ?_⟩ | refine ⟨_, ⟨(by omega), (by assumption)⟩, ?_⟩ | refine And.intro (by first | decide | omega) ?_ | fail); conv => whnf) | fail)
      refine ⟨_, _, har _, ?_⟩; (conv => whnf); refine And.intro rfl ?_; conv => whnf
      repeat' (first | ((first | refine BS_t (by assumption) ?_ | refine BS_f (by assumption) ?_ | refine (nthK_iff _ _).2 ⟨_, (by assumption), ?_⟩ | refine ⟨_, ⟨(by omega), (by assumption)⟩, ?_⟩ | refine And.intro (by first | decide | omega) ?_ | fail); conv => whnf) | fail)
      repeat' (first | ((first | refine Sem.reg tt_ok ?_ | refine Sem.condS ?_ | refine Sem.regL tt_ok ?_ | refine Sem.skip tt_ok ?_ | refine Sem.exit tt_ok ?_ | refine Sem.ret tt_ok ?_ | refine BS_t (by assumption) ?_ | refine BS_f (by assumption) ?_ | refine atG (by first | assumption | exact setG_same _ _ _) ?_ | refine (nthK_iff _ _).2 ⟨_, (by assumption), ?_⟩ | refine ⟨_, ⟨(by omega), (by assumption)⟩, ?_⟩ | refine And.intro (by first | decide | omega) ?_ | fail); conv => whnf) | refine Sem.seqS ?_ | refine Sem.block ?_ | fail)
      exact ⟨_, fun _ _ h => h, rfl, rfl⟩
  cases hb : badT deep kd nm of.length with
  | true =>
    rw [hT, if_pos (.inl hb)]
    exact bad hb
  | false =>
    clear bad
    rw [hb] at hT
    rw [hbad] at hb
    simp only [Bool.or_eq_false_iff, decide_eq_false_iff_not, Bool.and_eq_false_iff, Bool.not_eq_false', decide_eq_true_eq] at hb
    obtain ⟨d1, d2, d3⟩ := hb
    rw [decide_eq_false d1] at c1
    rw [decide_eq_true d2] at c2
    simp only [Bool.not_true] at c2
    clear hbad
    cases ok with
    | false =>
      rw [if_pos (.inr rfl)] at hT
      rw [hT]
      have hG := hG'
      clear hG' ih hL hl hT
      by_cases k6 : kd = 6
      · rw [decide_eq_true k6] at c3
        simp only [Bool.not_true] at c3
        refine call_sem tt_ok Tryd.func109 rfl (by kernel_rfl) Tryd.ntmps109 Tryd.results109 ?_; conv => whnf
        repeat' (first | ((first | refine Sem.reg tt_ok ?_ | refine Sem.condS ?_ | refine Sem.regL tt_ok ?_ | refine Sem.skip tt_ok ?_ | refine Sem.exit tt_ok ?_ | refine Sem.ret tt_ok ?_ | refine BS_t (by assumption) ?_ | refine BS_f (by assumption) ?_ | refine atG (by first | assumption | exact setG_same _ _ _) ?_ | refine (nthK_iff _ _).2 ⟨_, (by assumption), ?_⟩ | refine ⟨_, ⟨(by omega), (by assumption)⟩, ?_⟩ | refine And.intro (by first | decide | omega) ?_ | fail); conv => whnf) | refine Sem.seqS ?_ | refine Sem.block ?_ | fail)
        refine draw_sound (eff := []) tt_ok (by kernel_rfl) (by kernel_rfl) ?_; conv => whnf
        repeat' (first | ((first | refine BS_t (by assumption) ?_ | refine BS_f (by assumption) ?_ | refine (nthK_iff _ _).2 ⟨_, (by assumption), ?_⟩ | refine ⟨_, ⟨(by omega), (by assumption)⟩, ?_⟩ | refine And.intro (by first | decide | omega) ?_ | fail); conv => whnf) | fail)
        refine ⟨_, _, har _, ?_⟩; (conv => whnf); refine And.intro rfl ?_; conv => whnf
        repeat' (first | ((first | refine BS_t (by assumption) ?_ | refine BS_f (by assumption) ?_ | refine (nthK_iff _ _).2 ⟨_, (by assumption), ?_⟩ | refine ⟨_, ⟨(by omega), (by assumption)⟩, ?_⟩ | refine And.intro (by first | decide | omega) ?_ | fail); conv => whnf) | fail)
        repeat' (first | ((first | refine Sem.reg tt_ok ?_ | refine Sem.condS ?_ | refine Sem.regL tt_ok ?_ | refine Sem.skip tt_ok ?_ | refine Sem.exit tt_ok ?_ | refine Sem.ret tt_ok ?_ | refine BS_t (by assumption) ?_ | refine BS_f (by assumption) ?_ | refine atG (by first | assumption | exact setG_same _ _ _) ?_ | refine (nthK_iff _ _).2 ⟨_, (by assumption), ?_⟩ | refine ⟨_, ⟨(by omega), (by assumption)⟩, ?_⟩ | refine And.intro (by first | decide | omega) ?_ | fail); conv => whnf) | refine Sem.seqS ?_ | refine Sem.block ?_ | fail)
        exact ⟨_, fun _ _ h => h, rfl, (setG_back hG).symm⟩
      · rw [decide_eq_false k6] at c3
        have n0 : nm = [] := by rcases d3 with h | h; exact absurd h k6; exact h
        rw [decide_eq_true n0] at c4
        simp only [Bool.not_true, Bool.not_false] at c3 c4
        refine call_sem tt_ok Tryd.func109 rfl (by kernel_rfl) Tryd.ntmps109 Tryd.results109 ?_; conv => whnf
        repeat' (first | ((first | refine Sem.reg tt_ok ?_ | refine Sem.condS ?_ | refine Sem.regL tt_ok ?_ | refine Sem.skip tt_ok ?_ | refine Sem.exit tt_ok ?_ | refine Sem.ret tt_ok ?_ | refine BS_t (by assumption) ?_ | refine BS_f (by assumption) ?_ | refine atG (by first | assumption | exact setG_same _ _ _) ?_ | refine (nthK_iff _ _).2 ⟨_, (by assumption), ?_⟩ | refine ⟨_, ⟨(by omega), (by assumption)⟩, ?_⟩ | refine And.intro (by first | decide | omega) ?_ | fail); conv => whnf) | refine Sem.seqS ?_ | refine Sem.block ?_ | fail)
        refine draw_sound (eff := []) tt_ok (by kernel_rfl) (by kernel_rfl) ?_; conv => whnf
        repeat' (first | ((first | refine BS_t (by assumption) ?_ | refine BS_f (by assumption) ?_ | refine (nthK_iff _ _).2 ⟨_, (by assumption), ?_⟩ | refine ⟨_, ⟨(by omega), (by assumption)⟩, ?_⟩ | refine And.intro (by first | decide | omega) ?_ | fail); conv => whnf) | fail)
        refine ⟨_, _, har _, ?_⟩; (conv => whnf); refine And.intro rfl ?_; conv => whnf
        repeat' (first | ((first | refine BS_t (by assumption) ?_ | refine BS_f (by assumption) ?_ | refine (nthK_iff _ _).2 ⟨_, (by assumption), ?_⟩ | refine ⟨_, ⟨(by omega), (by assumption)⟩, ?_⟩ | refine And.intro (by first | decide | omega) ?_ | fail); conv => whnf) | fail)
        repeat' (first | ((first | refine Sem.reg tt_ok ?_ | refine Sem.condS ?_ | refine Sem.regL tt_ok ?_ | refine Sem.skip tt_ok ?_ | refine Sem.exit tt_ok ?_ | refine Sem.ret tt_ok ?_ | refine BS_t (by assumption) ?_ | refine BS_f (by assumption) ?_ | refine atG (by first | assumption | exact setG_same _ _ _) ?_ | refine (nthK_iff _ _).2 ⟨_, (by assumption), ?_⟩ | refine ⟨_, ⟨(by omega), (by assumption)⟩, ?_⟩ | refine And.intro (by first | decide | omega) ?_ | fail); conv => whnf) | refine Sem.seqS ?_ | refine Sem.block ?_ | fail)
        exact ⟨_, fun _ _ h => h, rfl, (setG_back hG).symm⟩
    | true =>
      rw [if_neg (by simp)] at hT
      by_cases k6 : kd = 6
      · rw [if_pos k6] at hT
        rw [hT] at hl ⊢
        have hG := hG'
        clear hG' ih hT
        simp only at hl
        have hln : nm.length ≤ 140737488355328 := by rw [List.length_append] at hl; omega
        have hnm := sname_ok nm hln hG hL
        have hput := put_ok [nm] (setG_same G pb (oB s (true && nameOk nm))) (by simp; rw [List.length_append] at hl; omega) (by simp)
        rw [setG_twice] at hput
        simp only [List.map_cons, List.map_nil, List.flatten_cons, List.flatten_nil, List.append_nil, Bool.true_and] at hput hnm
        rw [decide_eq_true k6] at c3
        simp only [Bool.not_true] at c3
        have t6 : (kd == 6) = true := by simpa using k6
        refine call_sem tt_ok Tryd.func109 rfl (by kernel_rfl) Tryd.ntmps109 Tryd.results109 ?_; conv => whnf
        repeat' (first | ((first | refine Sem.reg tt_ok ?_ | refine Sem.condS ?_ | refine Sem.regL tt_ok ?_ | refine Sem.skip tt_ok ?_ | refine Sem.exit tt_ok ?_ | refine Sem.ret tt_ok ?_ | refine BS_t (by assumption) ?_ | refine BS_f (by assumption) ?_ | refine atG (by first | assumption | exact setG_same _ _ _) ?_ | refine (nthK_iff _ _).2 ⟨_, (by assumption), ?_⟩ | refine ⟨_, ⟨(by omega), (by assumption)⟩, ?_⟩ | refine And.intro (by first | decide | omega) ?_ | fail); conv => whnf) | refine Sem.seqS ?_ | refine Sem.block ?_ | fail)
        refine draw_sound (eff := []) tt_ok (by kernel_rfl) (by kernel_rfl) ?_; conv => whnf
        repeat' (first | ((first | refine BS_t (by assumption) ?_ | refine BS_f (by assumption) ?_ | refine (nthK_iff _ _).2 ⟨_, (by assumption), ?_⟩ | refine ⟨_, ⟨(by omega), (by assumption)⟩, ?_⟩ | refine And.intro (by first | decide | omega) ?_ | fail); conv => whnf) | fail)
        refine ⟨_, _, har _, ?_⟩; (conv => whnf); refine And.intro rfl ?_; conv => whnf
        repeat' (first | ((first | refine BS_t (by assumption) ?_ | refine BS_f (by assumption) ?_ | refine (nthK_iff _ _).2 ⟨_, (by assumption), ?_⟩ | refine ⟨_, ⟨(by omega), (by assumption)⟩, ?_⟩ | refine And.intro (by first | decide | omega) ?_ | fail); conv => whnf) | fail)
        repeat' (first | ((first | refine Sem.reg tt_ok ?_ | refine Sem.condS ?_ | refine Sem.regL tt_ok ?_ | refine Sem.skip tt_ok ?_ | refine Sem.exit tt_ok ?_ | refine Sem.ret tt_ok ?_ | refine BS_t (by assumption) ?_ | refine BS_f (by assumption) ?_ | refine atG (by first | assumption | exact setG_same _ _ _) ?_ | refine (nthK_iff _ _).2 ⟨_, (by assumption), ?_⟩ | refine ⟨_, ⟨(by omega), (by assumption)⟩, ?_⟩ | refine And.intro (by first | decide | omega) ?_ | fail); conv => whnf) | refine Sem.seqS ?_ | refine Sem.block ?_ | fail)
        refine hnm.on ?_; conv => whnf
        repeat' (first | ((first | refine Sem.reg tt_ok ?_ | refine Sem.condS ?_ | refine Sem.regL tt_ok ?_ | refine Sem.skip tt_ok ?_ | refine Sem.exit tt_ok ?_ | refine Sem.ret tt_ok ?_ | refine BS_t (by assumption) ?_ | refine BS_f (by assumption) ?_ | refine atG (by first | assumption | exact setG_same _ _ _) ?_ | refine (nthK_iff _ _).2 ⟨_, (by assumption), ?_⟩ | refine ⟨_, ⟨(by omega), (by assumption)⟩, ?_⟩ | refine And.intro (by first | decide | omega) ?_ | fail); conv => whnf) | refine Sem.seqS ?_ | refine Sem.block ?_ | fail)
        refine hput.on ?_; conv => whnf
        repeat' (first | ((first | refine Sem.reg tt_ok ?_ | refine Sem.condS ?_ | refine Sem.regL tt_ok ?_ | refine Sem.skip tt_ok ?_ | refine Sem.exit tt_ok ?_ | refine Sem.ret tt_ok ?_ | refine BS_t (by assumption) ?_ | refine BS_f (by assumption) ?_ | refine atG (by first | assumption | exact setG_same _ _ _) ?_ | refine (nthK_iff _ _).2 ⟨_, (by assumption), ?_⟩ | refine ⟨_, ⟨(by omega), (by assumption)⟩, ?_⟩ | refine And.intro (by first | decide | omega) ?_ | fail); conv => whnf) | refine Sem.seqS ?_ | refine Sem.block ?_ | fail)
        exact ⟨_, fun _ _ h => h, rfl, rfl⟩
      · rw [if_neg k6] at hT
        rw [decide_eq_false k6] at c3
        have n0 : nm = [] := by rcases d3 with h | h; exact absurd h k6; exact h
        rw [decide_eq_true n0] at c4
        simp only [Bool.not_true, Bool.not_false] at c3 c4
        have t6 : (kd == 6) = false := by simpa using k6
        by_cases k9 : kd = 9
        · rw [if_pos k9] at hT
          have ho1 : of.length = 1 := by rw [d2, k9]; rfl
          obtain ⟨t0, rfl⟩ := List.length_eq_one_iff.1 ho1
          obtain ⟨k0, n0, of0⟩ := t0
          rw [optG] at hT
          rw [hT] at hl ⊢
          simp only [GT.kind] at hl ⊢
          rw [List.length_append] at hl
          have h1 := ih (.mk k0 n0 of0) (by simp) deep s (!(k0 == 9)) pb (setG G pb (oB s (!(k0 == 9)))) hd (setG_same _ _ _) (hL.set hG' _ _) (by simp at hl; omega)
          rw [setG_twice, GT.av] at h1
          have hput := put_ok [[63]] (setG_same G pb (oB (typG (.mk k0 n0 of0) deep s (!(k0 == 9))).1 (typG (.mk k0 n0 of0) deep s (!(k0 == 9))).2)) (by simpa using hl) (by simp)
          rw [setG_twice] at hput
          simp only [List.map_cons, List.map_nil, List.flatten_cons, List.flatten_nil, List.append_nil] at hput
          have hG := hG'
          have t9 : (kd == 9) = true := by simpa using k9
          have hm : (GT.avs [GT.mk k0 n0 of0])[((0 : Int)).toNat]? = some [.int .i64 k0, .str (S n0), .slc 81 (GT.avs of0)] := avs_at (i := 0) rfl
          unfold oB at h1 hput ⊢
          generalize typG (.mk k0 n0 of0) deep s (!(k0 == 9)) = r at *
          clear hG' ih hT
          refine call_sem tt_ok Tryd.func109 rfl (by kernel_rfl) Tryd.ntmps109 Tryd.results109 ?_; conv => whnf
          repeat' (first | ((first | refine Sem.reg tt_ok ?_ | refine Sem.condS ?_ | refine Sem.regL tt_ok ?_ | refine Sem.skip tt_ok ?_ | refine Sem.exit tt_ok ?_ | refine Sem.ret tt_ok ?_ | refine BS_t (by assumption) ?_ | refine BS_f (by assumption) ?_ | refine atG (by first | assumption | exact setG_same _ _ _) ?_ | refine (nthK_iff _ _).2 ⟨_, (by assumption), ?_⟩ | refine ⟨_, ⟨(by omega), (by assumption)⟩, ?_⟩ | refine And.intro (by first | decide | omega) ?_ | fail); conv => whnf) | refine Sem.seqS ?_ | refine Sem.block ?_ | fail)
          refine draw_sound (eff := []) tt_ok (by kernel_rfl) (by kernel_rfl) ?_; conv => whnf
          repeat' (first | ((first | refine BS_t (by assumption) ?_ | refine BS_f (by assumption) ?_ | refine (nthK_iff _ _).2 ⟨_, (by assumption), ?_⟩ | refine ⟨_, ⟨(by omega), (by assumption)⟩, ?_⟩ | refine And.intro (by first | decide | omega) ?_ | fail); conv => whnf) | fail)
          refine ⟨_, _, har _, ?_⟩; (conv => whnf); refine And.intro rfl ?_; conv => whnf
          repeat' (first | ((first | refine BS_t (by assumption) ?_ | refine BS_f (by assumption) ?_ | refine (nthK_iff _ _).2 ⟨_, (by assumption), ?_⟩ | refine ⟨_, ⟨(by omega), (by assumption)⟩, ?_⟩ | refine And.intro (by first | decide | omega) ?_ | fail); conv => whnf) | fail)
          repeat' (first | ((first | refine Sem.reg tt_ok ?_ | refine Sem.condS ?_ | refine Sem.regL tt_ok ?_ | refine Sem.skip tt_ok ?_ | refine Sem.exit tt_ok ?_ | refine Sem.ret tt_ok ?_ | refine BS_t (by assumption) ?_ | refine BS_f (by assumption) ?_ | refine atG (by first | assumption | exact setG_same _ _ _) ?_ | refine (nthK_iff _ _).2 ⟨_, (by assumption), ?_⟩ | refine ⟨_, ⟨(by omega), (by assumption)⟩, ?_⟩ | refine And.intro (by first | decide | omega) ?_ | fail); conv => whnf) | refine Sem.seqS ?_ | refine Sem.block ?_ | fail)
          refine h1.on ?_; conv => whnf
          repeat' (first | ((first | refine Sem.reg tt_ok ?_ | refine Sem.condS ?_ | refine Sem.regL tt_ok ?_ | refine Sem.skip tt_ok ?_ | refine Sem.exit tt_ok ?_ | refine Sem.ret tt_ok ?_ | refine BS_t (by assumption) ?_ | refine BS_f (by assumption) ?_ | refine atG (by first | assumption | exact setG_same _ _ _) ?_ | refine (nthK_iff _ _).2 ⟨_, (by assumption), ?_⟩ | refine ⟨_, ⟨(by omega), (by assumption)⟩, ?_⟩ | refine And.intro (by first | decide | omega) ?_ | fail); conv => whnf) | refine Sem.seqS ?_ | refine Sem.block ?_ | fail)
          refine hput.on ?_; conv => whnf
          repeat' (first | ((first | refine Sem.reg tt_ok ?_ | refine Sem.condS ?_ | refine Sem.regL tt_ok ?_ | refine Sem.skip tt_ok ?_ | refine Sem.exit tt_ok ?_ | refine Sem.ret tt_ok ?_ | refine BS_t (by assumption) ?_ | refine BS_f (by assumption) ?_ | refine atG (by first | assumption | exact setG_same _ _ _) ?_ | refine (nthK_iff _ _).2 ⟨_, (by assumption), ?_⟩ | refine ⟨_, ⟨(by omega), (by assumption)⟩, ?_⟩ | refine And.intro (by first | decide | omega) ?_ | fail); conv => whnf) | refine Sem.seqS ?_ | refine Sem.block ?_ | fail)
          exact ⟨_, fun _ _ h => h, rfl, rfl⟩
        · rw [if_neg k9] at hT
          have t9 : (kd == 9) = false := by simpa using k9
          by_cases w0 : wordT kd = []
          · rw [if_pos w0] at hT
            rw [hT]
            have tw : ((S (wordT kd)).toList == (⟨#[]⟩ : ByteArray).toList) = true := by rw [show (⟨#[]⟩ : ByteArray) = S [] from rfl, seq_S]; simpa using w0
            have hG := hG'
            clear hG' ih hL hl hT
            refine call_sem tt_ok Tryd.func109 rfl (by kernel_rfl) Tryd.ntmps109 Tryd.results109 ?_; conv => whnf
            repeat' (first | ((first | refine Sem.reg tt_ok ?_ | refine Sem.condS ?_ | refine Sem.regL tt_ok ?_ | refine Sem.skip tt_ok ?_ | refine Sem.exit tt_ok ?_ | refine Sem.ret tt_ok ?_ | refine BS_t (by assumption) ?_ | refine BS_f (by assumption) ?_ | refine atG (by first | assumption | exact setG_same _ _ _) ?_ | refine (nthK_iff _ _).2 ⟨_, (by assumption), ?_⟩ | refine ⟨_, ⟨(by omega), (by assumption)⟩, ?_⟩ | refine And.intro (by first | decide | omega) ?_ | fail); conv => whnf) | refine Sem.seqS ?_ | refine Sem.block ?_ | fail)
            refine draw_sound (eff := []) tt_ok (by kernel_rfl) (by kernel_rfl) ?_; conv => whnf
            repeat' (first | ((first | refine BS_t (by assumption) ?_ | refine BS_f (by assumption) ?_ | refine (nthK_iff _ _).2 ⟨_, (by assumption), ?_⟩ | refine ⟨_, ⟨(by omega), (by assumption)⟩, ?_⟩ | refine And.intro (by first | decide | omega) ?_ | fail); conv => whnf) | fail)
            refine ⟨_, _, har _, ?_⟩; (conv => whnf); refine And.intro rfl ?_; conv => whnf
            repeat' (first | ((first | refine BS_t (by assumption) ?_ | refine BS_f (by assumption) ?_ | refine (nthK_iff _ _).2 ⟨_, (by assumption), ?_⟩ | refine ⟨_, ⟨(by omega), (by assumption)⟩, ?_⟩ | refine And.intro (by first | decide | omega) ?_ | fail); conv => whnf) | fail)
            repeat' (first | ((first | refine Sem.reg tt_ok ?_ | refine Sem.condS ?_ | refine Sem.regL tt_ok ?_ | refine Sem.skip tt_ok ?_ | refine Sem.exit tt_ok ?_ | refine Sem.ret tt_ok ?_ | refine BS_t (by assumption) ?_ | refine BS_f (by assumption) ?_ | refine atG (by first | assumption | exact setG_same _ _ _) ?_ | refine (nthK_iff _ _).2 ⟨_, (by assumption), ?_⟩ | refine ⟨_, ⟨(by omega), (by assumption)⟩, ?_⟩ | refine And.intro (by first | decide | omega) ?_ | fail); conv => whnf) | refine Sem.seqS ?_ | refine Sem.block ?_ | fail)
            refine (hwo _).on ?_; conv => whnf
            repeat' (first | ((first | refine Sem.reg tt_ok ?_ | refine Sem.condS ?_ | refine Sem.regL tt_ok ?_ | refine Sem.skip tt_ok ?_ | refine Sem.exit tt_ok ?_ | refine Sem.ret tt_ok ?_ | refine BS_t (by assumption) ?_ | refine BS_f (by assumption) ?_ | refine atG (by first | assumption | exact setG_same _ _ _) ?_ | refine (nthK_iff _ _).2 ⟨_, (by assumption), ?_⟩ | refine ⟨_, ⟨(by omega), (by assumption)⟩, ?_⟩ | refine And.intro (by first | decide | omega) ?_ | fail); conv => whnf) | refine Sem.seqS ?_ | refine Sem.block ?_ | fail)
            exact ⟨_, fun _ _ h => h, rfl, rfl⟩
          · rw [if_neg w0] at hT
            rw [hT] at hl ⊢
            simp only at hl ⊢
            have tw : ((S (wordT kd)).toList == (⟨#[]⟩ : ByteArray).toList) = false := by rw [show (⟨#[]⟩ : ByteArray) = S [] from rfl, seq_S]; simpa using w0
            have hn2 : of.length ≤ 2 := by rw [d2]; unfold arityT; split; omega; split <;> omega
            rw [List.length_append] at hl
            have hrl := row_le of (deep + 1) 0 (s ++ wordT kd) true
            have hr0 := hrl 0
            rw [List.take_zero, rowG, List.length_append] at hr0
            have hG := hG'
            have hputw := put_ok [wordT kd] hG (by simp; omega) (by simp)
            simp only [List.map_cons, List.map_nil, List.flatten_cons, List.flatten_nil, List.append_nil] at hputw
            have hgG : ∀ q : List UInt8 × Bool, setG G pb (oB q.1 q.2) pb = some (oB q.1 q.2) := fun q => setG_same _ _ _
            have hgL : ∀ q : List UInt8 × Bool, LibOk (setG G pb (oB q.1 q.2)) := fun q => hL.set hG' _ _
            clear hG' hT
            refine call_sem tt_ok Tryd.func109 rfl (by kernel_rfl) Tryd.ntmps109 Tryd.results109 ?_; conv => whnf
            repeat' (first | ((first | refine Sem.reg tt_ok ?_ | refine Sem.condS ?_ | refine Sem.regL tt_ok ?_ | refine Sem.skip tt_ok ?_ | refine Sem.exit tt_ok ?_ | refine Sem.ret tt_ok ?_ | refine BS_t (by assumption) ?_ | refine BS_f (by assumption) ?_ | refine atG (by first | assumption | exact setG_same _ _ _) ?_ | refine (nthK_iff _ _).2 ⟨_, (by assumption), ?_⟩ | refine ⟨_, ⟨(by omega), (by assumption)⟩, ?_⟩ | refine And.intro (by first | decide | omega) ?_ | fail); conv => whnf) | refine Sem.seqS ?_ | refine Sem.block ?_ | fail)
            refine draw_sound (eff := []) tt_ok (by kernel_rfl) (by kernel_rfl) ?_; conv => whnf
            repeat' (first | ((first | refine BS_t (by assumption) ?_ | refine BS_f (by assumption) ?_ | refine (nthK_iff _ _).2 ⟨_, (by assumption), ?_⟩ | refine ⟨_, ⟨(by omega), (by assumption)⟩, ?_⟩ | refine And.intro (by first | decide | omega) ?_ | fail); conv => whnf) | fail)
            refine ⟨_, _, har _, ?_⟩; (conv => whnf); refine And.intro rfl ?_; conv => whnf
            repeat' (first | ((first | refine BS_t (by assumption) ?_ | refine BS_f (by assumption) ?_ | refine (nthK_iff _ _).2 ⟨_, (by assumption), ?_⟩ | refine ⟨_, ⟨(by omega), (by assumption)⟩, ?_⟩ | refine And.intro (by first | decide | omega) ?_ | fail); conv => whnf) | fail)
            repeat' (first | ((first | refine Sem.reg tt_ok ?_ | refine Sem.condS ?_ | refine Sem.regL tt_ok ?_ | refine Sem.skip tt_ok ?_ | refine Sem.exit tt_ok ?_ | refine Sem.ret tt_ok ?_ | refine BS_t (by assumption) ?_ | refine BS_f (by assumption) ?_ | refine atG (by first | assumption | exact setG_same _ _ _) ?_ | refine (nthK_iff _ _).2 ⟨_, (by assumption), ?_⟩ | refine ⟨_, ⟨(by omega), (by assumption)⟩, ?_⟩ | refine And.intro (by first | decide | omega) ?_ | fail); conv => whnf) | refine Sem.seqS ?_ | refine Sem.block ?_ | fail)
            refine (hwo _).on ?_; conv => whnf
            repeat' (first | ((first | refine Sem.reg tt_ok ?_ | refine Sem.condS ?_ | refine Sem.regL tt_ok ?_ | refine Sem.skip tt_ok ?_ | refine Sem.exit tt_ok ?_ | refine Sem.ret tt_ok ?_ | refine BS_t (by assumption) ?_ | refine BS_f (by assumption) ?_ | refine atG (by first | assumption | exact setG_same _ _ _) ?_ | refine (nthK_iff _ _).2 ⟨_, (by assumption), ?_⟩ | refine ⟨_, ⟨(by omega), (by assumption)⟩, ?_⟩ | refine And.intro (by first | decide | omega) ?_ | fail); conv => whnf) | refine Sem.seqS ?_ | refine Sem.block ?_ | fail)
            refine (hwo _).on ?_; conv => whnf
            repeat' (first | ((first | refine Sem.reg tt_ok ?_ | refine Sem.condS ?_ | refine Sem.regL tt_ok ?_ | refine Sem.skip tt_ok ?_ | refine Sem.exit tt_ok ?_ | refine Sem.ret tt_ok ?_ | refine BS_t (by assumption) ?_ | refine BS_f (by assumption) ?_ | refine atG (by first | assumption | exact setG_same _ _ _) ?_ | refine (nthK_iff _ _).2 ⟨_, (by assumption), ?_⟩ | refine ⟨_, ⟨(by omega), (by assumption)⟩, ?_⟩ | refine And.intro (by first | decide | omega) ?_ | fail); conv => whnf) | refine Sem.seqS ?_ | refine Sem.block ?_ | fail)
            refine hputw.on ?_; conv => whnf
            repeat' (first | ((first | refine Sem.reg tt_ok ?_ | refine Sem.condS ?_ | refine Sem.regL tt_ok ?_ | refine Sem.skip tt_ok ?_ | refine Sem.exit tt_ok ?_ | refine Sem.ret tt_ok ?_ | refine BS_t (by assumption) ?_ | refine BS_f (by assumption) ?_ | refine atG (by first | assumption | exact setG_same _ _ _) ?_ | refine (nthK_iff _ _).2 ⟨_, (by assumption), ?_⟩ | refine ⟨_, ⟨(by omega), (by assumption)⟩, ?_⟩ | refine And.intro (by first | decide | omega) ?_ | fail); conv => whnf) | refine Sem.seqS ?_ | refine Sem.block ?_ | fail)
            refine Sem.loop (ι := RowI of) (fun x => ⟨(.gptr pb 0 :: .top :: .int .i64 (deep : Nat) :: .top :: .lptr 0 0 :: .top :: .top :: .top :: .top :: .top :: .top :: .top :: .top :: .top :: .top :: .top :: .top :: .top :: .top :: .top :: .top :: .top :: .top :: .top :: .top :: .top :: .top :: .top :: .top :: .top :: .top :: .top :: .top :: .top :: .top :: .top :: .top :: .top :: .top :: .top :: .top :: .top :: .top :: .top :: .slc 81 (GT.avs of) :: .int .i64 ((GT.avs of).length : Nat) :: .int .i64 (x.k : Nat) :: .top :: .top :: .top :: .top :: .top :: .top :: .top :: .top :: .top :: .top :: .top :: .top :: .top :: .top :: .top :: .top :: .top :: .top :: .top :: .top :: .top :: .top :: .top :: .top :: .top :: .top :: .top :: .top :: .top :: .top :: .top :: .top :: .top :: .top :: .top :: .top :: .top :: .top :: .top :: .top :: .top :: .top :: .top :: .top :: .top :: .top :: .top :: .top :: .top :: .top :: .top :: .top :: .top :: .top :: .top :: .top :: .top :: .top :: .top :: .top :: .top :: .top :: .top :: .top :: .top :: .top :: []), [.live none [.int .i64 kd, .str (S nm), .slc 81 (GT.avs of)]], 1, 0, setG G pb (oB (rowG (of.take x.k) (deep + 1) 0 (s ++ wordT kd) true).1 (rowG (of.take x.k) (deep + 1) 0 (s ++ wordT kd) true).2)⟩) (fun x => of.length - x.k) ⟨0, Nat.zero_le _⟩ ?_ (fun x => ?_)
            · refine weak_by [] ?_; (conv => whnf); repeat (first | (refine And.intro rfl ?_; conv => whnf) | fail)
              refine ⟨fun i y hy => ?_, rfl, by decide, rfl, rfl⟩
              rw [List.take_zero, rowG] at hy
              exact hy
            obtain ⟨k, hk⟩ := x
            simp only
            by_cases hlt : k < of.length
            · obtain ⟨⟨k1, n1, of1⟩, hx⟩ : ∃ x, of[k]? = some x := ⟨_, List.getElem?_eq_getElem hlt⟩
              have h0 : (0 : Int) ≤ ((k : Nat) : Int) := by omega
              have tl : decide (((k : Nat) : Int) < ((GT.avs of).length : Nat)) = true := by rw [avs_len]; simp; omega
              have hm := avs_at hx
              have hmem : GT.mk k1 n1 of1 ∈ of := List.mem_of_getElem? hx
              have hft : rowG (of.take (k + 1)) (deep + 1) 0 (s ++ wordT kd) true = typG (.mk k1 n1 of1) (deep + 1) ((rowG (of.take k) (deep + 1) 0 (s ++ wordT kd) true).1 ++ sepT k) (rowG (of.take k) (deep + 1) 0 (s ++ wordT kd) true).2 := by
                rw [List.take_add_one, hx, Option.toList_some, rowG_app]
                rw [show 0 + (of.take k).length = k by rw [List.length_take]; omega]
              have hle := hrl (k + 1)
              have hle0 := typ_mono (.mk k1 n1 of1) (deep + 1) ((rowG (of.take k) (deep + 1) 0 (s ++ wordT kd) true).1 ++ sepT k) (rowG (of.take k) (deep + 1) 0 (s ++ wordT kd) true).2
              rw [hft] at hle
              have hi : IntKind.i64.wrap ((k : Int) + 1) = ((k + 1 : Nat) : Int) := by rw [IntWalk.i64_in _ (by omega)]; omega
              have hwd : IntKind.i64.wrap (((deep : Nat) : Int) + 1) = ((deep + 1 : Nat) : Int) := by rw [IntWalk.i64_in _ (by omega)]; omega
              have hsp : ([[AV.str ⟨#[60]⟩], [AV.str ⟨#[44]⟩]] : List (List AV))[((k : Nat) : Int).toNat]? = some [AV.str (S (sepT k))] := by
                rcases (by omega : k = 0 ∨ k = 1) with rfl | rfl <;> rfl
              generalize rowG (of.take k) (deep + 1) 0 (s ++ wordT kd) true = q at *
              have hput := put_ok [sepT k] (hgG q) (by rw [List.length_append] at hle0; simp; omega) (by simp)
              rw [setG_twice] at hput
              simp only [List.map_cons, List.map_nil, List.flatten_cons, List.flatten_nil, List.append_nil] at hput
              have ht := ih _ hmem (deep + 1) (q.1 ++ sepT k) q.2 pb (setG G pb (oB (q.1 ++ sepT k) q.2)) (by omega) (setG_same _ _ _) (hgL (q.1 ++ sepT k, q.2)) (by omega)
              rw [setG_twice, GT.av, ← hft] at ht
              repeat' (first | ((first | refine Sem.reg tt_ok ?_ | refine Sem.condS ?_ | refine Sem.regL tt_ok ?_ | refine Sem.skip tt_ok ?_ | refine Sem.exit tt_ok ?_ | refine Sem.ret tt_ok ?_ | refine BS_t (by assumption) ?_ | refine BS_f (by assumption) ?_ | refine atG (by first | assumption | exact setG_same _ _ _) ?_ | refine (nthK_iff _ _).2 ⟨_, (by assumption), ?_⟩ | refine ⟨_, ⟨(by omega), (by assumption)⟩, ?_⟩ | refine And.intro (by first | decide | omega) ?_ | fail); conv => whnf) | refine Sem.seqS ?_ | refine Sem.block ?_ | fail)
              refine hput.on ?_; conv => whnf
              repeat' (first | ((first | refine Sem.reg tt_ok ?_ | refine Sem.condS ?_ | refine Sem.regL tt_ok ?_ | refine Sem.skip tt_ok ?_ | refine Sem.exit tt_ok ?_ | refine Sem.ret tt_ok ?_ | refine BS_t (by assumption) ?_ | refine BS_f (by assumption) ?_ | refine atG (by first | assumption | exact setG_same _ _ _) ?_ | refine (nthK_iff _ _).2 ⟨_, (by assumption), ?_⟩ | refine ⟨_, ⟨(by omega), (by assumption)⟩, ?_⟩ | refine And.intro (by first | decide | omega) ?_ | fail); conv => whnf) | refine Sem.seqS ?_ | refine Sem.block ?_ | fail)
              rw [hwd]
              refine ht.on ?_; conv => whnf
              repeat' (first | ((first | refine Sem.reg tt_ok ?_ | refine Sem.condS ?_ | refine Sem.regL tt_ok ?_ | refine Sem.skip tt_ok ?_ | refine Sem.exit tt_ok ?_ | refine Sem.ret tt_ok ?_ | refine BS_t (by assumption) ?_ | refine BS_f (by assumption) ?_ | refine atG (by first | assumption | exact setG_same _ _ _) ?_ | refine (nthK_iff _ _).2 ⟨_, (by assumption), ?_⟩ | refine ⟨_, ⟨(by omega), (by assumption)⟩, ?_⟩ | refine And.intro (by first | decide | omega) ?_ | fail); conv => whnf) | refine Sem.seqS ?_ | refine Sem.block ?_ | fail)
              refine ⟨⟨k + 1, by omega⟩, by show of.length - (k + 1) < of.length - k; omega, ?_⟩
              refine weak_by [] ?_; (conv => whnf); repeat (first | (refine And.intro rfl ?_; conv => whnf) | fail)
              refine And.intro hi ?_
              (conv => whnf); repeat (first | (refine And.intro rfl ?_; conv => whnf) | fail)
              exact ⟨fun i y hy => hy, rfl, by decide, rfl, rfl⟩
            · have hk' : k = of.length := by omega
              subst hk'
              rw [List.take_length]
              have tl : decide (((of.length : Nat) : Int) < ((GT.avs of).length : Nat)) = false := by rw [avs_len]; simp
              generalize rowG of (deep + 1) 0 (s ++ wordT kd) true = q at *
              by_cases hz : of.length = 0
              · have tz : decide ((((GT.avs of).length : Nat) : Int) > 0) = false := by rw [avs_len, decide_eq_false_iff_not]; omega
                rw [if_pos hz, List.append_nil]
                repeat' (first | ((first | refine Sem.reg tt_ok ?_ | refine Sem.condS ?_ | refine Sem.regL tt_ok ?_ | refine Sem.skip tt_ok ?_ | refine Sem.exit tt_ok ?_ | refine Sem.ret tt_ok ?_ | refine BS_t (by assumption) ?_ | refine BS_f (by assumption) ?_ | refine atG (by first | assumption | exact setG_same _ _ _) ?_ | refine (nthK_iff _ _).2 ⟨_, (by assumption), ?_⟩ | refine ⟨_, ⟨(by omega), (by assumption)⟩, ?_⟩ | refine And.intro (by first | decide | omega) ?_ | fail); conv => whnf) | refine Sem.seqS ?_ | refine Sem.block ?_ | fail)
                exact ⟨_, fun _ _ h => h, rfl, rfl⟩
              · have tz : decide ((((GT.avs of).length : Nat) : Int) > 0) = true := by rw [avs_len, decide_eq_true_eq]; omega
                rw [if_neg hz] at hl ⊢
                have hput := put_ok [[62]] (hgG q) (by simpa using hl) (by simp)
                rw [setG_twice] at hput
                simp only [List.map_cons, List.map_nil, List.flatten_cons, List.flatten_nil, List.append_nil] at hput
                repeat' (first | ((first | refine Sem.reg tt_ok ?_ | refine Sem.condS ?_ | refine Sem.regL tt_ok ?_ | refine Sem.skip tt_ok ?_ | refine Sem.exit tt_ok ?_ | refine Sem.ret tt_ok ?_ | refine BS_t (by assumption) ?_ | refine BS_f (by assumption) ?_ | refine atG (by first | assumption | exact setG_same _ _ _) ?_ | refine (nthK_iff _ _).2 ⟨_, (by assumption), ?_⟩ | refine ⟨_, ⟨(by omega), (by assumption)⟩, ?_⟩ | refine And.intro (by first | decide | omega) ?_ | fail); conv => whnf) | refine Sem.seqS ?_ | refine Sem.block ?_ | fail)
                refine hput.on ?_; conv => whnf
                repeat' (first | ((first | refine Sem.reg tt_ok ?_ | refine Sem.condS ?_ | refine Sem.regL tt_ok ?_ | refine Sem.skip tt_ok ?_ | refine Sem.exit tt_ok ?_ | refine Sem.ret tt_ok ?_ | refine BS_t (by assumption) ?_ | refine BS_f (by assumption) ?_ | refine atG (by first | assumption | exact setG_same _ _ _) ?_ | refine (nthK_iff _ _).2 ⟨_, (by assumption), ?_⟩ | refine ⟨_, ⟨(by omega), (by assumption)⟩, ?_⟩ | refine And.intro (by first | decide | omega) ?_ | fail); conv => whnf) | refine Sem.seqS ?_ | refine Sem.block ?_ | fail)
                exact ⟨_, fun _ _ h => h, rfl, rfl⟩
end Go.Proofs.YtofhakbmmgpgdaaDoor
end

section
/- show.field and show.method in the abstract run. -/
set_option maxRecDepth 100000
set_option linter.unusedSimpArgs false
namespace Go.Proofs.YtofhakbmmgpgdaaDoor
open Go Go.RowKit Go.Proofs Go.Shelf

def InI (n : Int) : Prop := -9223372036854775808 ≤ n ∧ n ≤ 9223372036854775807
def GF.av (f : GF) : List AV := .int .i64 f.tag :: .str (S f.name) :: f.ty.av
def GM.av (m : GM) : List AV := [.int .i64 m.tag, .str (S m.name), .str (S m.inn), .str (S m.out), .bool m.oneway]
theorem sfield_ok (en : Bool) (f : GF) (ht : InI f.tag) {s : List UInt8} {ok : Bool} {pb : Nat} {G : Glob} (hG : G pb = some (oB s ok)) (hL : LibOk G) (hl : (fieldG en f s ok).1.length ≤ 140737488355328) :
    CallOk Tryd.prog TT 81 [.gptr pb 0, .agg f.av, .bool en] G (fun v G' => v = .tup [] ∧ G' = setG G pb (oB (fieldG en f s ok).1 (fieldG en f s ok).2)) := by
  obtain ⟨tg, nm, ty⟩ := f
  obtain ⟨k0, n0, of0⟩ := ty
  have hm := field_mono en ⟨tg, nm, .mk k0 n0 of0⟩ s ok
  have hh := head_len ⟨tg, nm, .mk k0 n0 of0⟩ s
  have hav : GF.av ⟨tg, nm, .mk k0 n0 of0⟩ = [.int .i64 tg, .str (S nm), .int .i64 k0, .str (S n0), .slc 81 (GT.avs of0)] := by unfold GF.av; rw [GT.av]
  rw [hav]
  simp only at hm hh ht
  have htag := stag_ok tg ht.1 ht.2 hG hL
  have hnm := sname_ok nm (by omega) (setG_same G pb (oB s (ok && tagOk tg))) (hL.set hG _ _)
  rw [setG_twice] at hnm
  have hhl : (headG ⟨tg, nm, .mk k0 n0 of0⟩ s).length ≤ (fieldG en ⟨tg, nm, .mk k0 n0 of0⟩ s ok).1.length := by
    have h2 := typ_mono (.mk k0 n0 of0) 0 (headG ⟨tg, nm, .mk k0 n0 of0⟩ s ++ [58, 32]) (ok && tagOk tg && nameOk nm)
    rw [List.length_append] at h2
    unfold fieldG
    split <;> (simp only [List.length_append]; omega)
  have hput := put_ok [[32], Lib.itoa tg, [32], nm] (setG_same G pb (oB s (ok && tagOk tg && nameOk nm))) (by unfold headG at hhl; simp only [List.length_append] at hhl ⊢; omega) (by simp)
  rw [setG_twice] at hput
  simp only [List.map_cons, List.map_nil] at hput
  rw [show s ++ [[32], Lib.itoa tg, [32], nm].flatten = headG ⟨tg, nm, .mk k0 n0 of0⟩ s from rfl] at hput
  have hgG : ∀ x y, setG G pb (oB x y) pb = some (oB x y) := fun x y => setG_same _ _ _
  have hgL : ∀ x y, LibOk (setG G pb (oB x y)) := fun x y => hL.set hG _ _
  have hne : Region.binds .any ⟨0, .chain⟩ = true := by decide
  generalize hok1 : (ok && tagOk tg && nameOk nm) = ok1 at *
  generalize hq : headG ⟨tg, nm, .mk k0 n0 of0⟩ s = q at *
  cases en with
  | true =>
    have e1 : fieldG true ⟨tg, nm, .mk k0 n0 of0⟩ s ok = (q ++ [59], ok1 && noTy (.mk k0 n0 of0)) := by
      unfold fieldG
      rw [if_pos rfl, hok1, hq]
    rw [e1] at hl ⊢
    simp only at hl ⊢
    have hput3 : ∀ y b, CallOk Tryd.prog TT 79 [.gptr pb 0, .slc 9 [[.str (S [59])]]] (setG (setG G pb (oB q b)) pb (oB q y)) (fun v G' => v = .tup [] ∧ G' = setG G pb (oB (q ++ [59]) y)) := fun y b => by
      have h := put_ok [[59]] (hgG q y) (by simpa using hl) (by simp)
      rw [setG_twice] at h ⊢
      exact h
    have hz : noTy (.mk k0 n0 of0) = (decide (k0 = 0) && (decide (n0 = []) && decide (of0.length = 0))) := rfl
    have c2 : ((S n0).toList == (⟨#[]⟩ : ByteArray).toList) = decide (n0 = []) := by rw [show (⟨#[]⟩ : ByteArray) = S [] from rfl, seq_S]
    have c3 : ((((GT.avs of0).length : Nat) : Int) == 0) = decide (of0.length = 0) := by rw [avs_len, Bool.eq_iff_iff]; simp
    have c1 : (k0 == 0) = decide (k0 = 0) := by rw [Bool.eq_iff_iff]; simp
    rw [hz]
    clear hz e1 hh hhl hm hok1
    cases ok1 with
    | false =>
      have hput3 := hput3 false false
      rw [Bool.false_and]
      refine call_sem tt_ok Tryd.func81 rfl (by kernel_rfl) Tryd.ntmps81 Tryd.results81 ?_; conv => whnf
      repeat' (first | ((first | refine Sem.reg tt_ok ?_ | refine Sem.condS ?_ | refine Sem.regL tt_ok ?_ | refine Sem.skip tt_ok ?_ | refine Sem.exit tt_ok ?_ | refine Sem.ret tt_ok ?_ | refine BS_t (by assumption) ?_ | refine BS_f (by assumption) ?_ | refine atG (by first | assumption | exact setG_same _ _ _) ?_ | refine (nthK_iff _ _).2 ⟨_, (by assumption), ?_⟩ | refine ⟨_, ⟨(by omega), (by assumption)⟩, ?_⟩ | refine And.intro (by first | decide | omega) ?_ | fail); conv => whnf) | refine Sem.seqS ?_ | refine Sem.block ?_ | fail)
      refine draw_perm [] (σ := [0, 1, 2, 3, 5, 6, 7, 4, 8, 9, 10]) (eff := [7, 8, 10]) tt_ok (by kernel_rfl) (by kernel_rfl) (by kernel_rfl) (by kernel_rfl) ?_
      conv => whnf
      repeat' (first | ((first | refine BS_t (by assumption) ?_ | refine BS_f (by assumption) ?_ | refine (nthK_iff _ _).2 ⟨_, (by assumption), ?_⟩ | refine ⟨_, ⟨(by omega), (by assumption)⟩, ?_⟩ | refine And.intro (by first | decide | omega) ?_ | fail); conv => whnf) | fail)
      refine ⟨_, _, htag, ?_⟩; conv => whnf
      repeat' (first | ((first | refine BS_t (by assumption) ?_ | refine BS_f (by assumption) ?_ | refine (nthK_iff _ _).2 ⟨_, (by assumption), ?_⟩ | refine ⟨_, ⟨(by omega), (by assumption)⟩, ?_⟩ | refine And.intro (by first | decide | omega) ?_ | fail); conv => whnf) | fail)
      repeat' (first | (refine And.intro (by conv => whnf) ?_; conv => whnf) | fail)
      repeat' (first | ((first | refine BS_t (by assumption) ?_ | refine BS_f (by assumption) ?_ | refine (nthK_iff _ _).2 ⟨_, (by assumption), ?_⟩ | refine ⟨_, ⟨(by omega), (by assumption)⟩, ?_⟩ | refine And.intro (by first | decide | omega) ?_ | fail); conv => whnf) | fail)
      refine ⟨_, _, hnm, ?_⟩; conv => whnf
      repeat' (first | ((first | refine BS_t (by assumption) ?_ | refine BS_f (by assumption) ?_ | refine (nthK_iff _ _).2 ⟨_, (by assumption), ?_⟩ | refine ⟨_, ⟨(by omega), (by assumption)⟩, ?_⟩ | refine And.intro (by first | decide | omega) ?_ | fail); conv => whnf) | fail)
      refine ⟨_, _, hput, ?_⟩; conv => whnf
      repeat' (first | ((first | refine BS_t (by assumption) ?_ | refine BS_f (by assumption) ?_ | refine (nthK_iff _ _).2 ⟨_, (by assumption), ?_⟩ | refine ⟨_, ⟨(by omega), (by assumption)⟩, ?_⟩ | refine And.intro (by first | decide | omega) ?_ | fail); conv => whnf) | fail)
      repeat' (first | ((first | refine Sem.reg tt_ok ?_ | refine Sem.condS ?_ | refine Sem.regL tt_ok ?_ | refine Sem.skip tt_ok ?_ | refine Sem.exit tt_ok ?_ | refine Sem.ret tt_ok ?_ | refine BS_t (by assumption) ?_ | refine BS_f (by assumption) ?_ | refine atG (by first | assumption | exact setG_same _ _ _) ?_ | refine (nthK_iff _ _).2 ⟨_, (by assumption), ?_⟩ | refine ⟨_, ⟨(by omega), (by assumption)⟩, ?_⟩ | refine And.intro (by first | decide | omega) ?_ | fail); conv => whnf) | refine Sem.seqS ?_ | refine Sem.block ?_ | fail)
      refine hput3.on ?_; conv => whnf
      repeat' (first | ((first | refine Sem.reg tt_ok ?_ | refine Sem.condS ?_ | refine Sem.regL tt_ok ?_ | refine Sem.skip tt_ok ?_ | refine Sem.exit tt_ok ?_ | refine Sem.ret tt_ok ?_ | refine BS_t (by assumption) ?_ | refine BS_f (by assumption) ?_ | refine atG (by first | assumption | exact setG_same _ _ _) ?_ | refine (nthK_iff _ _).2 ⟨_, (by assumption), ?_⟩ | refine ⟨_, ⟨(by omega), (by assumption)⟩, ?_⟩ | refine And.intro (by first | decide | omega) ?_ | fail); conv => whnf) | refine Sem.seqS ?_ | refine Sem.block ?_ | fail)
      exact ⟨_, fun _ _ h => h, rfl, rfl⟩
    | true =>
      rw [Bool.true_and]
      by_cases k00 : k0 = 0
      · rw [decide_eq_true k00] at c1 ⊢
        rw [Bool.true_and]
        by_cases n00 : n0 = []
        · rw [decide_eq_true n00] at c2 ⊢
          rw [Bool.true_and]
          generalize decide (of0.length = 0) = y at *
          have hput3 := hput3 y true
          refine call_sem tt_ok Tryd.func81 rfl (by kernel_rfl) Tryd.ntmps81 Tryd.results81 ?_; conv => whnf
          repeat' (first | ((first | refine Sem.reg tt_ok ?_ | refine Sem.condS ?_ | refine Sem.regL tt_ok ?_ | refine Sem.skip tt_ok ?_ | refine Sem.exit tt_ok ?_ | refine Sem.ret tt_ok ?_ | refine BS_t (by assumption) ?_ | refine BS_f (by assumption) ?_ | refine atG (by first | assumption | exact setG_same _ _ _) ?_ | refine (nthK_iff _ _).2 ⟨_, (by assumption), ?_⟩ | refine ⟨_, ⟨(by omega), (by assumption)⟩, ?_⟩ | refine And.intro (by first | decide | omega) ?_ | fail); conv => whnf) | refine Sem.seqS ?_ | refine Sem.block ?_ | fail)
          refine draw_perm [] (σ := [0, 1, 2, 3, 5, 6, 7, 4, 8, 9, 10]) (eff := [7, 8, 10]) tt_ok (by kernel_rfl) (by kernel_rfl) (by kernel_rfl) (by kernel_rfl) ?_
          conv => whnf
          repeat' (first | ((first | refine BS_t (by assumption) ?_ | refine BS_f (by assumption) ?_ | refine (nthK_iff _ _).2 ⟨_, (by assumption), ?_⟩ | refine ⟨_, ⟨(by omega), (by assumption)⟩, ?_⟩ | refine And.intro (by first | decide | omega) ?_ | fail); conv => whnf) | fail)
          refine ⟨_, _, htag, ?_⟩; conv => whnf
          repeat' (first | ((first | refine BS_t (by assumption) ?_ | refine BS_f (by assumption) ?_ | refine (nthK_iff _ _).2 ⟨_, (by assumption), ?_⟩ | refine ⟨_, ⟨(by omega), (by assumption)⟩, ?_⟩ | refine And.intro (by first | decide | omega) ?_ | fail); conv => whnf) | fail)
          repeat' (first | (refine And.intro (by conv => whnf) ?_; conv => whnf) | fail)
          repeat' (first | ((first | refine BS_t (by assumption) ?_ | refine BS_f (by assumption) ?_ | refine (nthK_iff _ _).2 ⟨_, (by assumption), ?_⟩ | refine ⟨_, ⟨(by omega), (by assumption)⟩, ?_⟩ | refine And.intro (by first | decide | omega) ?_ | fail); conv => whnf) | fail)
          refine ⟨_, _, hnm, ?_⟩; conv => whnf
          repeat' (first | ((first | refine BS_t (by assumption) ?_ | refine BS_f (by assumption) ?_ | refine (nthK_iff _ _).2 ⟨_, (by assumption), ?_⟩ | refine ⟨_, ⟨(by omega), (by assumption)⟩, ?_⟩ | refine And.intro (by first | decide | omega) ?_ | fail); conv => whnf) | fail)
          refine ⟨_, _, hput, ?_⟩; conv => whnf
          repeat' (first | ((first | refine BS_t (by assumption) ?_ | refine BS_f (by assumption) ?_ | refine (nthK_iff _ _).2 ⟨_, (by assumption), ?_⟩ | refine ⟨_, ⟨(by omega), (by assumption)⟩, ?_⟩ | refine And.intro (by first | decide | omega) ?_ | fail); conv => whnf) | fail)
          repeat' (first | ((first | refine Sem.reg tt_ok ?_ | refine Sem.condS ?_ | refine Sem.regL tt_ok ?_ | refine Sem.skip tt_ok ?_ | refine Sem.exit tt_ok ?_ | refine Sem.ret tt_ok ?_ | refine BS_t (by assumption) ?_ | refine BS_f (by assumption) ?_ | refine atG (by first | assumption | exact setG_same _ _ _) ?_ | refine (nthK_iff _ _).2 ⟨_, (by assumption), ?_⟩ | refine ⟨_, ⟨(by omega), (by assumption)⟩, ?_⟩ | refine And.intro (by first | decide | omega) ?_ | fail); conv => whnf) | refine Sem.seqS ?_ | refine Sem.block ?_ | fail)
          rw [c3]
          refine hput3.on ?_; conv => whnf
          repeat' (first | ((first | refine Sem.reg tt_ok ?_ | refine Sem.condS ?_ | refine Sem.regL tt_ok ?_ | refine Sem.skip tt_ok ?_ | refine Sem.exit tt_ok ?_ | refine Sem.ret tt_ok ?_ | refine BS_t (by assumption) ?_ | refine BS_f (by assumption) ?_ | refine atG (by first | assumption | exact setG_same _ _ _) ?_ | refine (nthK_iff _ _).2 ⟨_, (by assumption), ?_⟩ | refine ⟨_, ⟨(by omega), (by assumption)⟩, ?_⟩ | refine And.intro (by first | decide | omega) ?_ | fail); conv => whnf) | refine Sem.seqS ?_ | refine Sem.block ?_ | fail)
          exact ⟨_, fun _ _ h => h, rfl, rfl⟩
        · rw [decide_eq_false n00] at c2 ⊢
          rw [Bool.false_and]
          have hput3 := hput3 false true
          refine call_sem tt_ok Tryd.func81 rfl (by kernel_rfl) Tryd.ntmps81 Tryd.results81 ?_; conv => whnf
          repeat' (first | ((first | refine Sem.reg tt_ok ?_ | refine Sem.condS ?_ | refine Sem.regL tt_ok ?_ | refine Sem.skip tt_ok ?_ | refine Sem.exit tt_ok ?_ | refine Sem.ret tt_ok ?_ | refine BS_t (by assumption) ?_ | refine BS_f (by assumption) ?_ | refine atG (by first | assumption | exact setG_same _ _ _) ?_ | refine (nthK_iff _ _).2 ⟨_, (by assumption), ?_⟩ | refine ⟨_, ⟨(by omega), (by assumption)⟩, ?_⟩ | refine And.intro (by first | decide | omega) ?_ | fail); conv => whnf) | refine Sem.seqS ?_ | refine Sem.block ?_ | fail)
          refine draw_perm [] (σ := [0, 1, 2, 3, 5, 6, 7, 4, 8, 9, 10]) (eff := [7, 8, 10]) tt_ok (by kernel_rfl) (by kernel_rfl) (by kernel_rfl) (by kernel_rfl) ?_
          conv => whnf
          repeat' (first | ((first | refine BS_t (by assumption) ?_ | refine BS_f (by assumption) ?_ | refine (nthK_iff _ _).2 ⟨_, (by assumption), ?_⟩ | refine ⟨_, ⟨(by omega), (by assumption)⟩, ?_⟩ | refine And.intro (by first | decide | omega) ?_ | fail); conv => whnf) | fail)
          refine ⟨_, _, htag, ?_⟩; conv => whnf
          repeat' (first | ((first | refine BS_t (by assumption) ?_ | refine BS_f (by assumption) ?_ | refine (nthK_iff _ _).2 ⟨_, (by assumption), ?_⟩ | refine ⟨_, ⟨(by omega), (by assumption)⟩, ?_⟩ | refine And.intro (by first | decide | omega) ?_ | fail); conv => whnf) | fail)
          repeat' (first | (refine And.intro (by conv => whnf) ?_; conv => whnf) | fail)
          repeat' (first | ((first | refine BS_t (by assumption) ?_ | refine BS_f (by assumption) ?_ | refine (nthK_iff _ _).2 ⟨_, (by assumption), ?_⟩ | refine ⟨_, ⟨(by omega), (by assumption)⟩, ?_⟩ | refine And.intro (by first | decide | omega) ?_ | fail); conv => whnf) | fail)
          refine ⟨_, _, hnm, ?_⟩; conv => whnf
          repeat' (first | ((first | refine BS_t (by assumption) ?_ | refine BS_f (by assumption) ?_ | refine (nthK_iff _ _).2 ⟨_, (by assumption), ?_⟩ | refine ⟨_, ⟨(by omega), (by assumption)⟩, ?_⟩ | refine And.intro (by first | decide | omega) ?_ | fail); conv => whnf) | fail)
          refine ⟨_, _, hput, ?_⟩; conv => whnf
          repeat' (first | ((first | refine BS_t (by assumption) ?_ | refine BS_f (by assumption) ?_ | refine (nthK_iff _ _).2 ⟨_, (by assumption), ?_⟩ | refine ⟨_, ⟨(by omega), (by assumption)⟩, ?_⟩ | refine And.intro (by first | decide | omega) ?_ | fail); conv => whnf) | fail)
          repeat' (first | ((first | refine Sem.reg tt_ok ?_ | refine Sem.condS ?_ | refine Sem.regL tt_ok ?_ | refine Sem.skip tt_ok ?_ | refine Sem.exit tt_ok ?_ | refine Sem.ret tt_ok ?_ | refine BS_t (by assumption) ?_ | refine BS_f (by assumption) ?_ | refine atG (by first | assumption | exact setG_same _ _ _) ?_ | refine (nthK_iff _ _).2 ⟨_, (by assumption), ?_⟩ | refine ⟨_, ⟨(by omega), (by assumption)⟩, ?_⟩ | refine And.intro (by first | decide | omega) ?_ | fail); conv => whnf) | refine Sem.seqS ?_ | refine Sem.block ?_ | fail)
          refine hput3.on ?_; conv => whnf
          repeat' (first | ((first | refine Sem.reg tt_ok ?_ | refine Sem.condS ?_ | refine Sem.regL tt_ok ?_ | refine Sem.skip tt_ok ?_ | refine Sem.exit tt_ok ?_ | refine Sem.ret tt_ok ?_ | refine BS_t (by assumption) ?_ | refine BS_f (by assumption) ?_ | refine atG (by first | assumption | exact setG_same _ _ _) ?_ | refine (nthK_iff _ _).2 ⟨_, (by assumption), ?_⟩ | refine ⟨_, ⟨(by omega), (by assumption)⟩, ?_⟩ | refine And.intro (by first | decide | omega) ?_ | fail); conv => whnf) | refine Sem.seqS ?_ | refine Sem.block ?_ | fail)
          exact ⟨_, fun _ _ h => h, rfl, rfl⟩
      · rw [decide_eq_false k00] at c1 ⊢
        rw [Bool.false_and]
        have hput3 := hput3 false true
        refine call_sem tt_ok Tryd.func81 rfl (by kernel_rfl) Tryd.ntmps81 Tryd.results81 ?_; conv => whnf
        repeat' (first | ((first | refine Sem.reg tt_ok ?_ | refine Sem.condS ?_ | refine Sem.regL tt_ok ?_ | refine Sem.skip tt_ok ?_ | refine Sem.exit tt_ok ?_ | refine Sem.ret tt_ok ?_ | refine BS_t (by assumption) ?_ | refine BS_f (by assumption) ?_ | refine atG (by first | assumption | exact setG_same _ _ _) ?_ | refine (nthK_iff _ _).2 ⟨_, (by assumption), ?_⟩ | refine ⟨_, ⟨(by omega), (by assumption)⟩, ?_⟩ | refine And.intro (by first | decide | omega) ?_ | fail); conv => whnf) | refine Sem.seqS ?_ | refine Sem.block ?_ | fail)
        refine draw_perm [] (σ := [0, 1, 2, 3, 5, 6, 7, 4, 8, 9, 10]) (eff := [7, 8, 10]) tt_ok (by kernel_rfl) (by kernel_rfl) (by kernel_rfl) (by kernel_rfl) ?_
        conv => whnf
        repeat' (first | ((first | refine BS_t (by assumption) ?_ | refine BS_f (by assumption) ?_ | refine (nthK_iff _ _).2 ⟨_, (by assumption), ?_⟩ | refine ⟨_, ⟨(by omega), (by assumption)⟩, ?_⟩ | refine And.intro (by first | decide | omega) ?_ | fail); conv => whnf) | fail)
        refine ⟨_, _, htag, ?_⟩; conv => whnf
        repeat' (first | ((first | refine BS_t (by assumption) ?_ | refine BS_f (by assumption) ?_ | refine (nthK_iff _ _).2 ⟨_, (by assumption), ?_⟩ | refine ⟨_, ⟨(by omega), (by assumption)⟩, ?_⟩ | refine And.intro (by first | decide | omega) ?_ | fail); conv => whnf) | fail)
        repeat' (first | (refine And.intro (by conv => whnf) ?_; conv => whnf) | fail)
        repeat' (first | ((first | refine BS_t (by assumption) ?_ | refine BS_f (by assumption) ?_ | refine (nthK_iff _ _).2 ⟨_, (by assumption), ?_⟩ | refine ⟨_, ⟨(by omega), (by assumption)⟩, ?_⟩ | refine And.intro (by first | decide | omega) ?_ | fail); conv => whnf) | fail)
        refine ⟨_, _, hnm, ?_⟩; conv => whnf
        repeat' (first | ((first | refine BS_t (by assumption) ?_ | refine BS_f (by assumption) ?_ | refine (nthK_iff _ _).2 ⟨_, (by assumption), ?_⟩ | refine ⟨_, ⟨(by omega), (by assumption)⟩, ?_⟩ | refine And.intro (by first | decide | omega) ?_ | fail); conv => whnf) | fail)
        refine ⟨_, _, hput, ?_⟩; conv => whnf
        repeat' (first | ((first | refine BS_t (by assumption) ?_ | refine BS_f (by assumption) ?_ | refine (nthK_iff _ _).2 ⟨_, (by assumption), ?_⟩ | refine ⟨_, ⟨(by omega), (by assumption)⟩, ?_⟩ | refine And.intro (by first | decide | omega) ?_ | fail); conv => whnf) | fail)
        repeat' (first | ((first | refine Sem.reg tt_ok ?_ | refine Sem.condS ?_ | refine Sem.regL tt_ok ?_ | refine Sem.skip tt_ok ?_ | refine Sem.exit tt_ok ?_ | refine Sem.ret tt_ok ?_ | refine BS_t (by assumption) ?_ | refine BS_f (by assumption) ?_ | refine atG (by first | assumption | exact setG_same _ _ _) ?_ | refine (nthK_iff _ _).2 ⟨_, (by assumption), ?_⟩ | refine ⟨_, ⟨(by omega), (by assumption)⟩, ?_⟩ | refine And.intro (by first | decide | omega) ?_ | fail); conv => whnf) | refine Sem.seqS ?_ | refine Sem.block ?_ | fail)
        refine hput3.on ?_; conv => whnf
        repeat' (first | ((first | refine Sem.reg tt_ok ?_ | refine Sem.condS ?_ | refine Sem.regL tt_ok ?_ | refine Sem.skip tt_ok ?_ | refine Sem.exit tt_ok ?_ | refine Sem.ret tt_ok ?_ | refine BS_t (by assumption) ?_ | refine BS_f (by assumption) ?_ | refine atG (by first | assumption | exact setG_same _ _ _) ?_ | refine (nthK_iff _ _).2 ⟨_, (by assumption), ?_⟩ | refine ⟨_, ⟨(by omega), (by assumption)⟩, ?_⟩ | refine And.intro (by first | decide | omega) ?_ | fail); conv => whnf) | refine Sem.seqS ?_ | refine Sem.block ?_ | fail)
        exact ⟨_, fun _ _ h => h, rfl, rfl⟩
  | false =>
    have e1 : fieldG false ⟨tg, nm, .mk k0 n0 of0⟩ s ok = ((typG (.mk k0 n0 of0) 0 (q ++ [58, 32]) ok1).1 ++ [59], (typG (.mk k0 n0 of0) 0 (q ++ [58, 32]) ok1).2) := by
      unfold fieldG
      simp only
      rw [if_neg (by decide), hok1, hq]
    rw [e1] at hl ⊢
    simp only at hl ⊢
    have h2 := typ_mono (.mk k0 n0 of0) 0 (q ++ [58, 32]) ok1
    rw [List.length_append] at h2 hl
    have hput2 := put_ok [[58, 32]] (hgG q ok1) (by simp only [List.flatten_cons, List.flatten_nil, List.append_nil]; omega) (by simp)
    rw [setG_twice] at hput2
    simp only [List.map_cons, List.map_nil, List.flatten_cons, List.flatten_nil, List.append_nil] at hput2
    have htyp := styp_ok (.mk k0 n0 of0) 0 (q ++ [58, 32]) ok1 pb _ (by omega) (hgG _ _) (hgL _ _) (by simp only [List.length_cons, List.length_nil] at hl; omega)
    rw [setG_twice, GT.av] at htyp
    generalize typG (.mk k0 n0 of0) 0 (q ++ [58, 32]) ok1 = r at *
    have hput3 := put_ok [[59]] (hgG r.1 r.2) (by simpa using hl) (by simp)
    rw [setG_twice] at hput3
    simp only [List.map_cons, List.map_nil, List.flatten_cons, List.flatten_nil, List.append_nil] at hput3
    refine call_sem tt_ok Tryd.func81 rfl (by kernel_rfl) Tryd.ntmps81 Tryd.results81 ?_; conv => whnf
    repeat' (first | ((first | refine Sem.reg tt_ok ?_ | refine Sem.condS ?_ | refine Sem.regL tt_ok ?_ | refine Sem.skip tt_ok ?_ | refine Sem.exit tt_ok ?_ | refine Sem.ret tt_ok ?_ | refine BS_t (by assumption) ?_ | refine BS_f (by assumption) ?_ | refine atG (by first | assumption | exact setG_same _ _ _) ?_ | refine (nthK_iff _ _).2 ⟨_, (by assumption), ?_⟩ | refine ⟨_, ⟨(by omega), (by assumption)⟩, ?_⟩ | refine And.intro (by first | decide | omega) ?_ | fail); conv => whnf) | refine Sem.seqS ?_ | refine Sem.block ?_ | fail)
    refine draw_perm [] (σ := [0, 1, 2, 3, 5, 6, 7, 4, 8, 9, 10]) (eff := [7, 8, 10]) tt_ok (by kernel_rfl) (by kernel_rfl) (by kernel_rfl) (by kernel_rfl) ?_
    conv => whnf
    repeat' (first | ((first | refine BS_t (by assumption) ?_ | refine BS_f (by assumption) ?_ | refine (nthK_iff _ _).2 ⟨_, (by assumption), ?_⟩ | refine ⟨_, ⟨(by omega), (by assumption)⟩, ?_⟩ | refine And.intro (by first | decide | omega) ?_ | fail); conv => whnf) | fail)
    refine ⟨_, _, htag, ?_⟩; conv => whnf
    repeat' (first | ((first | refine BS_t (by assumption) ?_ | refine BS_f (by assumption) ?_ | refine (nthK_iff _ _).2 ⟨_, (by assumption), ?_⟩ | refine ⟨_, ⟨(by omega), (by assumption)⟩, ?_⟩ | refine And.intro (by first | decide | omega) ?_ | fail); conv => whnf) | fail)
    repeat' (first | (refine And.intro (by conv => whnf) ?_; conv => whnf) | fail)
    repeat' (first | ((first | refine BS_t (by assumption) ?_ | refine BS_f (by assumption) ?_ | refine (nthK_iff _ _).2 ⟨_, (by assumption), ?_⟩ | refine ⟨_, ⟨(by omega), (by assumption)⟩, ?_⟩ | refine And.intro (by first | decide | omega) ?_ | fail); conv => whnf) | fail)
    refine ⟨_, _, hnm, ?_⟩; conv => whnf
    repeat' (first | ((first | refine BS_t (by assumption) ?_ | refine BS_f (by assumption) ?_ | refine (nthK_iff _ _).2 ⟨_, (by assumption), ?_⟩ | refine ⟨_, ⟨(by omega), (by assumption)⟩, ?_⟩ | refine And.intro (by first | decide | omega) ?_ | fail); conv => whnf) | fail)
    refine ⟨_, _, hput, ?_⟩; conv => whnf
    repeat' (first | ((first | refine BS_t (by assumption) ?_ | refine BS_f (by assumption) ?_ | refine (nthK_iff _ _).2 ⟨_, (by assumption), ?_⟩ | refine ⟨_, ⟨(by omega), (by assumption)⟩, ?_⟩ | refine And.intro (by first | decide | omega) ?_ | fail); conv => whnf) | fail)
    repeat' (first | ((first | refine Sem.reg tt_ok ?_ | refine Sem.condS ?_ | refine Sem.regL tt_ok ?_ | refine Sem.skip tt_ok ?_ | refine Sem.exit tt_ok ?_ | refine Sem.ret tt_ok ?_ | refine BS_t (by assumption) ?_ | refine BS_f (by assumption) ?_ | refine atG (by first | assumption | exact setG_same _ _ _) ?_ | refine (nthK_iff _ _).2 ⟨_, (by assumption), ?_⟩ | refine ⟨_, ⟨(by omega), (by assumption)⟩, ?_⟩ | refine And.intro (by first | decide | omega) ?_ | fail); conv => whnf) | refine Sem.seqS ?_ | refine Sem.block ?_ | fail)
    refine hput2.on ?_; conv => whnf
    repeat' (first | ((first | refine Sem.reg tt_ok ?_ | refine Sem.condS ?_ | refine Sem.regL tt_ok ?_ | refine Sem.skip tt_ok ?_ | refine Sem.exit tt_ok ?_ | refine Sem.ret tt_ok ?_ | refine BS_t (by assumption) ?_ | refine BS_f (by assumption) ?_ | refine atG (by first | assumption | exact setG_same _ _ _) ?_ | refine (nthK_iff _ _).2 ⟨_, (by assumption), ?_⟩ | refine ⟨_, ⟨(by omega), (by assumption)⟩, ?_⟩ | refine And.intro (by first | decide | omega) ?_ | fail); conv => whnf) | refine Sem.seqS ?_ | refine Sem.block ?_ | fail)
    refine htyp.on ?_; conv => whnf
    repeat' (first | ((first | refine Sem.reg tt_ok ?_ | refine Sem.condS ?_ | refine Sem.regL tt_ok ?_ | refine Sem.skip tt_ok ?_ | refine Sem.exit tt_ok ?_ | refine Sem.ret tt_ok ?_ | refine BS_t (by assumption) ?_ | refine BS_f (by assumption) ?_ | refine atG (by first | assumption | exact setG_same _ _ _) ?_ | refine (nthK_iff _ _).2 ⟨_, (by assumption), ?_⟩ | refine ⟨_, ⟨(by omega), (by assumption)⟩, ?_⟩ | refine And.intro (by first | decide | omega) ?_ | fail); conv => whnf) | refine Sem.seqS ?_ | refine Sem.block ?_ | fail)
    refine hput3.on ?_; conv => whnf
    repeat' (first | ((first | refine Sem.reg tt_ok ?_ | refine Sem.condS ?_ | refine Sem.regL tt_ok ?_ | refine Sem.skip tt_ok ?_ | refine Sem.exit tt_ok ?_ | refine Sem.ret tt_ok ?_ | refine BS_t (by assumption) ?_ | refine BS_f (by assumption) ?_ | refine atG (by first | assumption | exact setG_same _ _ _) ?_ | refine (nthK_iff _ _).2 ⟨_, (by assumption), ?_⟩ | refine ⟨_, ⟨(by omega), (by assumption)⟩, ?_⟩ | refine And.intro (by first | decide | omega) ?_ | fail); conv => whnf) | refine Sem.seqS ?_ | refine Sem.block ?_ | fail)
    exact ⟨_, fun _ _ h => h, rfl, rfl⟩
theorem smethod_ok (m : GM) (ht : InI m.tag) {s : List UInt8} {ok : Bool} {pb : Nat} {G : Glob} (hG : G pb = some (oB s ok)) (hL : LibOk G) (hl : (methodG m s ok).1.length ≤ 140737488355328) :
    CallOk Tryd.prog TT 82 [.gptr pb 0, .agg m.av] G (fun v G' => v = .tup [] ∧ G' = setG G pb (oB (methodG m s ok).1 (methodG m s ok).2)) := by
  obtain ⟨tg, nm, inn, out, ow⟩ := m
  have hm := method_mono ⟨tg, nm, inn, out, ow⟩ s ok
  unfold GM.av
  simp only at hm ht ⊢
  have hgG : ∀ x y, setG G pb (oB x y) pb = some (oB x y) := fun x y => setG_same _ _ _
  have hgL : ∀ x y, LibOk (setG G pb (oB x y)) := fun x y => hL.set hG _ _
  have hln : s.length + 1 + (if ow = true then [111, 110, 101, 119, 97, 121, 32] else [] : List UInt8).length + ([Lib.itoa tg, [32], nm, [40], inn, [41, 58, 32], out, [59]] : List (List UInt8)).flatten.length ≤ 140737488355328 := by
    unfold methodG at hl; simp only [List.length_append, List.length_cons, List.length_nil] at hl ⊢; omega
  have hp1 := put_ok [[32]] hG (by simp only [List.flatten_cons, List.flatten_nil, List.append_nil, List.length_cons, List.length_nil]; omega) (by simp)
  simp only [List.map_cons, List.map_nil, List.flatten_cons, List.flatten_nil, List.append_nil] at hp1
  have last : ∀ s1 : List UInt8, s1 = s ++ [32] ++ (if ow = true then [111, 110, 101, 119, 97, 121, 32] else []) →
      (CallOk Tryd.prog TT 108 [.gptr pb 0, .int .i64 tg] (setG G pb (oB s1 ok)) (fun v G' => v = .str (S (Lib.itoa tg)) ∧ G' = setG G pb (oB s1 (ok && tagOk tg)))) ∧
      (CallOk Tryd.prog TT 80 [.gptr pb 0, .str (S nm)] (setG G pb (oB s1 (ok && tagOk tg))) (fun v G' => v = .str (S nm) ∧ G' = setG G pb (oB s1 (ok && tagOk tg && nameOk nm)))) ∧
      (CallOk Tryd.prog TT 80 [.gptr pb 0, .str (S inn)] (setG G pb (oB s1 (ok && tagOk tg && nameOk nm))) (fun v G' => v = .str (S inn) ∧ G' = setG G pb (oB s1 (ok && tagOk tg && nameOk nm && nameOk inn)))) ∧
      (CallOk Tryd.prog TT 80 [.gptr pb 0, .str (S out)] (setG G pb (oB s1 (ok && tagOk tg && nameOk nm && nameOk inn))) (fun v G' => v = .str (S out) ∧ G' = setG G pb (oB s1 (ok && tagOk tg && nameOk nm && nameOk inn && nameOk out)))) ∧
      (CallOk Tryd.prog TT 79 [.gptr pb 0, .slc 9 [[.str (S (Lib.itoa tg))], [.str (S [32])], [.str (S nm)], [.str (S [40])], [.str (S inn)], [.str (S [41, 58, 32])], [.str (S out)], [.str (S [59])]]] (setG G pb (oB s1 (ok && tagOk tg && nameOk nm && nameOk inn && nameOk out))) (fun v G' => v = .tup [] ∧ G' = setG G pb (oB (methodG ⟨tg, nm, inn, out, ow⟩ s ok).1 (methodG ⟨tg, nm, inn, out, ow⟩ s ok).2))) := by
    rintro s1 rfl
    have h1 := stag_ok tg ht.1 ht.2 (hgG (s ++ [32] ++ (if ow = true then [111, 110, 101, 119, 97, 121, 32] else [])) ok) (hgL _ _)
    have h2 := sname_ok nm (by omega) (hgG (s ++ [32] ++ (if ow = true then [111, 110, 101, 119, 97, 121, 32] else [])) (ok && tagOk tg)) (hgL _ _)
    have h3 := sname_ok inn (by omega) (hgG (s ++ [32] ++ (if ow = true then [111, 110, 101, 119, 97, 121, 32] else [])) (ok && tagOk tg && nameOk nm)) (hgL _ _)
    have h4 := sname_ok out (by omega) (hgG (s ++ [32] ++ (if ow = true then [111, 110, 101, 119, 97, 121, 32] else [])) (ok && tagOk tg && nameOk nm && nameOk inn)) (hgL _ _)
    have h5 := put_ok [Lib.itoa tg, [32], nm, [40], inn, [41, 58, 32], out, [59]] (hgG (s ++ [32] ++ (if ow = true then [111, 110, 101, 119, 97, 121, 32] else [])) (ok && tagOk tg && nameOk nm && nameOk inn && nameOk out)) (by simp only [List.length_append, List.length_cons, List.length_nil] at hln ⊢; omega) (by simp)
    rw [setG_twice] at h1 h2 h3 h4 h5
    exact ⟨h1, h2, h3, h4, h5⟩
  generalize methodG ⟨tg, nm, inn, out, ow⟩ s ok = z at *
  cases ow with
  | true =>
    have hp2 := put_ok [[111, 110, 101, 119, 97, 121, 32]] (hgG (s ++ [32]) ok) (by rw [if_pos rfl] at hln; simp only [List.length_append, List.flatten_cons, List.flatten_nil, List.append_nil, List.length_cons, List.length_nil] at hln ⊢; omega) (by simp)
    rw [setG_twice] at hp2
    simp only [List.map_cons, List.map_nil, List.flatten_cons, List.flatten_nil, List.append_nil] at hp2
    obtain ⟨l1, l2, l3, l4, l5⟩ := last (s ++ [32] ++ [111, 110, 101, 119, 97, 121, 32]) rfl
    refine call_sem tt_ok Tryd.func82 rfl (by kernel_rfl) Tryd.ntmps82 Tryd.results82 ?_; conv => whnf
    repeat' (first | ((first | refine Sem.reg tt_ok ?_ | refine Sem.condS ?_ | refine Sem.regL tt_ok ?_ | refine Sem.skip tt_ok ?_ | refine Sem.exit tt_ok ?_ | refine Sem.ret tt_ok ?_ | refine BS_t (by assumption) ?_ | refine BS_f (by assumption) ?_ | refine atG (by first | assumption | exact setG_same _ _ _) ?_ | refine (nthK_iff _ _).2 ⟨_, (by assumption), ?_⟩ | refine ⟨_, ⟨(by omega), (by assumption)⟩, ?_⟩ | refine And.intro (by first | decide | omega) ?_ | fail); conv => whnf) | refine Sem.seqS ?_ | refine Sem.block ?_ | fail)
    refine hp1.on ?_; conv => whnf
    repeat' (first | ((first | refine Sem.reg tt_ok ?_ | refine Sem.condS ?_ | refine Sem.regL tt_ok ?_ | refine Sem.skip tt_ok ?_ | refine Sem.exit tt_ok ?_ | refine Sem.ret tt_ok ?_ | refine BS_t (by assumption) ?_ | refine BS_f (by assumption) ?_ | refine atG (by first | assumption | exact setG_same _ _ _) ?_ | refine (nthK_iff _ _).2 ⟨_, (by assumption), ?_⟩ | refine ⟨_, ⟨(by omega), (by assumption)⟩, ?_⟩ | refine And.intro (by first | decide | omega) ?_ | fail); conv => whnf) | refine Sem.seqS ?_ | refine Sem.block ?_ | fail)
    refine hp2.on ?_; conv => whnf
    repeat' (first | ((first | refine Sem.reg tt_ok ?_ | refine Sem.condS ?_ | refine Sem.regL tt_ok ?_ | refine Sem.skip tt_ok ?_ | refine Sem.exit tt_ok ?_ | refine Sem.ret tt_ok ?_ | refine BS_t (by assumption) ?_ | refine BS_f (by assumption) ?_ | refine atG (by first | assumption | exact setG_same _ _ _) ?_ | refine (nthK_iff _ _).2 ⟨_, (by assumption), ?_⟩ | refine ⟨_, ⟨(by omega), (by assumption)⟩, ?_⟩ | refine And.intro (by first | decide | omega) ?_ | fail); conv => whnf) | refine Sem.seqS ?_ | refine Sem.block ?_ | fail)
    refine draw_perm [] (σ := [0, 1, 2, 3, 5, 6, 7, 9, 10, 11, 13, 14, 15, 4, 8, 12, 16, 17, 18]) (eff := [13, 14, 15, 16, 18]) tt_ok (by kernel_rfl) (by kernel_rfl) (by kernel_rfl) (by kernel_rfl) ?_
    conv => whnf
    repeat' (first | ((first | refine BS_t (by assumption) ?_ | refine BS_f (by assumption) ?_ | refine (nthK_iff _ _).2 ⟨_, (by assumption), ?_⟩ | refine ⟨_, ⟨(by omega), (by assumption)⟩, ?_⟩ | refine And.intro (by first | decide | omega) ?_ | fail); conv => whnf) | fail)
    refine ⟨_, _, l1, ?_⟩; conv => whnf
    repeat' (first | ((first | refine BS_t (by assumption) ?_ | refine BS_f (by assumption) ?_ | refine (nthK_iff _ _).2 ⟨_, (by assumption), ?_⟩ | refine ⟨_, ⟨(by omega), (by assumption)⟩, ?_⟩ | refine And.intro (by first | decide | omega) ?_ | fail); conv => whnf) | fail)
    repeat' (first | (refine And.intro (by conv => whnf) ?_; conv => whnf) | fail)
    repeat' (first | ((first | refine BS_t (by assumption) ?_ | refine BS_f (by assumption) ?_ | refine (nthK_iff _ _).2 ⟨_, (by assumption), ?_⟩ | refine ⟨_, ⟨(by omega), (by assumption)⟩, ?_⟩ | refine And.intro (by first | decide | omega) ?_ | fail); conv => whnf) | fail)
    refine ⟨_, _, l2, ?_⟩; conv => whnf
    repeat' (first | ((first | refine BS_t (by assumption) ?_ | refine BS_f (by assumption) ?_ | refine (nthK_iff _ _).2 ⟨_, (by assumption), ?_⟩ | refine ⟨_, ⟨(by omega), (by assumption)⟩, ?_⟩ | refine And.intro (by first | decide | omega) ?_ | fail); conv => whnf) | fail)
    repeat' (first | (refine And.intro (by conv => whnf) ?_; conv => whnf) | fail)
    repeat' (first | ((first | refine BS_t (by assumption) ?_ | refine BS_f (by assumption) ?_ | refine (nthK_iff _ _).2 ⟨_, (by assumption), ?_⟩ | refine ⟨_, ⟨(by omega), (by assumption)⟩, ?_⟩ | refine And.intro (by first | decide | omega) ?_ | fail); conv => whnf) | fail)
    refine ⟨_, _, l3, ?_⟩; conv => whnf
    repeat' (first | ((first | refine BS_t (by assumption) ?_ | refine BS_f (by assumption) ?_ | refine (nthK_iff _ _).2 ⟨_, (by assumption), ?_⟩ | refine ⟨_, ⟨(by omega), (by assumption)⟩, ?_⟩ | refine And.intro (by first | decide | omega) ?_ | fail); conv => whnf) | fail)
    repeat' (first | (refine And.intro (by conv => whnf) ?_; conv => whnf) | fail)
    repeat' (first | ((first | refine BS_t (by assumption) ?_ | refine BS_f (by assumption) ?_ | refine (nthK_iff _ _).2 ⟨_, (by assumption), ?_⟩ | refine ⟨_, ⟨(by omega), (by assumption)⟩, ?_⟩ | refine And.intro (by first | decide | omega) ?_ | fail); conv => whnf) | fail)
    refine ⟨_, _, l4, ?_⟩; conv => whnf
    repeat' (first | ((first | refine BS_t (by assumption) ?_ | refine BS_f (by assumption) ?_ | refine (nthK_iff _ _).2 ⟨_, (by assumption), ?_⟩ | refine ⟨_, ⟨(by omega), (by assumption)⟩, ?_⟩ | refine And.intro (by first | decide | omega) ?_ | fail); conv => whnf) | fail)
    refine ⟨_, _, l5, ?_⟩; conv => whnf
    repeat' (first | ((first | refine BS_t (by assumption) ?_ | refine BS_f (by assumption) ?_ | refine (nthK_iff _ _).2 ⟨_, (by assumption), ?_⟩ | refine ⟨_, ⟨(by omega), (by assumption)⟩, ?_⟩ | refine And.intro (by first | decide | omega) ?_ | fail); conv => whnf) | fail)
    repeat' (first | ((first | refine Sem.reg tt_ok ?_ | refine Sem.condS ?_ | refine Sem.regL tt_ok ?_ | refine Sem.skip tt_ok ?_ | refine Sem.exit tt_ok ?_ | refine Sem.ret tt_ok ?_ | refine BS_t (by assumption) ?_ | refine BS_f (by assumption) ?_ | refine atG (by first | assumption | exact setG_same _ _ _) ?_ | refine (nthK_iff _ _).2 ⟨_, (by assumption), ?_⟩ | refine ⟨_, ⟨(by omega), (by assumption)⟩, ?_⟩ | refine And.intro (by first | decide | omega) ?_ | fail); conv => whnf) | refine Sem.seqS ?_ | refine Sem.block ?_ | fail)
    exact ⟨_, fun _ _ h => h, rfl, rfl⟩
  | false =>
    obtain ⟨l1, l2, l3, l4, l5⟩ := last (s ++ [32]) (by simp)
    refine call_sem tt_ok Tryd.func82 rfl (by kernel_rfl) Tryd.ntmps82 Tryd.results82 ?_; conv => whnf
    repeat' (first | ((first | refine Sem.reg tt_ok ?_ | refine Sem.condS ?_ | refine Sem.regL tt_ok ?_ | refine Sem.skip tt_ok ?_ | refine Sem.exit tt_ok ?_ | refine Sem.ret tt_ok ?_ | refine BS_t (by assumption) ?_ | refine BS_f (by assumption) ?_ | refine atG (by first | assumption | exact setG_same _ _ _) ?_ | refine (nthK_iff _ _).2 ⟨_, (by assumption), ?_⟩ | refine ⟨_, ⟨(by omega), (by assumption)⟩, ?_⟩ | refine And.intro (by first | decide | omega) ?_ | fail); conv => whnf) | refine Sem.seqS ?_ | refine Sem.block ?_ | fail)
    refine hp1.on ?_; conv => whnf
    repeat' (first | ((first | refine Sem.reg tt_ok ?_ | refine Sem.condS ?_ | refine Sem.regL tt_ok ?_ | refine Sem.skip tt_ok ?_ | refine Sem.exit tt_ok ?_ | refine Sem.ret tt_ok ?_ | refine BS_t (by assumption) ?_ | refine BS_f (by assumption) ?_ | refine atG (by first | assumption | exact setG_same _ _ _) ?_ | refine (nthK_iff _ _).2 ⟨_, (by assumption), ?_⟩ | refine ⟨_, ⟨(by omega), (by assumption)⟩, ?_⟩ | refine And.intro (by first | decide | omega) ?_ | fail); conv => whnf) | refine Sem.seqS ?_ | refine Sem.block ?_ | fail)
    refine draw_perm [] (σ := [0, 1, 2, 3, 5, 6, 7, 9, 10, 11, 13, 14, 15, 4, 8, 12, 16, 17, 18]) (eff := [13, 14, 15, 16, 18]) tt_ok (by kernel_rfl) (by kernel_rfl) (by kernel_rfl) (by kernel_rfl) ?_
    conv => whnf
    repeat' (first | ((first | refine BS_t (by assumption) ?_ | refine BS_f (by assumption) ?_ | refine (nthK_iff _ _).2 ⟨_, (by assumption), ?_⟩ | refine ⟨_, ⟨(by omega), (by assumption)⟩, ?_⟩ | refine And.intro (by first | decide | omega) ?_ | fail); conv => whnf) | fail)
    refine ⟨_, _, l1, ?_⟩; conv => whnf
    repeat' (first | ((first | refine BS_t (by assumption) ?_ | refine BS_f (by assumption) ?_ | refine (nthK_iff _ _).2 ⟨_, (by assumption), ?_⟩ | refine ⟨_, ⟨(by omega), (by assumption)⟩, ?_⟩ | refine And.intro (by first | decide | omega) ?_ | fail); conv => whnf) | fail)
    repeat' (first | (refine And.intro (by conv => whnf) ?_; conv => whnf) | fail)
    repeat' (first | ((first | refine BS_t (by assumption) ?_ | refine BS_f (by assumption) ?_ | refine (nthK_iff _ _).2 ⟨_, (by assumption), ?_⟩ | refine ⟨_, ⟨(by omega), (by assumption)⟩, ?_⟩ | refine And.intro (by first | decide | omega) ?_ | fail); conv => whnf) | fail)
    refine ⟨_, _, l2, ?_⟩; conv => whnf
    repeat' (first | ((first | refine BS_t (by assumption) ?_ | refine BS_f (by assumption) ?_ | refine (nthK_iff _ _).2 ⟨_, (by assumption), ?_⟩ | refine ⟨_, ⟨(by omega), (by assumption)⟩, ?_⟩ | refine And.intro (by first | decide | omega) ?_ | fail); conv => whnf) | fail)
    repeat' (first | (refine And.intro (by conv => whnf) ?_; conv => whnf) | fail)
    repeat' (first | ((first | refine BS_t (by assumption) ?_ | refine BS_f (by assumption) ?_ | refine (nthK_iff _ _).2 ⟨_, (by assumption), ?_⟩ | refine ⟨_, ⟨(by omega), (by assumption)⟩, ?_⟩ | refine And.intro (by first | decide | omega) ?_ | fail); conv => whnf) | fail)
    refine ⟨_, _, l3, ?_⟩; conv => whnf
    repeat' (first | ((first | refine BS_t (by assumption) ?_ | refine BS_f (by assumption) ?_ | refine (nthK_iff _ _).2 ⟨_, (by assumption), ?_⟩ | refine ⟨_, ⟨(by omega), (by assumption)⟩, ?_⟩ | refine And.intro (by first | decide | omega) ?_ | fail); conv => whnf) | fail)
    repeat' (first | (refine And.intro (by conv => whnf) ?_; conv => whnf) | fail)
    repeat' (first | ((first | refine BS_t (by assumption) ?_ | refine BS_f (by assumption) ?_ | refine (nthK_iff _ _).2 ⟨_, (by assumption), ?_⟩ | refine ⟨_, ⟨(by omega), (by assumption)⟩, ?_⟩ | refine And.intro (by first | decide | omega) ?_ | fail); conv => whnf) | fail)
    refine ⟨_, _, l4, ?_⟩; conv => whnf
    repeat' (first | ((first | refine BS_t (by assumption) ?_ | refine BS_f (by assumption) ?_ | refine (nthK_iff _ _).2 ⟨_, (by assumption), ?_⟩ | refine ⟨_, ⟨(by omega), (by assumption)⟩, ?_⟩ | refine And.intro (by first | decide | omega) ?_ | fail); conv => whnf) | fail)
    refine ⟨_, _, l5, ?_⟩; conv => whnf
    repeat' (first | ((first | refine BS_t (by assumption) ?_ | refine BS_f (by assumption) ?_ | refine (nthK_iff _ _).2 ⟨_, (by assumption), ?_⟩ | refine ⟨_, ⟨(by omega), (by assumption)⟩, ?_⟩ | refine And.intro (by first | decide | omega) ?_ | fail); conv => whnf) | fail)
    repeat' (first | ((first | refine Sem.reg tt_ok ?_ | refine Sem.condS ?_ | refine Sem.regL tt_ok ?_ | refine Sem.skip tt_ok ?_ | refine Sem.exit tt_ok ?_ | refine Sem.ret tt_ok ?_ | refine BS_t (by assumption) ?_ | refine BS_f (by assumption) ?_ | refine atG (by first | assumption | exact setG_same _ _ _) ?_ | refine (nthK_iff _ _).2 ⟨_, (by assumption), ?_⟩ | refine ⟨_, ⟨(by omega), (by assumption)⟩, ?_⟩ | refine And.intro (by first | decide | omega) ?_ | fail); conv => whnf) | refine Sem.seqS ?_ | refine Sem.block ?_ | fail)
    exact ⟨_, fun _ _ h => h, rfl, rfl⟩
end Go.Proofs.YtofhakbmmgpgdaaDoor
end

section
/- show.decl in the abstract run. -/
set_option maxRecDepth 100000
set_option linter.unusedSimpArgs false
namespace Go.Proofs.YtofhakbmmgpgdaaDoor
open Go Go.RowKit Go.Proofs Go.Shelf

def GD.av (d : GD) : List AV := [.int .i64 d.kind, .str (S d.name), .slc 83 (d.fields.map GF.av), .slc 123 (d.methods.map GM.av), .int .i64 d.at_]
def GD.ok (d : GD) : Prop := (∀ f ∈ d.fields, InI f.tag) ∧ ∀ m ∈ d.methods, InI m.tag
theorem gf_at {l : List GF} {i : Nat} {tg : Int} {nm : List UInt8} {k : Int} {n : List UInt8} {of : List GT} (h : l[i]? = some ⟨tg, nm, .mk k n of⟩) : (l.map GF.av)[((i : Nat) : Int).toNat]? = some [.int .i64 tg, .str (S nm), .int .i64 k, .str (S n), .slc 81 (GT.avs of)] := by
  rw [Int.toNat_natCast, List.getElem?_map, h, Option.map_some, GF.av, GT.av]
theorem gm_at {l : List GM} {i : Nat} {tg : Int} {nm inn out : List UInt8} {ow : Bool} (h : l[i]? = some ⟨tg, nm, inn, out, ow⟩) : (l.map GM.av)[((i : Nat) : Int).toNat]? = some [.int .i64 tg, .str (S nm), .str (S inn), .str (S out), .bool ow] := by
  rw [Int.toNat_natCast, List.getElem?_map, h, Option.map_some, GM.av]
structure RowN (n : Nat) where
  k : Nat
  hk : k ≤ n
def wordsA : List AV := [.str ⟨#[]⟩, .str ⟨#[115, 116, 114, 117, 99, 116]⟩, .str ⟨#[117, 110, 105, 111, 110]⟩, .str ⟨#[101, 110, 117, 109]⟩, .str ⟨#[115, 101, 114, 118, 105, 99, 101]⟩]
set_option maxHeartbeats 1000000 in
theorem sdecl_good (kd : Int) (nm : List UInt8) (fs : List GF) (ms : List GM) (pa : Int) (hok : GD.ok ⟨kd, nm, fs, ms, pa⟩) (hb : badD kd fs.length ms.length = false) {s : List UInt8} {ok : Bool} {pb : Nat} {G : Glob} (hG : G pb = some (oB s ok)) (hL : LibOk G) (hl : (declG ⟨kd, nm, fs, ms, pa⟩ s ok).1.length ≤ 140737488355328) :
    CallOk Tryd.prog TT 53 [.gptr pb 0, .agg [.int .i64 kd, .str (S nm), .slc 83 (fs.map GF.av), .slc 123 (ms.map GM.av), .int .i64 pa]] G (fun v G' => v = .tup [] ∧ G' = setG G pb (oB (declG ⟨kd, nm, fs, ms, pa⟩ s ok).1 (declG ⟨kd, nm, fs, ms, pa⟩ s ok).2)) := by
  have hE : declG ⟨kd, nm, fs, ms, pa⟩ s ok = ((methodsG ms (fieldsG (kd == 3) fs (s ++ [kwT kd, [32], nm, [32, 123]].flatten) (ok && nameOk nm)).1 (fieldsG (kd == 3) fs (s ++ [kwT kd, [32], nm, [32, 123]].flatten) (ok && nameOk nm)).2).1 ++ [32, 125, 10], (methodsG ms (fieldsG (kd == 3) fs (s ++ [kwT kd, [32], nm, [32, 123]].flatten) (ok && nameOk nm)).1 (fieldsG (kd == 3) fs (s ++ [kwT kd, [32], nm, [32, 123]].flatten) (ok && nameOk nm)).2).2) := by
    unfold declG
    rw [if_neg (by simp [hb])]
  rw [hE] at hl ⊢
  clear hE
  simp only at hl ⊢
  have hgG : ∀ x y, setG G pb (oB x y) pb = some (oB x y) := fun x y => setG_same _ _ _
  have hgL : ∀ x y, LibOk (setG G pb (oB x y)) := fun x y => hL.set hG _ _
  have hfm := fields_mono (kd == 3) fs (s ++ [kwT kd, [32], nm, [32, 123]].flatten) (ok && nameOk nm)
  have hfl := fields_le (kd == 3) fs (s ++ [kwT kd, [32], nm, [32, 123]].flatten) (ok && nameOk nm)
  have hmm := methods_mono ms (fieldsG (kd == 3) fs (s ++ [kwT kd, [32], nm, [32, 123]].flatten) (ok && nameOk nm)).1 (fieldsG (kd == 3) fs (s ++ [kwT kd, [32], nm, [32, 123]].flatten) (ok && nameOk nm)).2
  have hml := methods_le ms (fieldsG (kd == 3) fs (s ++ [kwT kd, [32], nm, [32, 123]].flatten) (ok && nameOk nm)).1 (fieldsG (kd == 3) fs (s ++ [kwT kd, [32], nm, [32, 123]].flatten) (ok && nameOk nm)).2
  rw [List.length_append] at hl
  have hnl : nm.length ≤ (s ++ [kwT kd, [32], nm, [32, 123]].flatten).length := by simp only [List.flatten_cons, List.flatten_nil, List.length_append]; omega
  have hnm := sname_ok nm (by omega) hG hL
  have hput := put_ok [kwT kd, [32], nm, [32, 123]] (hgG s (ok && nameOk nm)) (by rw [← List.length_append]; omega) (by simp)
  rw [setG_twice] at hput
  simp only [List.map_cons, List.map_nil] at hput
  have hput2 := fun q : List UInt8 × Bool => fun h => put_ok [[32, 125, 10]] (hgG q.1 q.2) h (by simp)
  simp only [setG_twice] at hput2
  simp only [List.map_cons, List.map_nil, List.flatten_cons, List.flatten_nil, List.append_nil] at hput2
  unfold badD at hb
  simp only [Bool.or_eq_false_iff, decide_eq_false_iff_not, Bool.and_eq_false_iff, Bool.not_eq_false', decide_eq_true_eq] at hb
  obtain ⟨b1, b2, b3, b4, b5, b6⟩ := hb
  have lf : (fs.map GF.av).length = fs.length := by simp
  have lm : (ms.map GM.av).length = ms.length := by simp
  have t16f : decide ((((fs.map GF.av).length : Nat) : Int) > 16) = false := by rw [lf, decide_eq_false_iff_not]; omega
  have t16m : decide ((((ms.map GM.av).length : Nat) : Int) > 16) = false := by rw [lm, decide_eq_false_iff_not]; omega
  have t0f : kd = 4 → decide ((((fs.map GF.av).length : Nat) : Int) > 0) = false := fun h => by rw [lf, decide_eq_false_iff_not]; omega
  have t0m : kd ≠ 4 → decide ((((ms.map GM.av).length : Nat) : Int) > 0) = false := fun h => by rw [lm, decide_eq_false_iff_not]; omega
  have bf : fs.length ≤ 16 := by omega
  have bm : ms.length ≤ 16 := by omega
  clear b3 b4 b5 b6
  generalize hz : s ++ [kwT kd, [32], nm, [32, 123]].flatten = z at *
  clear hz hnl
  rcases (by omega : kd = 1 ∨ kd = 2 ∨ kd = 3 ∨ kd = 4) with rfl | rfl | rfl | rfl
  · clear t0f
    have t0m := t0m (by decide)
    refine call_sem tt_ok Tryd.func53 rfl (by kernel_rfl) Tryd.ntmps53 Tryd.results53 ?_; conv => whnf
    repeat' (first | ((first | refine Sem.reg tt_ok ?_ | refine Sem.condS ?_ | refine Sem.regL tt_ok ?_ | refine Sem.skip tt_ok ?_ | refine Sem.exit tt_ok ?_ | refine Sem.ret tt_ok ?_ | refine BS_t (by assumption) ?_ | refine BS_f (by assumption) ?_ | refine (nthK_iff _ _).2 ⟨_, (by assumption), ?_⟩ | refine ⟨_, ⟨(by omega), (by assumption)⟩, ?_⟩ | refine And.intro (by first | decide | omega) ?_ | fail); conv => whnf) | refine Sem.seqS ?_ | refine Sem.block ?_ | fail)
    refine draw_sound (eff := [8, 10]) tt_ok (by kernel_rfl) (by kernel_rfl) ?_; conv => whnf
    repeat' (first | ((first | refine BS_t (by assumption) ?_ | refine BS_f (by assumption) ?_ | refine (nthK_iff _ _).2 ⟨_, (by assumption), ?_⟩ | refine ⟨_, ⟨(by omega), (by assumption)⟩, ?_⟩ | refine And.intro (by first | decide | omega) ?_ | fail); conv => whnf) | fail)
    refine ⟨_, _, hnm, ?_⟩; conv => whnf
    repeat' (first | ((first | refine BS_t (by assumption) ?_ | refine BS_f (by assumption) ?_ | refine (nthK_iff _ _).2 ⟨_, (by assumption), ?_⟩ | refine ⟨_, ⟨(by omega), (by assumption)⟩, ?_⟩ | refine And.intro (by first | decide | omega) ?_ | fail); conv => whnf) | fail)
    repeat' (first | (refine And.intro (by conv => whnf) ?_; conv => whnf) | fail)
    repeat' (first | ((first | refine BS_t (by assumption) ?_ | refine BS_f (by assumption) ?_ | refine (nthK_iff _ _).2 ⟨_, (by assumption), ?_⟩ | refine ⟨_, ⟨(by omega), (by assumption)⟩, ?_⟩ | refine And.intro (by first | decide | omega) ?_ | fail); conv => whnf) | fail)
    refine ⟨_, _, hput, ?_⟩; conv => whnf
    repeat' (first | ((first | refine BS_t (by assumption) ?_ | refine BS_f (by assumption) ?_ | refine (nthK_iff _ _).2 ⟨_, (by assumption), ?_⟩ | refine ⟨_, ⟨(by omega), (by assumption)⟩, ?_⟩ | refine And.intro (by first | decide | omega) ?_ | fail); conv => whnf) | fail)
    repeat' (first | (refine And.intro (by conv => whnf) ?_; conv => whnf) | fail)
    repeat' (first | ((first | refine BS_t (by assumption) ?_ | refine BS_f (by assumption) ?_ | refine (nthK_iff _ _).2 ⟨_, (by assumption), ?_⟩ | refine ⟨_, ⟨(by omega), (by assumption)⟩, ?_⟩ | refine And.intro (by first | decide | omega) ?_ | fail); conv => whnf) | fail)
    repeat' (first | ((first | refine Sem.reg tt_ok ?_ | refine Sem.condS ?_ | refine Sem.regL tt_ok ?_ | refine Sem.skip tt_ok ?_ | refine Sem.exit tt_ok ?_ | refine Sem.ret tt_ok ?_ | refine BS_t (by assumption) ?_ | refine BS_f (by assumption) ?_ | refine (nthK_iff _ _).2 ⟨_, (by assumption), ?_⟩ | refine ⟨_, ⟨(by omega), (by assumption)⟩, ?_⟩ | refine And.intro (by first | decide | omega) ?_ | fail); conv => whnf) | refine Sem.seqS ?_ | refine Sem.block ?_ | fail)
    refine Sem.loop (ι := RowN fs.length) (fun x => ⟨(.gptr pb 0 :: .top :: .top :: .lptr 0 0 :: .top :: .top :: .top :: .top :: .top :: .top :: .top :: .top :: .top :: .top :: .top :: .top :: .top :: .top :: .top :: .top :: .top :: .top :: .top :: .top :: .top :: .top :: .top :: .top :: .top :: .top :: .top :: .top :: .top :: .top :: .top :: .top :: .top :: .top :: .top :: .top :: .top :: .top :: .top :: .top :: .top :: .top :: .top :: .top :: .top :: .top :: .top :: .top :: .top :: .top :: .top :: .top :: .top :: .top :: .top :: .top :: .top :: .top :: .top :: .top :: .top :: .top :: .top :: .slc 83 (fs.map GF.av) :: .int .i64 ((fs.map GF.av).length : Nat) :: .int .i64 (x.k : Nat) :: .top :: .top :: .top :: .top :: .top :: .top :: .top :: .top :: .top :: .top :: .top :: .top :: .top :: .top :: .top :: .top :: .top :: .top :: .top :: .top :: .top :: .top :: .top :: .top :: []), [.live none [.int .i64 1, .str (S nm), .slc 83 (fs.map GF.av), .slc 123 (ms.map GM.av), .int .i64 pa], .live none wordsA], 2, 0, setG G pb (oB (fieldsG ((1 : Int) == 3) (fs.take x.k) z (ok && nameOk nm)).1 (fieldsG ((1 : Int) == 3) (fs.take x.k) z (ok && nameOk nm)).2)⟩) (fun x => fs.length - x.k) ⟨0, Nat.zero_le _⟩ ?_ (fun x => ?_)
    · refine weak_by [] ?_; (conv => whnf); repeat (first | (refine And.intro rfl ?_; conv => whnf) | fail)
      refine ⟨fun i y hy => ?_, rfl, by decide, rfl, rfl⟩
      rw [List.take_zero, fieldsG] at hy
      exact hy
    obtain ⟨k, hk⟩ := x
    simp only
    have h0 : (0 : Int) ≤ ((k : Nat) : Int) := by omega
    by_cases hlt : k < fs.length
    · obtain ⟨⟨tg, n1, ⟨k1, n2, of1⟩⟩, hx⟩ : ∃ x, fs[k]? = some x := ⟨_, List.getElem?_eq_getElem hlt⟩
      have hmem : GF.mk tg n1 (.mk k1 n2 of1) ∈ fs := List.mem_of_getElem? hx
      have tl : decide (((k : Nat) : Int) < ((fs.map GF.av).length : Nat)) = true := by rw [lf, decide_eq_true_eq]; omega
      have hm := gf_at hx
      have hft : fieldsG ((1 : Int) == 3) (fs.take (k + 1)) z (ok && nameOk nm) = fieldG ((1 : Int) == 3) ⟨tg, n1, .mk k1 n2 of1⟩ (fieldsG ((1 : Int) == 3) (fs.take k) z (ok && nameOk nm)).1 (fieldsG ((1 : Int) == 3) (fs.take k) z (ok && nameOk nm)).2 := by
        rw [List.take_add_one, hx, Option.toList_some, fields_app]
      have hle := hfl (k + 1)
      rw [hft] at hle
      have hc := sfield_ok ((1 : Int) == 3) ⟨tg, n1, .mk k1 n2 of1⟩ (hok.1 _ hmem) (hgG (fieldsG ((1 : Int) == 3) (fs.take k) z (ok && nameOk nm)).1 (fieldsG ((1 : Int) == 3) (fs.take k) z (ok && nameOk nm)).2) (hgL _ _) (by omega)
      rw [setG_twice, GF.av, GT.av, ← hft] at hc
      have hi : IntKind.i64.wrap ((k : Int) + 1) = ((k + 1 : Nat) : Int) := by rw [IntWalk.i64_in _ (by omega)]; omega
      clear hft hle
      repeat' (first | ((first | refine Sem.reg tt_ok ?_ | refine Sem.condS ?_ | refine Sem.regL tt_ok ?_ | refine Sem.skip tt_ok ?_ | refine Sem.exit tt_ok ?_ | refine Sem.ret tt_ok ?_ | refine BS_t (by assumption) ?_ | refine BS_f (by assumption) ?_ | refine (nthK_iff _ _).2 ⟨_, (by assumption), ?_⟩ | refine ⟨_, ⟨(by omega), (by assumption)⟩, ?_⟩ | refine And.intro (by first | decide | omega) ?_ | fail); conv => whnf) | refine Sem.seqS ?_ | refine Sem.block ?_ | fail)
      refine hc.on ?_; conv => whnf
      repeat' (first | ((first | refine Sem.reg tt_ok ?_ | refine Sem.condS ?_ | refine Sem.regL tt_ok ?_ | refine Sem.skip tt_ok ?_ | refine Sem.exit tt_ok ?_ | refine Sem.ret tt_ok ?_ | refine BS_t (by assumption) ?_ | refine BS_f (by assumption) ?_ | refine (nthK_iff _ _).2 ⟨_, (by assumption), ?_⟩ | refine ⟨_, ⟨(by omega), (by assumption)⟩, ?_⟩ | refine And.intro (by first | decide | omega) ?_ | fail); conv => whnf) | refine Sem.seqS ?_ | refine Sem.block ?_ | fail)
      refine ⟨⟨k + 1, by omega⟩, by show fs.length - (k + 1) < fs.length - k; omega, ?_⟩
      refine weak_by [] ?_; (conv => whnf); repeat (first | (refine And.intro rfl ?_; conv => whnf) | fail)
      refine And.intro hi ?_
      (conv => whnf); repeat (first | (refine And.intro rfl ?_; conv => whnf) | fail)
      exact ⟨fun i y hy => hy, rfl, by decide, rfl, rfl⟩
    have hk' : k = fs.length := by omega
    subst hk'
    rw [List.take_length]
    have tl : decide (((fs.length : Nat) : Int) < ((fs.map GF.av).length : Nat)) = false := by rw [lf, decide_eq_false_iff_not]; omega
    clear hfl hfm h0
    generalize fieldsG ((1 : Int) == 3) fs z (ok && nameOk nm) = q at *
    repeat' (first | ((first | refine Sem.reg tt_ok ?_ | refine Sem.condS ?_ | refine Sem.regL tt_ok ?_ | refine Sem.skip tt_ok ?_ | refine Sem.exit tt_ok ?_ | refine Sem.ret tt_ok ?_ | refine BS_t (by assumption) ?_ | refine BS_f (by assumption) ?_ | refine (nthK_iff _ _).2 ⟨_, (by assumption), ?_⟩ | refine ⟨_, ⟨(by omega), (by assumption)⟩, ?_⟩ | refine And.intro (by first | decide | omega) ?_ | fail); conv => whnf) | refine Sem.seqS ?_ | refine Sem.block ?_ | fail)
    refine Sem.loop (ι := RowN ms.length) (fun x => ⟨(.gptr pb 0 :: .top :: .top :: .lptr 0 0 :: .top :: .top :: .top :: .top :: .top :: .top :: .top :: .top :: .top :: .top :: .top :: .top :: .top :: .top :: .top :: .top :: .top :: .top :: .top :: .top :: .top :: .top :: .top :: .top :: .top :: .top :: .top :: .top :: .top :: .top :: .top :: .top :: .top :: .top :: .top :: .top :: .top :: .top :: .top :: .top :: .top :: .top :: .top :: .top :: .top :: .top :: .top :: .top :: .top :: .top :: .top :: .top :: .top :: .top :: .top :: .top :: .top :: .top :: .top :: .top :: .top :: .top :: .top :: .top :: .top :: .top :: .top :: .top :: .top :: .top :: .top :: .top :: .top :: .top :: .top :: .top :: .top :: .slc 123 (ms.map GM.av) :: .int .i64 ((ms.map GM.av).length : Nat) :: .int .i64 (x.k : Nat) :: .top :: .top :: .top :: .top :: .top :: .top :: .top :: .top :: .top :: .top :: []), [.live none [.int .i64 1, .str (S nm), .slc 83 (fs.map GF.av), .slc 123 (ms.map GM.av), .int .i64 pa], .live none wordsA], 2, 0, setG G pb (oB (methodsG (ms.take x.k) q.1 q.2).1 (methodsG (ms.take x.k) q.1 q.2).2)⟩) (fun x => ms.length - x.k) ⟨0, Nat.zero_le _⟩ ?_ (fun x => ?_)
    · refine weak_by [] ?_; (conv => whnf); repeat (first | (refine And.intro rfl ?_; conv => whnf) | fail)
      refine ⟨fun i y hy => ?_, rfl, by decide, rfl, rfl⟩
      rw [List.take_zero, methodsG] at hy
      exact hy
    obtain ⟨k, hk⟩ := x
    simp only
    have h0 : (0 : Int) ≤ ((k : Nat) : Int) := by omega
    by_cases hlt : k < ms.length
    · obtain ⟨⟨tg, n1, inn, out, ow⟩, hx⟩ : ∃ x, ms[k]? = some x := ⟨_, List.getElem?_eq_getElem hlt⟩
      have hmem : GM.mk tg n1 inn out ow ∈ ms := List.mem_of_getElem? hx
      have tl : decide (((k : Nat) : Int) < ((ms.map GM.av).length : Nat)) = true := by rw [lm, decide_eq_true_eq]; omega
      have hm := gm_at hx
      have hft : methodsG (ms.take (k + 1)) q.1 q.2 = methodG ⟨tg, n1, inn, out, ow⟩ (methodsG (ms.take k) q.1 q.2).1 (methodsG (ms.take k) q.1 q.2).2 := by
        rw [List.take_add_one, hx, Option.toList_some, methods_app]
      have hle := hml (k + 1)
      rw [hft] at hle
      have hc := smethod_ok ⟨tg, n1, inn, out, ow⟩ (hok.2 _ hmem) (hgG (methodsG (ms.take k) q.1 q.2).1 (methodsG (ms.take k) q.1 q.2).2) (hgL _ _) (by omega)
      rw [setG_twice, GM.av, ← hft] at hc
      have hi : IntKind.i64.wrap ((k : Int) + 1) = ((k + 1 : Nat) : Int) := by rw [IntWalk.i64_in _ (by omega)]; omega
      clear hft hle
      repeat' (first | ((first | refine Sem.reg tt_ok ?_ | refine Sem.condS ?_ | refine Sem.regL tt_ok ?_ | refine Sem.skip tt_ok ?_ | refine Sem.exit tt_ok ?_ | refine Sem.ret tt_ok ?_ | refine BS_t (by assumption) ?_ | refine BS_f (by assumption) ?_ | refine (nthK_iff _ _).2 ⟨_, (by assumption), ?_⟩ | refine ⟨_, ⟨(by omega), (by assumption)⟩, ?_⟩ | refine And.intro (by first | decide | omega) ?_ | fail); conv => whnf) | refine Sem.seqS ?_ | refine Sem.block ?_ | fail)
      refine hc.on ?_; conv => whnf
      repeat' (first | ((first | refine Sem.reg tt_ok ?_ | refine Sem.condS ?_ | refine Sem.regL tt_ok ?_ | refine Sem.skip tt_ok ?_ | refine Sem.exit tt_ok ?_ | refine Sem.ret tt_ok ?_ | refine BS_t (by assumption) ?_ | refine BS_f (by assumption) ?_ | refine (nthK_iff _ _).2 ⟨_, (by assumption), ?_⟩ | refine ⟨_, ⟨(by omega), (by assumption)⟩, ?_⟩ | refine And.intro (by first | decide | omega) ?_ | fail); conv => whnf) | refine Sem.seqS ?_ | refine Sem.block ?_ | fail)
      refine ⟨⟨k + 1, by omega⟩, by show ms.length - (k + 1) < ms.length - k; omega, ?_⟩
      refine weak_by [] ?_; (conv => whnf); repeat (first | (refine And.intro rfl ?_; conv => whnf) | fail)
      refine And.intro hi ?_
      (conv => whnf); repeat (first | (refine And.intro rfl ?_; conv => whnf) | fail)
      exact ⟨fun i y hy => hy, rfl, by decide, rfl, rfl⟩
    have hk' : k = ms.length := by omega
    subst hk'
    rw [List.take_length]
    have tl : decide (((ms.length : Nat) : Int) < ((ms.map GM.av).length : Nat)) = false := by rw [lm, decide_eq_false_iff_not]; omega
    clear hml hmm h0
    generalize methodsG ms q.1 q.2 = r at *
    have hput2 := hput2 r (by simpa using hl)
    repeat' (first | ((first | refine Sem.reg tt_ok ?_ | refine Sem.condS ?_ | refine Sem.regL tt_ok ?_ | refine Sem.skip tt_ok ?_ | refine Sem.exit tt_ok ?_ | refine Sem.ret tt_ok ?_ | refine BS_t (by assumption) ?_ | refine BS_f (by assumption) ?_ | refine (nthK_iff _ _).2 ⟨_, (by assumption), ?_⟩ | refine ⟨_, ⟨(by omega), (by assumption)⟩, ?_⟩ | refine And.intro (by first | decide | omega) ?_ | fail); conv => whnf) | refine Sem.seqS ?_ | refine Sem.block ?_ | fail)
    refine hput2.on ?_; conv => whnf
    repeat' (first | ((first | refine Sem.reg tt_ok ?_ | refine Sem.condS ?_ | refine Sem.regL tt_ok ?_ | refine Sem.skip tt_ok ?_ | refine Sem.exit tt_ok ?_ | refine Sem.ret tt_ok ?_ | refine BS_t (by assumption) ?_ | refine BS_f (by assumption) ?_ | refine (nthK_iff _ _).2 ⟨_, (by assumption), ?_⟩ | refine ⟨_, ⟨(by omega), (by assumption)⟩, ?_⟩ | refine And.intro (by first | decide | omega) ?_ | fail); conv => whnf) | refine Sem.seqS ?_ | refine Sem.block ?_ | fail)
    exact ⟨_, fun _ _ h => h, rfl, rfl⟩
  · clear t0f
    have t0m := t0m (by decide)
    refine call_sem tt_ok Tryd.func53 rfl (by kernel_rfl) Tryd.ntmps53 Tryd.results53 ?_; conv => whnf
    repeat' (first | ((first | refine Sem.reg tt_ok ?_ | refine Sem.condS ?_ | refine Sem.regL tt_ok ?_ | refine Sem.skip tt_ok ?_ | refine Sem.exit tt_ok ?_ | refine Sem.ret tt_ok ?_ | refine BS_t (by assumption) ?_ | refine BS_f (by assumption) ?_ | refine (nthK_iff _ _).2 ⟨_, (by assumption), ?_⟩ | refine ⟨_, ⟨(by omega), (by assumption)⟩, ?_⟩ | refine And.intro (by first | decide | omega) ?_ | fail); conv => whnf) | refine Sem.seqS ?_ | refine Sem.block ?_ | fail)
    refine draw_sound (eff := [8, 10]) tt_ok (by kernel_rfl) (by kernel_rfl) ?_; conv => whnf
    repeat' (first | ((first | refine BS_t (by assumption) ?_ | refine BS_f (by assumption) ?_ | refine (nthK_iff _ _).2 ⟨_, (by assumption), ?_⟩ | refine ⟨_, ⟨(by omega), (by assumption)⟩, ?_⟩ | refine And.intro (by first | decide | omega) ?_ | fail); conv => whnf) | fail)
    refine ⟨_, _, hnm, ?_⟩; conv => whnf
    repeat' (first | ((first | refine BS_t (by assumption) ?_ | refine BS_f (by assumption) ?_ | refine (nthK_iff _ _).2 ⟨_, (by assumption), ?_⟩ | refine ⟨_, ⟨(by omega), (by assumption)⟩, ?_⟩ | refine And.intro (by first | decide | omega) ?_ | fail); conv => whnf) | fail)
    repeat' (first | (refine And.intro (by conv => whnf) ?_; conv => whnf) | fail)
    repeat' (first | ((first | refine BS_t (by assumption) ?_ | refine BS_f (by assumption) ?_ | refine (nthK_iff _ _).2 ⟨_, (by assumption), ?_⟩ | refine ⟨_, ⟨(by omega), (by assumption)⟩, ?_⟩ | refine And.intro (by first | decide | omega) ?_ | fail); conv => whnf) | fail)
    refine ⟨_, _, hput, ?_⟩; conv => whnf
    repeat' (first | ((first | refine BS_t (by assumption) ?_ | refine BS_f (by assumption) ?_ | refine (nthK_iff _ _).2 ⟨_, (by assumption), ?_⟩ | refine ⟨_, ⟨(by omega), (by assumption)⟩, ?_⟩ | refine And.intro (by first | decide | omega) ?_ | fail); conv => whnf) | fail)
    repeat' (first | (refine And.intro (by conv => whnf) ?_; conv => whnf) | fail)
    repeat' (first | ((first | refine BS_t (by assumption) ?_ | refine BS_f (by assumption) ?_ | refine (nthK_iff _ _).2 ⟨_, (by assumption), ?_⟩ | refine ⟨_, ⟨(by omega), (by assumption)⟩, ?_⟩ | refine And.intro (by first | decide | omega) ?_ | fail); conv => whnf) | fail)
    repeat' (first | ((first | refine Sem.reg tt_ok ?_ | refine Sem.condS ?_ | refine Sem.regL tt_ok ?_ | refine Sem.skip tt_ok ?_ | refine Sem.exit tt_ok ?_ | refine Sem.ret tt_ok ?_ | refine BS_t (by assumption) ?_ | refine BS_f (by assumption) ?_ | refine (nthK_iff _ _).2 ⟨_, (by assumption), ?_⟩ | refine ⟨_, ⟨(by omega), (by assumption)⟩, ?_⟩ | refine And.intro (by first | decide | omega) ?_ | fail); conv => whnf) | refine Sem.seqS ?_ | refine Sem.block ?_ | fail)
    refine Sem.loop (ι := RowN fs.length) (fun x => ⟨(.gptr pb 0 :: .top :: .top :: .lptr 0 0 :: .top :: .top :: .top :: .top :: .top :: .top :: .top :: .top :: .top :: .top :: .top :: .top :: .top :: .top :: .top :: .top :: .top :: .top :: .top :: .top :: .top :: .top :: .top :: .top :: .top :: .top :: .top :: .top :: .top :: .top :: .top :: .top :: .top :: .top :: .top :: .top :: .top :: .top :: .top :: .top :: .top :: .top :: .top :: .top :: .top :: .top :: .top :: .top :: .top :: .top :: .top :: .top :: .top :: .top :: .top :: .top :: .top :: .top :: .top :: .top :: .top :: .top :: .top :: .slc 83 (fs.map GF.av) :: .int .i64 ((fs.map GF.av).length : Nat) :: .int .i64 (x.k : Nat) :: .top :: .top :: .top :: .top :: .top :: .top :: .top :: .top :: .top :: .top :: .top :: .top :: .top :: .top :: .top :: .top :: .top :: .top :: .top :: .top :: .top :: .top :: .top :: .top :: []), [.live none [.int .i64 2, .str (S nm), .slc 83 (fs.map GF.av), .slc 123 (ms.map GM.av), .int .i64 pa], .live none wordsA], 2, 0, setG G pb (oB (fieldsG ((2 : Int) == 3) (fs.take x.k) z (ok && nameOk nm)).1 (fieldsG ((2 : Int) == 3) (fs.take x.k) z (ok && nameOk nm)).2)⟩) (fun x => fs.length - x.k) ⟨0, Nat.zero_le _⟩ ?_ (fun x => ?_)
    · refine weak_by [] ?_; (conv => whnf); repeat (first | (refine And.intro rfl ?_; conv => whnf) | fail)
      refine ⟨fun i y hy => ?_, rfl, by decide, rfl, rfl⟩
      rw [List.take_zero, fieldsG] at hy
      exact hy
    obtain ⟨k, hk⟩ := x
    simp only
    have h0 : (0 : Int) ≤ ((k : Nat) : Int) := by omega
    by_cases hlt : k < fs.length
    · obtain ⟨⟨tg, n1, ⟨k1, n2, of1⟩⟩, hx⟩ : ∃ x, fs[k]? = some x := ⟨_, List.getElem?_eq_getElem hlt⟩
      have hmem : GF.mk tg n1 (.mk k1 n2 of1) ∈ fs := List.mem_of_getElem? hx
      have tl : decide (((k : Nat) : Int) < ((fs.map GF.av).length : Nat)) = true := by rw [lf, decide_eq_true_eq]; omega
      have hm := gf_at hx
      have hft : fieldsG ((2 : Int) == 3) (fs.take (k + 1)) z (ok && nameOk nm) = fieldG ((2 : Int) == 3) ⟨tg, n1, .mk k1 n2 of1⟩ (fieldsG ((2 : Int) == 3) (fs.take k) z (ok && nameOk nm)).1 (fieldsG ((2 : Int) == 3) (fs.take k) z (ok && nameOk nm)).2 := by
        rw [List.take_add_one, hx, Option.toList_some, fields_app]
      have hle := hfl (k + 1)
      rw [hft] at hle
      have hc := sfield_ok ((2 : Int) == 3) ⟨tg, n1, .mk k1 n2 of1⟩ (hok.1 _ hmem) (hgG (fieldsG ((2 : Int) == 3) (fs.take k) z (ok && nameOk nm)).1 (fieldsG ((2 : Int) == 3) (fs.take k) z (ok && nameOk nm)).2) (hgL _ _) (by omega)
      rw [setG_twice, GF.av, GT.av, ← hft] at hc
      have hi : IntKind.i64.wrap ((k : Int) + 1) = ((k + 1 : Nat) : Int) := by rw [IntWalk.i64_in _ (by omega)]; omega
      clear hft hle
      repeat' (first | ((first | refine Sem.reg tt_ok ?_ | refine Sem.condS ?_ | refine Sem.regL tt_ok ?_ | refine Sem.skip tt_ok ?_ | refine Sem.exit tt_ok ?_ | refine Sem.ret tt_ok ?_ | refine BS_t (by assumption) ?_ | refine BS_f (by assumption) ?_ | refine (nthK_iff _ _).2 ⟨_, (by assumption), ?_⟩ | refine ⟨_, ⟨(by omega), (by assumption)⟩, ?_⟩ | refine And.intro (by first | decide | omega) ?_ | fail); conv => whnf) | refine Sem.seqS ?_ | refine Sem.block ?_ | fail)
      refine hc.on ?_; conv => whnf
      repeat' (first | ((first | refine Sem.reg tt_ok ?_ | refine Sem.condS ?_ | refine Sem.regL tt_ok ?_ | refine Sem.skip tt_ok ?_ | refine Sem.exit tt_ok ?_ | refine Sem.ret tt_ok ?_ | refine BS_t (by assumption) ?_ | refine BS_f (by assumption) ?_ | refine (nthK_iff _ _).2 ⟨_, (by assumption), ?_⟩ | refine ⟨_, ⟨(by omega), (by assumption)⟩, ?_⟩ | refine And.intro (by first | decide | omega) ?_ | fail); conv => whnf) | refine Sem.seqS ?_ | refine Sem.block ?_ | fail)
      refine ⟨⟨k + 1, by omega⟩, by show fs.length - (k + 1) < fs.length - k; omega, ?_⟩
      refine weak_by [] ?_; (conv => whnf); repeat (first | (refine And.intro rfl ?_; conv => whnf) | fail)
      refine And.intro hi ?_
      (conv => whnf); repeat (first | (refine And.intro rfl ?_; conv => whnf) | fail)
      exact ⟨fun i y hy => hy, rfl, by decide, rfl, rfl⟩
    have hk' : k = fs.length := by omega
    subst hk'
    rw [List.take_length]
    have tl : decide (((fs.length : Nat) : Int) < ((fs.map GF.av).length : Nat)) = false := by rw [lf, decide_eq_false_iff_not]; omega
    clear hfl hfm h0
    generalize fieldsG ((2 : Int) == 3) fs z (ok && nameOk nm) = q at *
    repeat' (first | ((first | refine Sem.reg tt_ok ?_ | refine Sem.condS ?_ | refine Sem.regL tt_ok ?_ | refine Sem.skip tt_ok ?_ | refine Sem.exit tt_ok ?_ | refine Sem.ret tt_ok ?_ | refine BS_t (by assumption) ?_ | refine BS_f (by assumption) ?_ | refine (nthK_iff _ _).2 ⟨_, (by assumption), ?_⟩ | refine ⟨_, ⟨(by omega), (by assumption)⟩, ?_⟩ | refine And.intro (by first | decide | omega) ?_ | fail); conv => whnf) | refine Sem.seqS ?_ | refine Sem.block ?_ | fail)
    refine Sem.loop (ι := RowN ms.length) (fun x => ⟨(.gptr pb 0 :: .top :: .top :: .lptr 0 0 :: .top :: .top :: .top :: .top :: .top :: .top :: .top :: .top :: .top :: .top :: .top :: .top :: .top :: .top :: .top :: .top :: .top :: .top :: .top :: .top :: .top :: .top :: .top :: .top :: .top :: .top :: .top :: .top :: .top :: .top :: .top :: .top :: .top :: .top :: .top :: .top :: .top :: .top :: .top :: .top :: .top :: .top :: .top :: .top :: .top :: .top :: .top :: .top :: .top :: .top :: .top :: .top :: .top :: .top :: .top :: .top :: .top :: .top :: .top :: .top :: .top :: .top :: .top :: .top :: .top :: .top :: .top :: .top :: .top :: .top :: .top :: .top :: .top :: .top :: .top :: .top :: .top :: .slc 123 (ms.map GM.av) :: .int .i64 ((ms.map GM.av).length : Nat) :: .int .i64 (x.k : Nat) :: .top :: .top :: .top :: .top :: .top :: .top :: .top :: .top :: .top :: .top :: []), [.live none [.int .i64 2, .str (S nm), .slc 83 (fs.map GF.av), .slc 123 (ms.map GM.av), .int .i64 pa], .live none wordsA], 2, 0, setG G pb (oB (methodsG (ms.take x.k) q.1 q.2).1 (methodsG (ms.take x.k) q.1 q.2).2)⟩) (fun x => ms.length - x.k) ⟨0, Nat.zero_le _⟩ ?_ (fun x => ?_)
    · refine weak_by [] ?_; (conv => whnf); repeat (first | (refine And.intro rfl ?_; conv => whnf) | fail)
      refine ⟨fun i y hy => ?_, rfl, by decide, rfl, rfl⟩
      rw [List.take_zero, methodsG] at hy
      exact hy
    obtain ⟨k, hk⟩ := x
    simp only
    have h0 : (0 : Int) ≤ ((k : Nat) : Int) := by omega
    by_cases hlt : k < ms.length
    · obtain ⟨⟨tg, n1, inn, out, ow⟩, hx⟩ : ∃ x, ms[k]? = some x := ⟨_, List.getElem?_eq_getElem hlt⟩
      have hmem : GM.mk tg n1 inn out ow ∈ ms := List.mem_of_getElem? hx
      have tl : decide (((k : Nat) : Int) < ((ms.map GM.av).length : Nat)) = true := by rw [lm, decide_eq_true_eq]; omega
      have hm := gm_at hx
      have hft : methodsG (ms.take (k + 1)) q.1 q.2 = methodG ⟨tg, n1, inn, out, ow⟩ (methodsG (ms.take k) q.1 q.2).1 (methodsG (ms.take k) q.1 q.2).2 := by
        rw [List.take_add_one, hx, Option.toList_some, methods_app]
      have hle := hml (k + 1)
      rw [hft] at hle
      have hc := smethod_ok ⟨tg, n1, inn, out, ow⟩ (hok.2 _ hmem) (hgG (methodsG (ms.take k) q.1 q.2).1 (methodsG (ms.take k) q.1 q.2).2) (hgL _ _) (by omega)
      rw [setG_twice, GM.av, ← hft] at hc
      have hi : IntKind.i64.wrap ((k : Int) + 1) = ((k + 1 : Nat) : Int) := by rw [IntWalk.i64_in _ (by omega)]; omega
      clear hft hle
      repeat' (first | ((first | refine Sem.reg tt_ok ?_ | refine Sem.condS ?_ | refine Sem.regL tt_ok ?_ | refine Sem.skip tt_ok ?_ | refine Sem.exit tt_ok ?_ | refine Sem.ret tt_ok ?_ | refine BS_t (by assumption) ?_ | refine BS_f (by assumption) ?_ | refine (nthK_iff _ _).2 ⟨_, (by assumption), ?_⟩ | refine ⟨_, ⟨(by omega), (by assumption)⟩, ?_⟩ | refine And.intro (by first | decide | omega) ?_ | fail); conv => whnf) | refine Sem.seqS ?_ | refine Sem.block ?_ | fail)
      refine hc.on ?_; conv => whnf
      repeat' (first | ((first | refine Sem.reg tt_ok ?_ | refine Sem.condS ?_ | refine Sem.regL tt_ok ?_ | refine Sem.skip tt_ok ?_ | refine Sem.exit tt_ok ?_ | refine Sem.ret tt_ok ?_ | refine BS_t (by assumption) ?_ | refine BS_f (by assumption) ?_ | refine (nthK_iff _ _).2 ⟨_, (by assumption), ?_⟩ | refine ⟨_, ⟨(by omega), (by assumption)⟩, ?_⟩ | refine And.intro (by first | decide | omega) ?_ | fail); conv => whnf) | refine Sem.seqS ?_ | refine Sem.block ?_ | fail)
      refine ⟨⟨k + 1, by omega⟩, by show ms.length - (k + 1) < ms.length - k; omega, ?_⟩
      refine weak_by [] ?_; (conv => whnf); repeat (first | (refine And.intro rfl ?_; conv => whnf) | fail)
      refine And.intro hi ?_
      (conv => whnf); repeat (first | (refine And.intro rfl ?_; conv => whnf) | fail)
      exact ⟨fun i y hy => hy, rfl, by decide, rfl, rfl⟩
    have hk' : k = ms.length := by omega
    subst hk'
    rw [List.take_length]
    have tl : decide (((ms.length : Nat) : Int) < ((ms.map GM.av).length : Nat)) = false := by rw [lm, decide_eq_false_iff_not]; omega
    clear hml hmm h0
    generalize methodsG ms q.1 q.2 = r at *
    have hput2 := hput2 r (by simpa using hl)
    repeat' (first | ((first | refine Sem.reg tt_ok ?_ | refine Sem.condS ?_ | refine Sem.regL tt_ok ?_ | refine Sem.skip tt_ok ?_ | refine Sem.exit tt_ok ?_ | refine Sem.ret tt_ok ?_ | refine BS_t (by assumption) ?_ | refine BS_f (by assumption) ?_ | refine (nthK_iff _ _).2 ⟨_, (by assumption), ?_⟩ | refine ⟨_, ⟨(by omega), (by assumption)⟩, ?_⟩ | refine And.intro (by first | decide | omega) ?_ | fail); conv => whnf) | refine Sem.seqS ?_ | refine Sem.block ?_ | fail)
    refine hput2.on ?_; conv => whnf
    repeat' (first | ((first | refine Sem.reg tt_ok ?_ | refine Sem.condS ?_ | refine Sem.regL tt_ok ?_ | refine Sem.skip tt_ok ?_ | refine Sem.exit tt_ok ?_ | refine Sem.ret tt_ok ?_ | refine BS_t (by assumption) ?_ | refine BS_f (by assumption) ?_ | refine (nthK_iff _ _).2 ⟨_, (by assumption), ?_⟩ | refine ⟨_, ⟨(by omega), (by assumption)⟩, ?_⟩ | refine And.intro (by first | decide | omega) ?_ | fail); conv => whnf) | refine Sem.seqS ?_ | refine Sem.block ?_ | fail)
    exact ⟨_, fun _ _ h => h, rfl, rfl⟩
  · clear t0f
    have t0m := t0m (by decide)
    refine call_sem tt_ok Tryd.func53 rfl (by kernel_rfl) Tryd.ntmps53 Tryd.results53 ?_; conv => whnf
    repeat' (first | ((first | refine Sem.reg tt_ok ?_ | refine Sem.condS ?_ | refine Sem.regL tt_ok ?_ | refine Sem.skip tt_ok ?_ | refine Sem.exit tt_ok ?_ | refine Sem.ret tt_ok ?_ | refine BS_t (by assumption) ?_ | refine BS_f (by assumption) ?_ | refine (nthK_iff _ _).2 ⟨_, (by assumption), ?_⟩ | refine ⟨_, ⟨(by omega), (by assumption)⟩, ?_⟩ | refine And.intro (by first | decide | omega) ?_ | fail); conv => whnf) | refine Sem.seqS ?_ | refine Sem.block ?_ | fail)
    refine draw_sound (eff := [8, 10]) tt_ok (by kernel_rfl) (by kernel_rfl) ?_; conv => whnf
    repeat' (first | ((first | refine BS_t (by assumption) ?_ | refine BS_f (by assumption) ?_ | refine (nthK_iff _ _).2 ⟨_, (by assumption), ?_⟩ | refine ⟨_, ⟨(by omega), (by assumption)⟩, ?_⟩ | refine And.intro (by first | decide | omega) ?_ | fail); conv => whnf) | fail)
    refine ⟨_, _, hnm, ?_⟩; conv => whnf
    repeat' (first | ((first | refine BS_t (by assumption) ?_ | refine BS_f (by assumption) ?_ | refine (nthK_iff _ _).2 ⟨_, (by assumption), ?_⟩ | refine ⟨_, ⟨(by omega), (by assumption)⟩, ?_⟩ | refine And.intro (by first | decide | omega) ?_ | fail); conv => whnf) | fail)
    repeat' (first | (refine And.intro (by conv => whnf) ?_; conv => whnf) | fail)
    repeat' (first | ((first | refine BS_t (by assumption) ?_ | refine BS_f (by assumption) ?_ | refine (nthK_iff _ _).2 ⟨_, (by assumption), ?_⟩ | refine ⟨_, ⟨(by omega), (by assumption)⟩, ?_⟩ | refine And.intro (by first | decide | omega) ?_ | fail); conv => whnf) | fail)
    refine ⟨_, _, hput, ?_⟩; conv => whnf
    repeat' (first | ((first | refine BS_t (by assumption) ?_ | refine BS_f (by assumption) ?_ | refine (nthK_iff _ _).2 ⟨_, (by assumption), ?_⟩ | refine ⟨_, ⟨(by omega), (by assumption)⟩, ?_⟩ | refine And.intro (by first | decide | omega) ?_ | fail); conv => whnf) | fail)
    repeat' (first | (refine And.intro (by conv => whnf) ?_; conv => whnf) | fail)
    repeat' (first | ((first | refine BS_t (by assumption) ?_ | refine BS_f (by assumption) ?_ | refine (nthK_iff _ _).2 ⟨_, (by assumption), ?_⟩ | refine ⟨_, ⟨(by omega), (by assumption)⟩, ?_⟩ | refine And.intro (by first | decide | omega) ?_ | fail); conv => whnf) | fail)
    repeat' (first | ((first | refine Sem.reg tt_ok ?_ | refine Sem.condS ?_ | refine Sem.regL tt_ok ?_ | refine Sem.skip tt_ok ?_ | refine Sem.exit tt_ok ?_ | refine Sem.ret tt_ok ?_ | refine BS_t (by assumption) ?_ | refine BS_f (by assumption) ?_ | refine (nthK_iff _ _).2 ⟨_, (by assumption), ?_⟩ | refine ⟨_, ⟨(by omega), (by assumption)⟩, ?_⟩ | refine And.intro (by first | decide | omega) ?_ | fail); conv => whnf) | refine Sem.seqS ?_ | refine Sem.block ?_ | fail)
    refine Sem.loop (ι := RowN fs.length) (fun x => ⟨(.gptr pb 0 :: .top :: .top :: .lptr 0 0 :: .top :: .top :: .top :: .top :: .top :: .top :: .top :: .top :: .top :: .top :: .top :: .top :: .top :: .top :: .top :: .top :: .top :: .top :: .top :: .top :: .top :: .top :: .top :: .top :: .top :: .top :: .top :: .top :: .top :: .top :: .top :: .top :: .top :: .top :: .top :: .top :: .top :: .top :: .top :: .top :: .top :: .top :: .top :: .top :: .top :: .top :: .top :: .top :: .top :: .top :: .top :: .top :: .top :: .top :: .top :: .top :: .top :: .top :: .top :: .top :: .top :: .top :: .top :: .slc 83 (fs.map GF.av) :: .int .i64 ((fs.map GF.av).length : Nat) :: .int .i64 (x.k : Nat) :: .top :: .top :: .top :: .top :: .top :: .top :: .top :: .top :: .top :: .top :: .top :: .top :: .top :: .top :: .top :: .top :: .top :: .top :: .top :: .top :: .top :: .top :: .top :: .top :: []), [.live none [.int .i64 3, .str (S nm), .slc 83 (fs.map GF.av), .slc 123 (ms.map GM.av), .int .i64 pa], .live none wordsA], 2, 0, setG G pb (oB (fieldsG ((3 : Int) == 3) (fs.take x.k) z (ok && nameOk nm)).1 (fieldsG ((3 : Int) == 3) (fs.take x.k) z (ok && nameOk nm)).2)⟩) (fun x => fs.length - x.k) ⟨0, Nat.zero_le _⟩ ?_ (fun x => ?_)
    · refine weak_by [] ?_; (conv => whnf); repeat (first | (refine And.intro rfl ?_; conv => whnf) | fail)
      refine ⟨fun i y hy => ?_, rfl, by decide, rfl, rfl⟩
      rw [List.take_zero, fieldsG] at hy
      exact hy
    obtain ⟨k, hk⟩ := x
    simp only
    have h0 : (0 : Int) ≤ ((k : Nat) : Int) := by omega
    by_cases hlt : k < fs.length
    · obtain ⟨⟨tg, n1, ⟨k1, n2, of1⟩⟩, hx⟩ : ∃ x, fs[k]? = some x := ⟨_, List.getElem?_eq_getElem hlt⟩
      have hmem : GF.mk tg n1 (.mk k1 n2 of1) ∈ fs := List.mem_of_getElem? hx
      have tl : decide (((k : Nat) : Int) < ((fs.map GF.av).length : Nat)) = true := by rw [lf, decide_eq_true_eq]; omega
      have hm := gf_at hx
      have hft : fieldsG ((3 : Int) == 3) (fs.take (k + 1)) z (ok && nameOk nm) = fieldG ((3 : Int) == 3) ⟨tg, n1, .mk k1 n2 of1⟩ (fieldsG ((3 : Int) == 3) (fs.take k) z (ok && nameOk nm)).1 (fieldsG ((3 : Int) == 3) (fs.take k) z (ok && nameOk nm)).2 := by
        rw [List.take_add_one, hx, Option.toList_some, fields_app]
      have hle := hfl (k + 1)
      rw [hft] at hle
      have hc := sfield_ok ((3 : Int) == 3) ⟨tg, n1, .mk k1 n2 of1⟩ (hok.1 _ hmem) (hgG (fieldsG ((3 : Int) == 3) (fs.take k) z (ok && nameOk nm)).1 (fieldsG ((3 : Int) == 3) (fs.take k) z (ok && nameOk nm)).2) (hgL _ _) (by omega)
      rw [setG_twice, GF.av, GT.av, ← hft] at hc
      have hi : IntKind.i64.wrap ((k : Int) + 1) = ((k + 1 : Nat) : Int) := by rw [IntWalk.i64_in _ (by omega)]; omega
      clear hft hle
      repeat' (first | ((first | refine Sem.reg tt_ok ?_ | refine Sem.condS ?_ | refine Sem.regL tt_ok ?_ | refine Sem.skip tt_ok ?_ | refine Sem.exit tt_ok ?_ | refine Sem.ret tt_ok ?_ | refine BS_t (by assumption) ?_ | refine BS_f (by assumption) ?_ | refine (nthK_iff _ _).2 ⟨_, (by assumption), ?_⟩ | refine ⟨_, ⟨(by omega), (by assumption)⟩, ?_⟩ | refine And.intro (by first | decide | omega) ?_ | fail); conv => whnf) | refine Sem.seqS ?_ | refine Sem.block ?_ | fail)
      refine hc.on ?_; conv => whnf
      repeat' (first | ((first | refine Sem.reg tt_ok ?_ | refine Sem.condS ?_ | refine Sem.regL tt_ok ?_ | refine Sem.skip tt_ok ?_ | refine Sem.exit tt_ok ?_ | refine Sem.ret tt_ok ?_ | refine BS_t (by assumption) ?_ | refine BS_f (by assumption) ?_ | refine (nthK_iff _ _).2 ⟨_, (by assumption), ?_⟩ | refine ⟨_, ⟨(by omega), (by assumption)⟩, ?_⟩ | refine And.intro (by first | decide | omega) ?_ | fail); conv => whnf) | refine Sem.seqS ?_ | refine Sem.block ?_ | fail)
      refine ⟨⟨k + 1, by omega⟩, by show fs.length - (k + 1) < fs.length - k; omega, ?_⟩
      refine weak_by [] ?_; (conv => whnf); repeat (first | (refine And.intro rfl ?_; conv => whnf) | fail)
      refine And.intro hi ?_
      (conv => whnf); repeat (first | (refine And.intro rfl ?_; conv => whnf) | fail)
      exact ⟨fun i y hy => hy, rfl, by decide, rfl, rfl⟩
    have hk' : k = fs.length := by omega
    subst hk'
    rw [List.take_length]
    have tl : decide (((fs.length : Nat) : Int) < ((fs.map GF.av).length : Nat)) = false := by rw [lf, decide_eq_false_iff_not]; omega
    clear hfl hfm h0
    generalize fieldsG ((3 : Int) == 3) fs z (ok && nameOk nm) = q at *
    repeat' (first | ((first | refine Sem.reg tt_ok ?_ | refine Sem.condS ?_ | refine Sem.regL tt_ok ?_ | refine Sem.skip tt_ok ?_ | refine Sem.exit tt_ok ?_ | refine Sem.ret tt_ok ?_ | refine BS_t (by assumption) ?_ | refine BS_f (by assumption) ?_ | refine (nthK_iff _ _).2 ⟨_, (by assumption), ?_⟩ | refine ⟨_, ⟨(by omega), (by assumption)⟩, ?_⟩ | refine And.intro (by first | decide | omega) ?_ | fail); conv => whnf) | refine Sem.seqS ?_ | refine Sem.block ?_ | fail)
    refine Sem.loop (ι := RowN ms.length) (fun x => ⟨(.gptr pb 0 :: .top :: .top :: .lptr 0 0 :: .top :: .top :: .top :: .top :: .top :: .top :: .top :: .top :: .top :: .top :: .top :: .top :: .top :: .top :: .top :: .top :: .top :: .top :: .top :: .top :: .top :: .top :: .top :: .top :: .top :: .top :: .top :: .top :: .top :: .top :: .top :: .top :: .top :: .top :: .top :: .top :: .top :: .top :: .top :: .top :: .top :: .top :: .top :: .top :: .top :: .top :: .top :: .top :: .top :: .top :: .top :: .top :: .top :: .top :: .top :: .top :: .top :: .top :: .top :: .top :: .top :: .top :: .top :: .top :: .top :: .top :: .top :: .top :: .top :: .top :: .top :: .top :: .top :: .top :: .top :: .top :: .top :: .slc 123 (ms.map GM.av) :: .int .i64 ((ms.map GM.av).length : Nat) :: .int .i64 (x.k : Nat) :: .top :: .top :: .top :: .top :: .top :: .top :: .top :: .top :: .top :: .top :: []), [.live none [.int .i64 3, .str (S nm), .slc 83 (fs.map GF.av), .slc 123 (ms.map GM.av), .int .i64 pa], .live none wordsA], 2, 0, setG G pb (oB (methodsG (ms.take x.k) q.1 q.2).1 (methodsG (ms.take x.k) q.1 q.2).2)⟩) (fun x => ms.length - x.k) ⟨0, Nat.zero_le _⟩ ?_ (fun x => ?_)
    · refine weak_by [] ?_; (conv => whnf); repeat (first | (refine And.intro rfl ?_; conv => whnf) | fail)
      refine ⟨fun i y hy => ?_, rfl, by decide, rfl, rfl⟩
      rw [List.take_zero, methodsG] at hy
      exact hy
    obtain ⟨k, hk⟩ := x
    simp only
    have h0 : (0 : Int) ≤ ((k : Nat) : Int) := by omega
    by_cases hlt : k < ms.length
    · obtain ⟨⟨tg, n1, inn, out, ow⟩, hx⟩ : ∃ x, ms[k]? = some x := ⟨_, List.getElem?_eq_getElem hlt⟩
      have hmem : GM.mk tg n1 inn out ow ∈ ms := List.mem_of_getElem? hx
      have tl : decide (((k : Nat) : Int) < ((ms.map GM.av).length : Nat)) = true := by rw [lm, decide_eq_true_eq]; omega
      have hm := gm_at hx
      have hft : methodsG (ms.take (k + 1)) q.1 q.2 = methodG ⟨tg, n1, inn, out, ow⟩ (methodsG (ms.take k) q.1 q.2).1 (methodsG (ms.take k) q.1 q.2).2 := by
        rw [List.take_add_one, hx, Option.toList_some, methods_app]
      have hle := hml (k + 1)
      rw [hft] at hle
      have hc := smethod_ok ⟨tg, n1, inn, out, ow⟩ (hok.2 _ hmem) (hgG (methodsG (ms.take k) q.1 q.2).1 (methodsG (ms.take k) q.1 q.2).2) (hgL _ _) (by omega)
      rw [setG_twice, GM.av, ← hft] at hc
      have hi : IntKind.i64.wrap ((k : Int) + 1) = ((k + 1 : Nat) : Int) := by rw [IntWalk.i64_in _ (by omega)]; omega
      clear hft hle
      repeat' (first | ((first | refine Sem.reg tt_ok ?_ | refine Sem.condS ?_ | refine Sem.regL tt_ok ?_ | refine Sem.skip tt_ok ?_ | refine Sem.exit tt_ok ?_ | refine Sem.ret tt_ok ?_ | refine BS_t (by assumption) ?_ | refine BS_f (by assumption) ?_ | refine (nthK_iff _ _).2 ⟨_, (by assumption), ?_⟩ | refine ⟨_, ⟨(by omega), (by assumption)⟩, ?_⟩ | refine And.intro (by first | decide | omega) ?_ | fail); conv => whnf) | refine Sem.seqS ?_ | refine Sem.block ?_ | fail)
      refine hc.on ?_; conv => whnf
      repeat' (first | ((first | refine Sem.reg tt_ok ?_ | refine Sem.condS ?_ | refine Sem.regL tt_ok ?_ | refine Sem.skip tt_ok ?_ | refine Sem.exit tt_ok ?_ | refine Sem.ret tt_ok ?_ | refine BS_t (by assumption) ?_ | refine BS_f (by assumption) ?_ | refine (nthK_iff _ _).2 ⟨_, (by assumption), ?_⟩ | refine ⟨_, ⟨(by omega), (by assumption)⟩, ?_⟩ | refine And.intro (by first | decide | omega) ?_ | fail); conv => whnf) | refine Sem.seqS ?_ | refine Sem.block ?_ | fail)
      refine ⟨⟨k + 1, by omega⟩, by show ms.length - (k + 1) < ms.length - k; omega, ?_⟩
      refine weak_by [] ?_; (conv => whnf); repeat (first | (refine And.intro rfl ?_; conv => whnf) | fail)
      refine And.intro hi ?_
      (conv => whnf); repeat (first | (refine And.intro rfl ?_; conv => whnf) | fail)
      exact ⟨fun i y hy => hy, rfl, by decide, rfl, rfl⟩
    have hk' : k = ms.length := by omega
    subst hk'
    rw [List.take_length]
    have tl : decide (((ms.length : Nat) : Int) < ((ms.map GM.av).length : Nat)) = false := by rw [lm, decide_eq_false_iff_not]; omega
    clear hml hmm h0
    generalize methodsG ms q.1 q.2 = r at *
    have hput2 := hput2 r (by simpa using hl)
    repeat' (first | ((first | refine Sem.reg tt_ok ?_ | refine Sem.condS ?_ | refine Sem.regL tt_ok ?_ | refine Sem.skip tt_ok ?_ | refine Sem.exit tt_ok ?_ | refine Sem.ret tt_ok ?_ | refine BS_t (by assumption) ?_ | refine BS_f (by assumption) ?_ | refine (nthK_iff _ _).2 ⟨_, (by assumption), ?_⟩ | refine ⟨_, ⟨(by omega), (by assumption)⟩, ?_⟩ | refine And.intro (by first | decide | omega) ?_ | fail); conv => whnf) | refine Sem.seqS ?_ | refine Sem.block ?_ | fail)
    refine hput2.on ?_; conv => whnf
    repeat' (first | ((first | refine Sem.reg tt_ok ?_ | refine Sem.condS ?_ | refine Sem.regL tt_ok ?_ | refine Sem.skip tt_ok ?_ | refine Sem.exit tt_ok ?_ | refine Sem.ret tt_ok ?_ | refine BS_t (by assumption) ?_ | refine BS_f (by assumption) ?_ | refine (nthK_iff _ _).2 ⟨_, (by assumption), ?_⟩ | refine ⟨_, ⟨(by omega), (by assumption)⟩, ?_⟩ | refine And.intro (by first | decide | omega) ?_ | fail); conv => whnf) | refine Sem.seqS ?_ | refine Sem.block ?_ | fail)
    exact ⟨_, fun _ _ h => h, rfl, rfl⟩
  · have t0f := t0f rfl
    clear t0m
    refine call_sem tt_ok Tryd.func53 rfl (by kernel_rfl) Tryd.ntmps53 Tryd.results53 ?_; conv => whnf
    repeat' (first | ((first | refine Sem.reg tt_ok ?_ | refine Sem.condS ?_ | refine Sem.regL tt_ok ?_ | refine Sem.skip tt_ok ?_ | refine Sem.exit tt_ok ?_ | refine Sem.ret tt_ok ?_ | refine BS_t (by assumption) ?_ | refine BS_f (by assumption) ?_ | refine (nthK_iff _ _).2 ⟨_, (by assumption), ?_⟩ | refine ⟨_, ⟨(by omega), (by assumption)⟩, ?_⟩ | refine And.intro (by first | decide | omega) ?_ | fail); conv => whnf) | refine Sem.seqS ?_ | refine Sem.block ?_ | fail)
    refine draw_sound (eff := [8, 10]) tt_ok (by kernel_rfl) (by kernel_rfl) ?_; conv => whnf
    repeat' (first | ((first | refine BS_t (by assumption) ?_ | refine BS_f (by assumption) ?_ | refine (nthK_iff _ _).2 ⟨_, (by assumption), ?_⟩ | refine ⟨_, ⟨(by omega), (by assumption)⟩, ?_⟩ | refine And.intro (by first | decide | omega) ?_ | fail); conv => whnf) | fail)
    refine ⟨_, _, hnm, ?_⟩; conv => whnf
    repeat' (first | ((first | refine BS_t (by assumption) ?_ | refine BS_f (by assumption) ?_ | refine (nthK_iff _ _).2 ⟨_, (by assumption), ?_⟩ | refine ⟨_, ⟨(by omega), (by assumption)⟩, ?_⟩ | refine And.intro (by first | decide | omega) ?_ | fail); conv => whnf) | fail)
    repeat' (first | (refine And.intro (by conv => whnf) ?_; conv => whnf) | fail)
    repeat' (first | ((first | refine BS_t (by assumption) ?_ | refine BS_f (by assumption) ?_ | refine (nthK_iff _ _).2 ⟨_, (by assumption), ?_⟩ | refine ⟨_, ⟨(by omega), (by assumption)⟩, ?_⟩ | refine And.intro (by first | decide | omega) ?_ | fail); conv => whnf) | fail)
    refine ⟨_, _, hput, ?_⟩; conv => whnf
    repeat' (first | ((first | refine BS_t (by assumption) ?_ | refine BS_f (by assumption) ?_ | refine (nthK_iff _ _).2 ⟨_, (by assumption), ?_⟩ | refine ⟨_, ⟨(by omega), (by assumption)⟩, ?_⟩ | refine And.intro (by first | decide | omega) ?_ | fail); conv => whnf) | fail)
    repeat' (first | (refine And.intro (by conv => whnf) ?_; conv => whnf) | fail)
    repeat' (first | ((first | refine BS_t (by assumption) ?_ | refine BS_f (by assumption) ?_ | refine (nthK_iff _ _).2 ⟨_, (by assumption), ?_⟩ | refine ⟨_, ⟨(by omega), (by assumption)⟩, ?_⟩ | refine And.intro (by first | decide | omega) ?_ | fail); conv => whnf) | fail)
    repeat' (first | ((first | refine Sem.reg tt_ok ?_ | refine Sem.condS ?_ | refine Sem.regL tt_ok ?_ | refine Sem.skip tt_ok ?_ | refine Sem.exit tt_ok ?_ | refine Sem.ret tt_ok ?_ | refine BS_t (by assumption) ?_ | refine BS_f (by assumption) ?_ | refine (nthK_iff _ _).2 ⟨_, (by assumption), ?_⟩ | refine ⟨_, ⟨(by omega), (by assumption)⟩, ?_⟩ | refine And.intro (by first | decide | omega) ?_ | fail); conv => whnf) | refine Sem.seqS ?_ | refine Sem.block ?_ | fail)
    refine Sem.loop (ι := RowN fs.length) (fun x => ⟨(.gptr pb 0 :: .top :: .top :: .lptr 0 0 :: .top :: .top :: .top :: .top :: .top :: .top :: .top :: .top :: .top :: .top :: .top :: .top :: .top :: .top :: .top :: .top :: .top :: .top :: .top :: .top :: .top :: .top :: .top :: .top :: .top :: .top :: .top :: .top :: .top :: .top :: .top :: .top :: .top :: .top :: .top :: .top :: .top :: .top :: .top :: .top :: .top :: .top :: .top :: .top :: .top :: .top :: .top :: .top :: .top :: .top :: .top :: .top :: .top :: .top :: .top :: .top :: .top :: .top :: .top :: .top :: .top :: .top :: .top :: .slc 83 (fs.map GF.av) :: .int .i64 ((fs.map GF.av).length : Nat) :: .int .i64 (x.k : Nat) :: .top :: .top :: .top :: .top :: .top :: .top :: .top :: .top :: .top :: .top :: .top :: .top :: .top :: .top :: .top :: .top :: .top :: .top :: .top :: .top :: .top :: .top :: .top :: .top :: []), [.live none [.int .i64 4, .str (S nm), .slc 83 (fs.map GF.av), .slc 123 (ms.map GM.av), .int .i64 pa], .live none wordsA], 2, 0, setG G pb (oB (fieldsG ((4 : Int) == 3) (fs.take x.k) z (ok && nameOk nm)).1 (fieldsG ((4 : Int) == 3) (fs.take x.k) z (ok && nameOk nm)).2)⟩) (fun x => fs.length - x.k) ⟨0, Nat.zero_le _⟩ ?_ (fun x => ?_)
    · refine weak_by [] ?_; (conv => whnf); repeat (first | (refine And.intro rfl ?_; conv => whnf) | fail)
      refine ⟨fun i y hy => ?_, rfl, by decide, rfl, rfl⟩
      rw [List.take_zero, fieldsG] at hy
      exact hy
    obtain ⟨k, hk⟩ := x
    simp only
    have h0 : (0 : Int) ≤ ((k : Nat) : Int) := by omega
    by_cases hlt : k < fs.length
    · obtain ⟨⟨tg, n1, ⟨k1, n2, of1⟩⟩, hx⟩ : ∃ x, fs[k]? = some x := ⟨_, List.getElem?_eq_getElem hlt⟩
      have hmem : GF.mk tg n1 (.mk k1 n2 of1) ∈ fs := List.mem_of_getElem? hx
      have tl : decide (((k : Nat) : Int) < ((fs.map GF.av).length : Nat)) = true := by rw [lf, decide_eq_true_eq]; omega
      have hm := gf_at hx
      have hft : fieldsG ((4 : Int) == 3) (fs.take (k + 1)) z (ok && nameOk nm) = fieldG ((4 : Int) == 3) ⟨tg, n1, .mk k1 n2 of1⟩ (fieldsG ((4 : Int) == 3) (fs.take k) z (ok && nameOk nm)).1 (fieldsG ((4 : Int) == 3) (fs.take k) z (ok && nameOk nm)).2 := by
        rw [List.take_add_one, hx, Option.toList_some, fields_app]
      have hle := hfl (k + 1)
      rw [hft] at hle
      have hc := sfield_ok ((4 : Int) == 3) ⟨tg, n1, .mk k1 n2 of1⟩ (hok.1 _ hmem) (hgG (fieldsG ((4 : Int) == 3) (fs.take k) z (ok && nameOk nm)).1 (fieldsG ((4 : Int) == 3) (fs.take k) z (ok && nameOk nm)).2) (hgL _ _) (by omega)
      rw [setG_twice, GF.av, GT.av, ← hft] at hc
      have hi : IntKind.i64.wrap ((k : Int) + 1) = ((k + 1 : Nat) : Int) := by rw [IntWalk.i64_in _ (by omega)]; omega
      clear hft hle
      repeat' (first | ((first | refine Sem.reg tt_ok ?_ | refine Sem.condS ?_ | refine Sem.regL tt_ok ?_ | refine Sem.skip tt_ok ?_ | refine Sem.exit tt_ok ?_ | refine Sem.ret tt_ok ?_ | refine BS_t (by assumption) ?_ | refine BS_f (by assumption) ?_ | refine (nthK_iff _ _).2 ⟨_, (by assumption), ?_⟩ | refine ⟨_, ⟨(by omega), (by assumption)⟩, ?_⟩ | refine And.intro (by first | decide | omega) ?_ | fail); conv => whnf) | refine Sem.seqS ?_ | refine Sem.block ?_ | fail)
      refine hc.on ?_; conv => whnf
      repeat' (first | ((first | refine Sem.reg tt_ok ?_ | refine Sem.condS ?_ | refine Sem.regL tt_ok ?_ | refine Sem.skip tt_ok ?_ | refine Sem.exit tt_ok ?_ | refine Sem.ret tt_ok ?_ | refine BS_t (by assumption) ?_ | refine BS_f (by assumption) ?_ | refine (nthK_iff _ _).2 ⟨_, (by assumption), ?_⟩ | refine ⟨_, ⟨(by omega), (by assumption)⟩, ?_⟩ | refine And.intro (by first | decide | omega) ?_ | fail); conv => whnf) | refine Sem.seqS ?_ | refine Sem.block ?_ | fail)
      refine ⟨⟨k + 1, by omega⟩, by show fs.length - (k + 1) < fs.length - k; omega, ?_⟩
      refine weak_by [] ?_; (conv => whnf); repeat (first | (refine And.intro rfl ?_; conv => whnf) | fail)
      refine And.intro hi ?_
      (conv => whnf); repeat (first | (refine And.intro rfl ?_; conv => whnf) | fail)
      exact ⟨fun i y hy => hy, rfl, by decide, rfl, rfl⟩
    have hk' : k = fs.length := by omega
    subst hk'
    rw [List.take_length]
    have tl : decide (((fs.length : Nat) : Int) < ((fs.map GF.av).length : Nat)) = false := by rw [lf, decide_eq_false_iff_not]; omega
    clear hfl hfm h0
    generalize fieldsG ((4 : Int) == 3) fs z (ok && nameOk nm) = q at *
    repeat' (first | ((first | refine Sem.reg tt_ok ?_ | refine Sem.condS ?_ | refine Sem.regL tt_ok ?_ | refine Sem.skip tt_ok ?_ | refine Sem.exit tt_ok ?_ | refine Sem.ret tt_ok ?_ | refine BS_t (by assumption) ?_ | refine BS_f (by assumption) ?_ | refine (nthK_iff _ _).2 ⟨_, (by assumption), ?_⟩ | refine ⟨_, ⟨(by omega), (by assumption)⟩, ?_⟩ | refine And.intro (by first | decide | omega) ?_ | fail); conv => whnf) | refine Sem.seqS ?_ | refine Sem.block ?_ | fail)
    refine Sem.loop (ι := RowN ms.length) (fun x => ⟨(.gptr pb 0 :: .top :: .top :: .lptr 0 0 :: .top :: .top :: .top :: .top :: .top :: .top :: .top :: .top :: .top :: .top :: .top :: .top :: .top :: .top :: .top :: .top :: .top :: .top :: .top :: .top :: .top :: .top :: .top :: .top :: .top :: .top :: .top :: .top :: .top :: .top :: .top :: .top :: .top :: .top :: .top :: .top :: .top :: .top :: .top :: .top :: .top :: .top :: .top :: .top :: .top :: .top :: .top :: .top :: .top :: .top :: .top :: .top :: .top :: .top :: .top :: .top :: .top :: .top :: .top :: .top :: .top :: .top :: .top :: .top :: .top :: .top :: .top :: .top :: .top :: .top :: .top :: .top :: .top :: .top :: .top :: .top :: .top :: .slc 123 (ms.map GM.av) :: .int .i64 ((ms.map GM.av).length : Nat) :: .int .i64 (x.k : Nat) :: .top :: .top :: .top :: .top :: .top :: .top :: .top :: .top :: .top :: .top :: []), [.live none [.int .i64 4, .str (S nm), .slc 83 (fs.map GF.av), .slc 123 (ms.map GM.av), .int .i64 pa], .live none wordsA], 2, 0, setG G pb (oB (methodsG (ms.take x.k) q.1 q.2).1 (methodsG (ms.take x.k) q.1 q.2).2)⟩) (fun x => ms.length - x.k) ⟨0, Nat.zero_le _⟩ ?_ (fun x => ?_)
    · refine weak_by [] ?_; (conv => whnf); repeat (first | (refine And.intro rfl ?_; conv => whnf) | fail)
      refine ⟨fun i y hy => ?_, rfl, by decide, rfl, rfl⟩
      rw [List.take_zero, methodsG] at hy
      exact hy
    obtain ⟨k, hk⟩ := x
    simp only
    have h0 : (0 : Int) ≤ ((k : Nat) : Int) := by omega
    by_cases hlt : k < ms.length
    · obtain ⟨⟨tg, n1, inn, out, ow⟩, hx⟩ : ∃ x, ms[k]? = some x := ⟨_, List.getElem?_eq_getElem hlt⟩
      have hmem : GM.mk tg n1 inn out ow ∈ ms := List.mem_of_getElem? hx
      have tl : decide (((k : Nat) : Int) < ((ms.map GM.av).length : Nat)) = true := by rw [lm, decide_eq_true_eq]; omega
      have hm := gm_at hx
      have hft : methodsG (ms.take (k + 1)) q.1 q.2 = methodG ⟨tg, n1, inn, out, ow⟩ (methodsG (ms.take k) q.1 q.2).1 (methodsG (ms.take k) q.1 q.2).2 := by
        rw [List.take_add_one, hx, Option.toList_some, methods_app]
      have hle := hml (k + 1)
      rw [hft] at hle
      have hc := smethod_ok ⟨tg, n1, inn, out, ow⟩ (hok.2 _ hmem) (hgG (methodsG (ms.take k) q.1 q.2).1 (methodsG (ms.take k) q.1 q.2).2) (hgL _ _) (by omega)
      rw [setG_twice, GM.av, ← hft] at hc
      have hi : IntKind.i64.wrap ((k : Int) + 1) = ((k + 1 : Nat) : Int) := by rw [IntWalk.i64_in _ (by omega)]; omega
      clear hft hle
      repeat' (first | ((first | refine Sem.reg tt_ok ?_ | refine Sem.condS ?_ | refine Sem.regL tt_ok ?_ | refine Sem.skip tt_ok ?_ | refine Sem.exit tt_ok ?_ | refine Sem.ret tt_ok ?_ | refine BS_t (by assumption) ?_ | refine BS_f (by assumption) ?_ | refine (nthK_iff _ _).2 ⟨_, (by assumption), ?_⟩ | refine ⟨_, ⟨(by omega), (by assumption)⟩, ?_⟩ | refine And.intro (by first | decide | omega) ?_ | fail); conv => whnf) | refine Sem.seqS ?_ | refine Sem.block ?_ | fail)
      refine hc.on ?_; conv => whnf
      repeat' (first | ((first | refine Sem.reg tt_ok ?_ | refine Sem.condS ?_ | refine Sem.regL tt_ok ?_ | refine Sem.skip tt_ok ?_ | refine Sem.exit tt_ok ?_ | refine Sem.ret tt_ok ?_ | refine BS_t (by assumption) ?_ | refine BS_f (by assumption) ?_ | refine (nthK_iff _ _).2 ⟨_, (by assumption), ?_⟩ | refine ⟨_, ⟨(by omega), (by assumption)⟩, ?_⟩ | refine And.intro (by first | decide | omega) ?_ | fail); conv => whnf) | refine Sem.seqS ?_ | refine Sem.block ?_ | fail)
      refine ⟨⟨k + 1, by omega⟩, by show ms.length - (k + 1) < ms.length - k; omega, ?_⟩
      refine weak_by [] ?_; (conv => whnf); repeat (first | (refine And.intro rfl ?_; conv => whnf) | fail)
      refine And.intro hi ?_
      (conv => whnf); repeat (first | (refine And.intro rfl ?_; conv => whnf) | fail)
      exact ⟨fun i y hy => hy, rfl, by decide, rfl, rfl⟩
    have hk' : k = ms.length := by omega
    subst hk'
    rw [List.take_length]
    have tl : decide (((ms.length : Nat) : Int) < ((ms.map GM.av).length : Nat)) = false := by rw [lm, decide_eq_false_iff_not]; omega
    clear hml hmm h0
    generalize methodsG ms q.1 q.2 = r at *
    have hput2 := hput2 r (by simpa using hl)
    repeat' (first | ((first | refine Sem.reg tt_ok ?_ | refine Sem.condS ?_ | refine Sem.regL tt_ok ?_ | refine Sem.skip tt_ok ?_ | refine Sem.exit tt_ok ?_ | refine Sem.ret tt_ok ?_ | refine BS_t (by assumption) ?_ | refine BS_f (by assumption) ?_ | refine (nthK_iff _ _).2 ⟨_, (by assumption), ?_⟩ | refine ⟨_, ⟨(by omega), (by assumption)⟩, ?_⟩ | refine And.intro (by first | decide | omega) ?_ | fail); conv => whnf) | refine Sem.seqS ?_ | refine Sem.block ?_ | fail)
    refine hput2.on ?_; conv => whnf
    repeat' (first | ((first | refine Sem.reg tt_ok ?_ | refine Sem.condS ?_ | refine Sem.regL tt_ok ?_ | refine Sem.skip tt_ok ?_ | refine Sem.exit tt_ok ?_ | refine Sem.ret tt_ok ?_ | refine BS_t (by assumption) ?_ | refine BS_f (by assumption) ?_ | refine (nthK_iff _ _).2 ⟨_, (by assumption), ?_⟩ | refine ⟨_, ⟨(by omega), (by assumption)⟩, ?_⟩ | refine And.intro (by first | decide | omega) ?_ | fail); conv => whnf) | refine Sem.seqS ?_ | refine Sem.block ?_ | fail)
    exact ⟨_, fun _ _ h => h, rfl, rfl⟩
end Go.Proofs.YtofhakbmmgpgdaaDoor
end

section
/- show.decl where it may not be told, show.Text, in the abstract run. -/
set_option maxRecDepth 100000
set_option linter.unusedSimpArgs false
namespace Go.Proofs.YtofhakbmmgpgdaaDoor
open Go Go.RowKit Go.Proofs Go.Shelf

theorem sdecl_bad (kd : Int) (nm : List UInt8) (fs : List GF) (ms : List GM) (pa : Int) (hb : badD kd fs.length ms.length = true) {s : List UInt8} {ok : Bool} {pb : Nat} {G : Glob} (hG : G pb = some (oB s ok)) :
    CallOk Tryd.prog TT 53 [.gptr pb 0, .agg [.int .i64 kd, .str (S nm), .slc 83 (fs.map GF.av), .slc 123 (ms.map GM.av), .int .i64 pa]] G (fun v G' => v = .tup [] ∧ G' = setG G pb (oB s false)) := by
  have lf : (fs.map GF.av).length = fs.length := by simp
  have lm : (ms.map GM.av).length = ms.length := by simp
  have c3 : decide ((((fs.map GF.av).length : Nat) : Int) > 16) = decide (16 < fs.length) := by rw [lf, Bool.eq_iff_iff]; simp; omega
  have c4 : decide ((((ms.map GM.av).length : Nat) : Int) > 16) = decide (16 < ms.length) := by rw [lm, Bool.eq_iff_iff]; simp; omega
  have c5 : (kd == 4) = decide (kd = 4) := by rw [Bool.eq_iff_iff]; simp
  have c6 : decide ((((fs.map GF.av).length : Nat) : Int) > 0) = decide (0 < fs.length) := by rw [lf, Bool.eq_iff_iff, decide_eq_true_eq, decide_eq_true_eq]; omega
  have c7 : decide ((((ms.map GM.av).length : Nat) : Int) > 0) = decide (0 < ms.length) := by rw [lm, Bool.eq_iff_iff, decide_eq_true_eq, decide_eq_true_eq]; omega
  have c8 : (!(kd == 4)) = !decide (kd = 4) := by rw [c5]
  unfold badD at hb
  unfold oB
  rw [oB_at] at hG
  clear lf lm
  generalize decide (16 < fs.length) = x3 at *
  generalize decide (16 < ms.length) = x4 at *
  generalize decide (0 < fs.length) = x6 at *
  generalize decide (0 < ms.length) = x7 at *
  generalize fs.map GF.av = fa at *
  generalize ms.map GM.av = ma at *
  by_cases d1 : kd < 1
  · have c1 : decide (kd < 1) = true := decide_eq_true d1
    refine call_sem tt_ok Tryd.func53 rfl (by kernel_rfl) Tryd.ntmps53 Tryd.results53 ?_; conv => whnf
    repeat' (first | ((first | refine Sem.reg tt_ok ?_ | refine Sem.condS ?_ | refine Sem.regL tt_ok ?_ | refine Sem.skip tt_ok ?_ | refine Sem.exit tt_ok ?_ | refine Sem.ret tt_ok ?_ | refine BS_t (by assumption) ?_ | refine BS_f (by assumption) ?_ | refine atG (by first | assumption | exact setG_same _ _ _) ?_ | refine (nthK_iff _ _).2 ⟨_, (by assumption), ?_⟩ | refine ⟨_, ⟨(by omega), (by assumption)⟩, ?_⟩ | refine And.intro (by first | decide | omega) ?_ | fail); conv => whnf) | refine Sem.seqS ?_ | refine Sem.block ?_ | fail)
    exact ⟨_, fun _ _ h => h, rfl, rfl⟩
  have c1 : decide (kd < 1) = false := decide_eq_false d1
  by_cases d2 : 4 < kd
  · have c2 : decide (kd > 4) = true := decide_eq_true d2
    refine call_sem tt_ok Tryd.func53 rfl (by kernel_rfl) Tryd.ntmps53 Tryd.results53 ?_; conv => whnf
    repeat' (first | ((first | refine Sem.reg tt_ok ?_ | refine Sem.condS ?_ | refine Sem.regL tt_ok ?_ | refine Sem.skip tt_ok ?_ | refine Sem.exit tt_ok ?_ | refine Sem.ret tt_ok ?_ | refine BS_t (by assumption) ?_ | refine BS_f (by assumption) ?_ | refine atG (by first | assumption | exact setG_same _ _ _) ?_ | refine (nthK_iff _ _).2 ⟨_, (by assumption), ?_⟩ | refine ⟨_, ⟨(by omega), (by assumption)⟩, ?_⟩ | refine And.intro (by first | decide | omega) ?_ | fail); conv => whnf) | refine Sem.seqS ?_ | refine Sem.block ?_ | fail)
    exact ⟨_, fun _ _ h => h, rfl, rfl⟩
  have c2 : decide (kd > 4) = false := decide_eq_false d2
  cases x3 with
  | true =>
    refine call_sem tt_ok Tryd.func53 rfl (by kernel_rfl) Tryd.ntmps53 Tryd.results53 ?_; conv => whnf
    repeat' (first | ((first | refine Sem.reg tt_ok ?_ | refine Sem.condS ?_ | refine Sem.regL tt_ok ?_ | refine Sem.skip tt_ok ?_ | refine Sem.exit tt_ok ?_ | refine Sem.ret tt_ok ?_ | refine BS_t (by assumption) ?_ | refine BS_f (by assumption) ?_ | refine atG (by first | assumption | exact setG_same _ _ _) ?_ | refine (nthK_iff _ _).2 ⟨_, (by assumption), ?_⟩ | refine ⟨_, ⟨(by omega), (by assumption)⟩, ?_⟩ | refine And.intro (by first | decide | omega) ?_ | fail); conv => whnf) | refine Sem.seqS ?_ | refine Sem.block ?_ | fail)
    exact ⟨_, fun _ _ h => h, rfl, rfl⟩
  | false =>
  cases x4 with
  | true =>
    refine call_sem tt_ok Tryd.func53 rfl (by kernel_rfl) Tryd.ntmps53 Tryd.results53 ?_; conv => whnf
    repeat' (first | ((first | refine Sem.reg tt_ok ?_ | refine Sem.condS ?_ | refine Sem.regL tt_ok ?_ | refine Sem.skip tt_ok ?_ | refine Sem.exit tt_ok ?_ | refine Sem.ret tt_ok ?_ | refine BS_t (by assumption) ?_ | refine BS_f (by assumption) ?_ | refine atG (by first | assumption | exact setG_same _ _ _) ?_ | refine (nthK_iff _ _).2 ⟨_, (by assumption), ?_⟩ | refine ⟨_, ⟨(by omega), (by assumption)⟩, ?_⟩ | refine And.intro (by first | decide | omega) ?_ | fail); conv => whnf) | refine Sem.seqS ?_ | refine Sem.block ?_ | fail)
    exact ⟨_, fun _ _ h => h, rfl, rfl⟩
  | false =>
  by_cases d5 : kd = 4
  · rw [decide_eq_true d5] at c5 c8
    have h6 : x6 = true := by rw [decide_eq_false d1, decide_eq_false d2, decide_eq_true d5] at hb; simpa using hb
    rw [h6] at c6
    simp only [Bool.not_true] at c8
    refine call_sem tt_ok Tryd.func53 rfl (by kernel_rfl) Tryd.ntmps53 Tryd.results53 ?_; conv => whnf
    repeat' (first | ((first | refine Sem.reg tt_ok ?_ | refine Sem.condS ?_ | refine Sem.regL tt_ok ?_ | refine Sem.skip tt_ok ?_ | refine Sem.exit tt_ok ?_ | refine Sem.ret tt_ok ?_ | refine BS_t (by assumption) ?_ | refine BS_f (by assumption) ?_ | refine atG (by first | assumption | exact setG_same _ _ _) ?_ | refine (nthK_iff _ _).2 ⟨_, (by assumption), ?_⟩ | refine ⟨_, ⟨(by omega), (by assumption)⟩, ?_⟩ | refine And.intro (by first | decide | omega) ?_ | fail); conv => whnf) | refine Sem.seqS ?_ | refine Sem.block ?_ | fail)
    exact ⟨_, fun _ _ h => h, rfl, rfl⟩
  · rw [decide_eq_false d5] at c5 c8
    have h7 : x7 = true := by rw [decide_eq_false d1, decide_eq_false d2, decide_eq_false d5] at hb; simpa using hb
    rw [h7] at c7
    simp only [Bool.not_false] at c8
    refine call_sem tt_ok Tryd.func53 rfl (by kernel_rfl) Tryd.ntmps53 Tryd.results53 ?_; conv => whnf
    repeat' (first | ((first | refine Sem.reg tt_ok ?_ | refine Sem.condS ?_ | refine Sem.regL tt_ok ?_ | refine Sem.skip tt_ok ?_ | refine Sem.exit tt_ok ?_ | refine Sem.ret tt_ok ?_ | refine BS_t (by assumption) ?_ | refine BS_f (by assumption) ?_ | refine atG (by first | assumption | exact setG_same _ _ _) ?_ | refine (nthK_iff _ _).2 ⟨_, (by assumption), ?_⟩ | refine ⟨_, ⟨(by omega), (by assumption)⟩, ?_⟩ | refine And.intro (by first | decide | omega) ?_ | fail); conv => whnf) | refine Sem.seqS ?_ | refine Sem.block ?_ | fail)
    exact ⟨_, fun _ _ h => h, rfl, rfl⟩
theorem sdecl_ok (d : GD) (hok : d.ok) {s : List UInt8} {ok : Bool} {pb : Nat} {G : Glob} (hG : G pb = some (oB s ok)) (hL : LibOk G) (hl : (declG d s ok).1.length ≤ 140737488355328) :
    CallOk Tryd.prog TT 53 [.gptr pb 0, .agg d.av] G (fun v G' => v = .tup [] ∧ G' = setG G pb (oB (declG d s ok).1 (declG d s ok).2)) := by
  obtain ⟨kd, nm, fs, ms, pa⟩ := d
  cases hb : badD kd fs.length ms.length with
  | true =>
    have h := sdecl_bad kd nm fs ms pa hb hG
    have e : declG ⟨kd, nm, fs, ms, pa⟩ s ok = (s, false) := by unfold declG; rw [if_pos hb]
    rw [e]
    exact h
  | false => exact sdecl_good kd nm fs ms pa hok hb hG hL hl
theorem gd_at {l : List GD} {i : Nat} {kd : Int} {nm : List UInt8} {fs : List GF} {ms : List GM} {pa : Int} (h : l[i]? = some ⟨kd, nm, fs, ms, pa⟩) : (l.map GD.av)[((i : Nat) : Int).toNat]? = some [.int .i64 kd, .str (S nm), .slc 83 (fs.map GF.av), .slc 123 (ms.map GM.av), .int .i64 pa] := by
  rw [Int.toNat_natCast, List.getElem?_map, h, Option.map_some, GD.av]
def textV (r : List UInt8 × Nat) : AV := .tup [.str (S r.1), .int .i64 (r.2 : Nat)]
theorem LibOk.new {G : Glob} (h : LibOk G) {b : Nat} (hb : G b = none) (y : GB) : LibOk (setG G b y) := ⟨h.1.new hb y, h.2.new hb y⟩
theorem stext_ok (l : List GD) (hok : ∀ d ∈ l, d.ok) {G : Glob} (hL : LibOk G) (hl : 16 < l.length ∨ (declsG l [] true).1.length ≤ 140737488355328) :
    CallOk Tryd.prog TT 26 [.slc 77 (l.map GD.av)] G (fun v G' => v = textV (textG l) ∧ G' = G) := by
  have ll : (l.map GD.av).length = l.length := by simp
  unfold textG textV
  by_cases h16 : 16 < l.length
  · have c1 : decide ((((l.map GD.av).length : Nat) : Int) > 16) = true := by rw [ll, decide_eq_true_eq]; omega
    rw [if_pos h16]
    refine call_sem tt_ok Tryd.func26 rfl (by kernel_rfl) Tryd.ntmps26 Tryd.results26 ?_; conv => whnf
    repeat' (first | ((first | refine Sem.reg tt_ok ?_ | refine Sem.condS ?_ | refine Sem.regL tt_ok ?_ | refine Sem.skip tt_ok ?_ | refine Sem.exit tt_ok ?_ | refine Sem.ret tt_ok ?_ | refine BS_t (by assumption) ?_ | refine BS_f (by assumption) ?_ | refine atG (by first | assumption | exact setG_same _ _ _) ?_ | refine (nthK_iff _ _).2 ⟨_, (by assumption), ?_⟩ | refine ⟨_, ⟨(by omega), (by assumption)⟩, ?_⟩ | refine And.intro (by first | decide | omega) ?_ | fail); conv => whnf) | refine Sem.seqS ?_ | refine Sem.block ?_ | fail)
    exact ⟨_, fun _ _ h => h, rfl, rfl⟩
  have c1 : decide ((((l.map GD.av).length : Nat) : Int) > 16) = false := by rw [ll, decide_eq_false_iff_not]; omega
  rw [if_neg h16]
  have hl : (declsG l [] true).1.length ≤ 140737488355328 := by rcases hl with h | h; exact absurd h h16; exact h
  have hdl := declsG_le l [] true
  refine call_sem tt_ok Tryd.func26 rfl (by kernel_rfl) Tryd.ntmps26 Tryd.results26 ?_; conv => whnf
  repeat' (first | ((first | refine Sem.reg tt_ok ?_ | refine Sem.condS ?_ | refine Sem.regL tt_ok ?_ | refine Sem.skip tt_ok ?_ | refine Sem.exit tt_ok ?_ | refine Sem.ret tt_ok ?_ | refine BS_t (by assumption) ?_ | refine BS_f (by assumption) ?_ | refine atG (by first | assumption | exact setG_same _ _ _) ?_ | refine (nthK_iff _ _).2 ⟨_, (by assumption), ?_⟩ | refine ⟨_, ⟨(by omega), (by assumption)⟩, ?_⟩ | refine And.intro (by first | decide | omega) ?_ | fail); conv => whnf) | refine Sem.seqS ?_ | refine Sem.block ?_ | fail)
  intro pb hpb
  conv => whnf
  have hgG : ∀ x y, setG G pb (oB x y) pb = some (oB x y) := fun x y => setG_same _ _ _
  have hgL : ∀ x y, LibOk (setG G pb (oB x y)) := fun x y => hL.new hpb _
  have sub : ∀ x i y, G i = some y → setG G pb x i = some y := fun x i y hi => by rw [setG_ne _ _ (fun e => by rw [e, hpb] at hi; cases hi)]; exact hi
  repeat' (first | ((first | refine Sem.reg tt_ok ?_ | refine Sem.condS ?_ | refine Sem.regL tt_ok ?_ | refine Sem.skip tt_ok ?_ | refine Sem.exit tt_ok ?_ | refine Sem.ret tt_ok ?_ | refine BS_t (by assumption) ?_ | refine BS_f (by assumption) ?_ | refine atG (by first | assumption | exact setG_same _ _ _) ?_ | refine (nthK_iff _ _).2 ⟨_, (by assumption), ?_⟩ | refine ⟨_, ⟨(by omega), (by assumption)⟩, ?_⟩ | refine And.intro (by first | decide | omega) ?_ | fail); conv => whnf) | refine Sem.seqS ?_ | refine Sem.block ?_ | fail)
  refine Sem.loop (ι := RowN l.length) (fun x => ⟨(.top :: .top :: .top :: .top :: .gptr pb 0 :: .top :: .top :: .top :: .top :: .top :: .top :: .top :: .slc 77 (l.map GD.av) :: .int .i64 ((l.map GD.av).length : Nat) :: .int .i64 (x.k : Nat) :: .top :: .top :: .top :: .top :: .top :: .top :: .top :: .top :: .top :: .top :: .top :: []), [], 0, 0, setG G pb (oB (declsG (l.take x.k) [] true).1 (declsG (l.take x.k) [] true).2)⟩) (fun x => l.length - x.k) ⟨0, Nat.zero_le _⟩ ?_ (fun x => ?_)
  · refine weak_by [] ?_; (conv => whnf); repeat (first | (refine And.intro rfl ?_; conv => whnf) | fail)
    refine ⟨fun i y hy => ?_, rfl, by decide, rfl, rfl⟩
    rw [List.take_zero, declsG] at hy
    exact hy
  obtain ⟨k, hk⟩ := x
  simp only
  have h0 : (0 : Int) ≤ ((k : Nat) : Int) := by omega
  by_cases hlt : k < l.length
  · obtain ⟨⟨kd, nm, fs, ms, pa⟩, hx⟩ : ∃ x, l[k]? = some x := ⟨_, List.getElem?_eq_getElem hlt⟩
    have hmem : GD.mk kd nm fs ms pa ∈ l := List.mem_of_getElem? hx
    have tl : decide (((k : Nat) : Int) < ((l.map GD.av).length : Nat)) = true := by rw [ll, decide_eq_true_eq]; omega
    have hm := gd_at hx
    have hft : declsG (l.take (k + 1)) [] true = declG ⟨kd, nm, fs, ms, pa⟩ (declsG (l.take k) [] true).1 (declsG (l.take k) [] true).2 := by
      rw [List.take_add_one, hx, Option.toList_some, declsG_app]
    have hle := hdl (k + 1)
    rw [hft] at hle
    have hc := sdecl_ok ⟨kd, nm, fs, ms, pa⟩ (hok _ hmem) (hgG (declsG (l.take k) [] true).1 (declsG (l.take k) [] true).2) (hgL _ _) (by omega)
    rw [setG_twice, GD.av, ← hft] at hc
    have hi : IntKind.i64.wrap ((k : Int) + 1) = ((k + 1 : Nat) : Int) := by rw [IntWalk.i64_in _ (by omega)]; omega
    clear hft hle
    repeat' (first | ((first | refine Sem.reg tt_ok ?_ | refine Sem.condS ?_ | refine Sem.regL tt_ok ?_ | refine Sem.skip tt_ok ?_ | refine Sem.exit tt_ok ?_ | refine Sem.ret tt_ok ?_ | refine BS_t (by assumption) ?_ | refine BS_f (by assumption) ?_ | refine atG (by first | assumption | exact setG_same _ _ _) ?_ | refine (nthK_iff _ _).2 ⟨_, (by assumption), ?_⟩ | refine ⟨_, ⟨(by omega), (by assumption)⟩, ?_⟩ | refine And.intro (by first | decide | omega) ?_ | fail); conv => whnf) | refine Sem.seqS ?_ | refine Sem.block ?_ | fail)
    refine hc.on ?_; conv => whnf
    repeat' (first | ((first | refine Sem.reg tt_ok ?_ | refine Sem.condS ?_ | refine Sem.regL tt_ok ?_ | refine Sem.skip tt_ok ?_ | refine Sem.exit tt_ok ?_ | refine Sem.ret tt_ok ?_ | refine BS_t (by assumption) ?_ | refine BS_f (by assumption) ?_ | refine atG (by first | assumption | exact setG_same _ _ _) ?_ | refine (nthK_iff _ _).2 ⟨_, (by assumption), ?_⟩ | refine ⟨_, ⟨(by omega), (by assumption)⟩, ?_⟩ | refine And.intro (by first | decide | omega) ?_ | fail); conv => whnf) | refine Sem.seqS ?_ | refine Sem.block ?_ | fail)
    refine ⟨⟨k + 1, by omega⟩, by show l.length - (k + 1) < l.length - k; omega, ?_⟩
    refine weak_by [] ?_; (conv => whnf); repeat (first | (refine And.intro rfl ?_; conv => whnf) | fail)
    refine And.intro hi ?_
    (conv => whnf); repeat (first | (refine And.intro rfl ?_; conv => whnf) | fail)
    exact ⟨fun i y hy => hy, rfl, by decide, rfl, rfl⟩
  have hk' : k = l.length := by omega
  subst hk'
  rw [List.take_length]
  have tl : decide (((l.length : Nat) : Int) < ((l.map GD.av).length : Nat)) = false := by rw [ll, decide_eq_false_iff_not]; omega
  have hdone := sdone_ok (hgG (declsG l [] true).1 (declsG l [] true).2)
  generalize declsG l [] true = q at *
  obtain ⟨q1, q2⟩ := q
  have hdel : ∀ i y, G i = some y → delG (setG G pb (oB q1 q2)) pb i = some y := fun i y hi => by
    have hne : i ≠ pb := fun e => by rw [e, hpb] at hi; cases hi
    rw [delG_ne _ hne, setG_ne _ _ hne]; exact hi
  cases q2 with
  | true =>
    rw [if_pos rfl, if_pos rfl, if_pos rfl] at hdone
    rw [if_pos rfl]
    repeat' (first | ((first | refine Sem.reg tt_ok ?_ | refine Sem.condS ?_ | refine Sem.regL tt_ok ?_ | refine Sem.skip tt_ok ?_ | refine Sem.exit tt_ok ?_ | refine Sem.ret tt_ok ?_ | refine BS_t (by assumption) ?_ | refine BS_f (by assumption) ?_ | refine atG (by first | assumption | exact setG_same _ _ _) ?_ | refine (nthK_iff _ _).2 ⟨_, (by assumption), ?_⟩ | refine ⟨_, ⟨(by omega), (by assumption)⟩, ?_⟩ | refine And.intro (by first | decide | omega) ?_ | fail); conv => whnf) | refine Sem.seqS ?_ | refine Sem.block ?_ | fail)
    refine hdone.on ?_; conv => whnf
    repeat' (first | ((first | refine Sem.reg tt_ok ?_ | refine Sem.condS ?_ | refine Sem.regL tt_ok ?_ | refine Sem.skip tt_ok ?_ | refine Sem.exit tt_ok ?_ | refine Sem.ret tt_ok ?_ | refine BS_t (by assumption) ?_ | refine BS_f (by assumption) ?_ | refine atG (by first | assumption | exact setG_same _ _ _) ?_ | refine (nthK_iff _ _).2 ⟨_, (by assumption), ?_⟩ | refine ⟨_, ⟨(by omega), (by assumption)⟩, ?_⟩ | refine And.intro (by first | decide | omega) ?_ | fail); conv => whnf) | refine Sem.seqS ?_ | refine Sem.block ?_ | fail)
    exact ⟨_, hdel, rfl, rfl⟩
  | false =>
    rw [if_neg (by simp), if_neg (by simp), if_neg (by simp)] at hdone
    rw [if_neg (by simp)]
    repeat' (first | ((first | refine Sem.reg tt_ok ?_ | refine Sem.condS ?_ | refine Sem.regL tt_ok ?_ | refine Sem.skip tt_ok ?_ | refine Sem.exit tt_ok ?_ | refine Sem.ret tt_ok ?_ | refine BS_t (by assumption) ?_ | refine BS_f (by assumption) ?_ | refine atG (by first | assumption | exact setG_same _ _ _) ?_ | refine (nthK_iff _ _).2 ⟨_, (by assumption), ?_⟩ | refine ⟨_, ⟨(by omega), (by assumption)⟩, ?_⟩ | refine And.intro (by first | decide | omega) ?_ | fail); conv => whnf) | refine Sem.seqS ?_ | refine Sem.block ?_ | fail)
    refine hdone.on ?_; conv => whnf
    repeat' (first | ((first | refine Sem.reg tt_ok ?_ | refine Sem.condS ?_ | refine Sem.regL tt_ok ?_ | refine Sem.skip tt_ok ?_ | refine Sem.exit tt_ok ?_ | refine Sem.ret tt_ok ?_ | refine BS_t (by assumption) ?_ | refine BS_f (by assumption) ?_ | refine atG (by first | assumption | exact setG_same _ _ _) ?_ | refine (nthK_iff _ _).2 ⟨_, (by assumption), ?_⟩ | refine ⟨_, ⟨(by omega), (by assumption)⟩, ?_⟩ | refine And.intro (by first | decide | omega) ?_ | fail); conv => whnf) | refine Sem.seqS ?_ | refine Sem.block ?_ | fail)
    exact ⟨_, sub _, rfl, rfl⟩
end Go.Proofs.YtofhakbmmgpgdaaDoor
end
