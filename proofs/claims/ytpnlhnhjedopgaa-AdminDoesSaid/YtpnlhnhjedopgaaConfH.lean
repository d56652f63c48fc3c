/- conf.Take and the document's, in the abstract run. -/
import Derived.Test.YtpnlhnhjedopgaaConfG
set_option maxRecDepth 100000
set_option linter.unusedSimpArgs false
namespace Go.Proofs.Ytpnlhnhjedopgaa
open Go Go.RowKit Go.Proofs

theorem ba_ext {a b : ByteArray} (h : a.data.toList = b.data.toList) : a = b := by rw [← S_of a, ← S_of b, h]
theorem rest_data' (b : ByteArray) (a : Nat) : (rest b a).data.toList = b.data.toList.drop a := by
  unfold rest
  rw [ByteArray.data_extract, Array.toList_extract, List.extract_eq_take_drop]
  rw [List.take_of_length_le]
  simp
theorem rest_rest' (b : ByteArray) (a k : Nat) : rest (rest b a) k = rest b (a + k) := ba_ext (by rw [rest_data', rest_data', rest_data', List.drop_drop])
/-- some numbers, one behind the other -/
def numsT : Nat → ByteArray → Nat → Option (List Int × Nat)
  | 0, _, a => some ([], a)
  | n + 1, b, a => if (intT (rest b a) 1048576).2.2 ≠ 0 then none else (numsT n b (a + (intT (rest b a) 1048576).2.1)).map fun r => (((intT (rest b a) 1048576).1 : Nat) :: r.1, r.2)
theorem numsT_zero (b : ByteArray) (a : Nat) : numsT 0 b a = some ([], a) := rfl
theorem numsT_succ (n : Nat) (b : ByteArray) (a : Nat) : numsT (n + 1) b a = if (intT (rest b a) 1048576).2.2 ≠ 0 then none else (numsT n b (a + (intT (rest b a) 1048576).2.1)).map fun r => ((((intT (rest b a) 1048576).1 : Nat) : Int) :: r.1, r.2) := rfl
/-- the configuration of bytes -/
def takeC (b : ByteArray) (a : Nat) : Option Cnf := match numsT 9 b a with | some (l, a') => if a' < b.size then none else if goodL l then some (cnfOf l) else none | none => none
def cfV : Option Cnf → AV | some c => .tup [c.av, .int .i64 0] | none => .tup [zeroC.av, .int .i64 1]
structure NI (b : ByteArray) (n : Nat) where
  k : Nat
  hk : k ≤ n
  a : Nat
  ha : a ≤ b.size
  e : Int
  he : 0 ≤ e ∧ e ≤ 9
  out : List Int
  ol : out.length = k
  h0 : e = 0 → numsT n b 0 = (numsT (n - k) b a).map fun r => (out ++ r.1, r.2)
  h1 : e ≠ 0 → numsT n b 0 = none
theorem NI.next {b : ByteArray} {n : Nat} (x : NI b n) (hk : x.k < n) : ((intS b x.a x.e 1048576).2.2 = 0 → numsT n b 0 = (numsT (n - (x.k + 1)) b (intS b x.a x.e 1048576).2.1).map fun r => (x.out ++ [(((intS b x.a x.e 1048576).1 : Nat) : Int)] ++ r.1, r.2)) ∧ ((intS b x.a x.e 1048576).2.2 ≠ 0 → numsT n b 0 = none) := by
  obtain ⟨k, hk0, a, ha, e, hee, out, ol, h0, h1⟩ := x
  simp only at hk ⊢
  by_cases he : e = 0
  · subst he
    have hs : intS b a 0 1048576 = ((intT (rest b a) 1048576).1, a + (intT (rest b a) 1048576).2.1, (intT (rest b a) 1048576).2.2) := by unfold intS; rw [if_neg (by simp)]
    rw [hs]
    have h := h0 rfl
    rw [show n - k = (n - (k + 1)) + 1 by omega, numsT_succ (n - (k + 1)) b a] at h
    refine ⟨fun hz => ?_, fun hz => ?_⟩
    · simp only at hz
      rw [if_neg (by simp [hz])] at h
      rw [h, Option.map_map]
      congr 1
      funext r
      simp
    · simp only at hz
      rw [if_pos hz] at h
      exact h
  · have hs : intS b a e 1048576 = (0, a, e) := by unfold intS; rw [if_pos he]
    rw [hs]
    exact ⟨fun hz => absurd hz he, fun _ => h1 he⟩
set_option maxHeartbeats 1000000 in
theorem conftake_ok (b : ByteArray) (G : Glob) (hb : b.size ≤ maxLen) : CallOk Try.prog TT 102 [.str b] G (fun v G' => v = cfV (takeC b 0) ∧ G' = G) := by
  refine call_sem tt_ok Try.func102 rfl (by kernel_rfl) Try.ntmps102 Try.results102 ?_; conv => whnf
  repeat' (first | ((first | refine Sem.reg tt_ok ?_ | refine Sem.condS ?_ | refine Sem.regL tt_ok ?_ | refine Sem.skip tt_ok ?_ | refine Sem.exit tt_ok ?_ | refine Sem.ret tt_ok ?_ | refine BS_t (by assumption) ?_ | refine BS_f (by assumption) ?_ | refine atG (by repeat (first | assumption | exact setG_same _ _ _ | refine Eq.trans (setG_ne _ _ (by first | assumption | exact Ne.symm (by assumption))) ?_)) ?_ | refine (nthK_iff _ _).2 ⟨_, (by assumption), ?_⟩ | refine ⟨_, ⟨(by omega), (by assumption)⟩, ?_⟩ | refine And.intro (by first | decide | omega) ?_ | fail); conv => whnf) | refine Sem.seqS ?_ | refine Sem.block ?_ | fail)
  refine (rread_ok b _).mono fun v G1 hv => ?_; obtain ⟨r, hr, rfl, rfl⟩ := hv; conv => whnf
  repeat' (first | ((first | refine Sem.reg tt_ok ?_ | refine Sem.condS ?_ | refine Sem.regL tt_ok ?_ | refine Sem.skip tt_ok ?_ | refine Sem.exit tt_ok ?_ | refine Sem.ret tt_ok ?_ | refine BS_t (by assumption) ?_ | refine BS_f (by assumption) ?_ | refine atG (by repeat (first | assumption | exact setG_same _ _ _ | refine Eq.trans (setG_ne _ _ (by first | assumption | exact Ne.symm (by assumption))) ?_)) ?_ | refine (nthK_iff _ _).2 ⟨_, (by assumption), ?_⟩ | refine ⟨_, ⟨(by omega), (by assumption)⟩, ?_⟩ | refine And.intro (by first | decide | omega) ?_ | fail); conv => whnf) | refine Sem.seqS ?_ | refine Sem.block ?_ | fail)
  refine Sem.loop (ι := NI b 9) (fun x => ⟨(.str b :: .top :: .lptr 0 0 :: .int .i64 0 :: .gptr r 0 :: .own 0 3 (x.out.map fun n => [AV.int .i64 n]) :: .top :: .top :: .int .i64 (x.k : Nat) :: .top :: .top :: .top :: .top :: .top :: .top :: .top :: .top :: .top :: .top :: .top :: .top :: .top :: .top :: .top :: []), [.live none [.int .i64 0, .int .i64 0, .int .i64 0, .int .i64 0, .int .i64 0, .int .i64 0, .int .i64 0, .int .i64 0, .int .i64 0]], 1, 1, setG G r (rdG b x.a x.e)⟩) (fun x => 9 - x.k)
    ⟨0, Nat.zero_le _, 0, Nat.zero_le _, 0, by decide, [], rfl, fun _ => by cases numsT 9 b 0 <;> simp, fun h => absurd rfl h⟩ ?_ (fun x => ?_)
  · refine weak_by [none] ?_; (conv => whnf); repeat (first | (refine And.intro rfl ?_; conv => whnf) | fail)
    exact ⟨fun i x hx => hx, rfl, Nat.le_refl _, rfl, rfl⟩
  repeat' (first | ((first | refine Sem.reg tt_ok ?_ | refine Sem.condS ?_ | refine Sem.regL tt_ok ?_ | refine Sem.skip tt_ok ?_ | refine Sem.exit tt_ok ?_ | refine Sem.ret tt_ok ?_ | refine BS_t (by assumption) ?_ | refine BS_f (by assumption) ?_ | refine atG (by repeat (first | assumption | exact setG_same _ _ _ | refine Eq.trans (setG_ne _ _ (by first | assumption | exact Ne.symm (by assumption))) ?_)) ?_ | refine (nthK_iff _ _).2 ⟨_, (by assumption), ?_⟩ | refine ⟨_, ⟨(by omega), (by assumption)⟩, ?_⟩ | refine And.intro (by first | decide | omega) ?_ | fail); conv => whnf) | refine Sem.seqS ?_ | refine Sem.block ?_ | fail)
  by_cases hk : x.k < 9
  · have c1 : decide (((x.k : Nat) : Int) < 9) = true := by simp; omega
    have hw : IntKind.i64.wrap ((x.k : Int) + 1) = ((x.k + 1 : Nat) : Int) := by have := x.hk; rw [IntWalk.i64_in _ (by omega)]; omega
    have hn := fun (_ : Unit) => x.next hk
    have hbd := intS_bd (b := b) (a := x.a) (e := x.e) 1048576 x.ha x.he.1 x.he.2
    have hol := x.ol
    repeat' (first | ((first | refine Sem.reg tt_ok ?_ | refine Sem.condS ?_ | refine Sem.regL tt_ok ?_ | refine Sem.skip tt_ok ?_ | refine Sem.exit tt_ok ?_ | refine Sem.ret tt_ok ?_ | refine BS_t (by assumption) ?_ | refine BS_f (by assumption) ?_ | refine atG (by repeat (first | assumption | exact setG_same _ _ _ | refine Eq.trans (setG_ne _ _ (by first | assumption | exact Ne.symm (by assumption))) ?_)) ?_ | refine (nthK_iff _ _).2 ⟨_, (by assumption), ?_⟩ | refine ⟨_, ⟨(by omega), (by assumption)⟩, ?_⟩ | refine And.intro (by first | decide | omega) ?_ | fail); conv => whnf) | refine Sem.seqS ?_ | refine Sem.block ?_ | fail)
    refine (rint_ok _ r b x.a x.e 1048576 x.ha hb (by decide) (by decide) (setG_same _ _ _)).on ?_; conv => whnf
    repeat' (first | ((first | refine Sem.reg tt_ok ?_ | refine Sem.condS ?_ | refine Sem.regL tt_ok ?_ | refine Sem.skip tt_ok ?_ | refine Sem.exit tt_ok ?_ | refine Sem.ret tt_ok ?_ | refine BS_t (by assumption) ?_ | refine BS_f (by assumption) ?_ | refine atG (by repeat (first | assumption | exact setG_same _ _ _ | refine Eq.trans (setG_ne _ _ (by first | assumption | exact Ne.symm (by assumption))) ?_)) ?_ | refine (nthK_iff _ _).2 ⟨_, (by assumption), ?_⟩ | refine ⟨_, ⟨(by omega), (by assumption)⟩, ?_⟩ | refine And.intro (by first | decide | omega) ?_ | fail); conv => whnf) | refine Sem.seqS ?_ | refine Sem.block ?_ | fail)
    refine And.intro (app_le (by simp only [List.length_map, List.length_cons, List.length_nil]; omega) (by decide)) ?_; conv => whnf
    repeat' (first | ((first | refine Sem.reg tt_ok ?_ | refine Sem.condS ?_ | refine Sem.regL tt_ok ?_ | refine Sem.skip tt_ok ?_ | refine Sem.exit tt_ok ?_ | refine Sem.ret tt_ok ?_ | refine BS_t (by assumption) ?_ | refine BS_f (by assumption) ?_ | refine atG (by repeat (first | assumption | exact setG_same _ _ _ | refine Eq.trans (setG_ne _ _ (by first | assumption | exact Ne.symm (by assumption))) ?_)) ?_ | refine (nthK_iff _ _).2 ⟨_, (by assumption), ?_⟩ | refine ⟨_, ⟨(by omega), (by assumption)⟩, ?_⟩ | refine And.intro (by first | decide | omega) ?_ | fail); conv => whnf) | refine Sem.seqS ?_ | refine Sem.block ?_ | fail)
    refine ⟨⟨x.k + 1, by omega, (intS b x.a x.e 1048576).2.1, hbd.1, (intS b x.a x.e 1048576).2.2, ⟨hbd.2.1, hbd.2.2.1⟩, x.out ++ [(((intS b x.a x.e 1048576).1 : Nat) : Int)], by simp; omega, (hn ()).1, (hn ()).2⟩, by show 9 - (x.k + 1) < 9 - x.k; omega, ?_⟩
    refine weak_by [some 0] ?_; (conv => whnf); repeat (first | (refine And.intro rfl ?_; conv => whnf) | fail)
    refine And.intro (by simp) ?_
    (conv => whnf); repeat (first | (refine And.intro rfl ?_; conv => whnf) | fail)
    refine And.intro hw ?_
    (conv => whnf); repeat (first | (refine And.intro rfl ?_; conv => whnf) | fail)
    exact ⟨fun i y hy => by rw [setG_twice]; exact hy, rfl, Nat.le_refl _, rfl, rfl⟩
  · have hk9 : x.k = 9 := by have := x.hk; omega
    have c1 : decide (((x.k : Nat) : Int) < 9) = false := by simp; omega
    have hdn := rdone_ok (setG G r (rdG b x.a x.e)) r b x.a x.e (setG_same _ _ _)
    have hof := confof_ok x.out (setG G r (rdG b x.a x.e))
    have h0 := x.h0
    have h1 := x.h1
    rw [hk9, Nat.sub_self, numsT_zero b x.a, Option.map_some, List.append_nil] at h0
    by_cases he : x.e = 0
    · have h2 := fun (_ : Unit) => h0 he
      rw [if_neg (by simpa using he)] at hdn
      by_cases hl : x.a < b.size
      · rw [if_pos hl] at hdn
        repeat' (first | ((first | refine Sem.reg tt_ok ?_ | refine Sem.condS ?_ | refine Sem.regL tt_ok ?_ | refine Sem.skip tt_ok ?_ | refine Sem.exit tt_ok ?_ | refine Sem.ret tt_ok ?_ | refine BS_t (by assumption) ?_ | refine BS_f (by assumption) ?_ | refine atG (by repeat (first | assumption | exact setG_same _ _ _ | refine Eq.trans (setG_ne _ _ (by first | assumption | exact Ne.symm (by assumption))) ?_)) ?_ | refine (nthK_iff _ _).2 ⟨_, (by assumption), ?_⟩ | refine ⟨_, ⟨(by omega), (by assumption)⟩, ?_⟩ | refine And.intro (by first | decide | omega) ?_ | fail); conv => whnf) | refine Sem.seqS ?_ | refine Sem.block ?_ | fail)
        refine hdn.on ?_; conv => whnf
        repeat' (first | ((first | refine Sem.reg tt_ok ?_ | refine Sem.condS ?_ | refine Sem.regL tt_ok ?_ | refine Sem.skip tt_ok ?_ | refine Sem.exit tt_ok ?_ | refine Sem.ret tt_ok ?_ | refine BS_t (by assumption) ?_ | refine BS_f (by assumption) ?_ | refine atG (by repeat (first | assumption | exact setG_same _ _ _ | refine Eq.trans (setG_ne _ _ (by first | assumption | exact Ne.symm (by assumption))) ?_)) ?_ | refine (nthK_iff _ _).2 ⟨_, (by assumption), ?_⟩ | refine ⟨_, ⟨(by omega), (by assumption)⟩, ?_⟩ | refine And.intro (by first | decide | omega) ?_ | fail); conv => whnf) | refine Sem.seqS ?_ | refine Sem.block ?_ | fail)
        refine ⟨G, new_sub hr, ?_, rfl⟩
        unfold takeC
        rw [h2 ()]
        simp only [if_pos hl]
        rfl
      · rw [if_neg hl] at hdn
        unfold ofV at hof
        cases hg : goodL x.out with
        | true =>
          rw [hg, if_pos rfl] at hof
          unfold Cnf.av at hof
          repeat' (first | ((first | refine Sem.reg tt_ok ?_ | refine Sem.condS ?_ | refine Sem.regL tt_ok ?_ | refine Sem.skip tt_ok ?_ | refine Sem.exit tt_ok ?_ | refine Sem.ret tt_ok ?_ | refine BS_t (by assumption) ?_ | refine BS_f (by assumption) ?_ | refine atG (by repeat (first | assumption | exact setG_same _ _ _ | refine Eq.trans (setG_ne _ _ (by first | assumption | exact Ne.symm (by assumption))) ?_)) ?_ | refine (nthK_iff _ _).2 ⟨_, (by assumption), ?_⟩ | refine ⟨_, ⟨(by omega), (by assumption)⟩, ?_⟩ | refine And.intro (by first | decide | omega) ?_ | fail); conv => whnf) | refine Sem.seqS ?_ | refine Sem.block ?_ | fail)
          refine hdn.on ?_; conv => whnf
          repeat' (first | ((first | refine Sem.reg tt_ok ?_ | refine Sem.condS ?_ | refine Sem.regL tt_ok ?_ | refine Sem.skip tt_ok ?_ | refine Sem.exit tt_ok ?_ | refine Sem.ret tt_ok ?_ | refine BS_t (by assumption) ?_ | refine BS_f (by assumption) ?_ | refine atG (by repeat (first | assumption | exact setG_same _ _ _ | refine Eq.trans (setG_ne _ _ (by first | assumption | exact Ne.symm (by assumption))) ?_)) ?_ | refine (nthK_iff _ _).2 ⟨_, (by assumption), ?_⟩ | refine ⟨_, ⟨(by omega), (by assumption)⟩, ?_⟩ | refine And.intro (by first | decide | omega) ?_ | fail); conv => whnf) | refine Sem.seqS ?_ | refine Sem.block ?_ | fail)
          refine hof.on ?_; conv => whnf
          repeat' (first | ((first | refine Sem.reg tt_ok ?_ | refine Sem.condS ?_ | refine Sem.regL tt_ok ?_ | refine Sem.skip tt_ok ?_ | refine Sem.exit tt_ok ?_ | refine Sem.ret tt_ok ?_ | refine BS_t (by assumption) ?_ | refine BS_f (by assumption) ?_ | refine atG (by repeat (first | assumption | exact setG_same _ _ _ | refine Eq.trans (setG_ne _ _ (by first | assumption | exact Ne.symm (by assumption))) ?_)) ?_ | refine (nthK_iff _ _).2 ⟨_, (by assumption), ?_⟩ | refine ⟨_, ⟨(by omega), (by assumption)⟩, ?_⟩ | refine And.intro (by first | decide | omega) ?_ | fail); conv => whnf) | refine Sem.seqS ?_ | refine Sem.block ?_ | fail)
          refine ⟨G, new_sub hr, ?_, rfl⟩
          unfold takeC
          rw [h2 ()]
          simp only [if_neg hl, hg]
          rfl
        | false =>
          rw [hg, if_neg (by simp)] at hof
          unfold Cnf.av at hof
          repeat' (first | ((first | refine Sem.reg tt_ok ?_ | refine Sem.condS ?_ | refine Sem.regL tt_ok ?_ | refine Sem.skip tt_ok ?_ | refine Sem.exit tt_ok ?_ | refine Sem.ret tt_ok ?_ | refine BS_t (by assumption) ?_ | refine BS_f (by assumption) ?_ | refine atG (by repeat (first | assumption | exact setG_same _ _ _ | refine Eq.trans (setG_ne _ _ (by first | assumption | exact Ne.symm (by assumption))) ?_)) ?_ | refine (nthK_iff _ _).2 ⟨_, (by assumption), ?_⟩ | refine ⟨_, ⟨(by omega), (by assumption)⟩, ?_⟩ | refine And.intro (by first | decide | omega) ?_ | fail); conv => whnf) | refine Sem.seqS ?_ | refine Sem.block ?_ | fail)
          refine hdn.on ?_; conv => whnf
          repeat' (first | ((first | refine Sem.reg tt_ok ?_ | refine Sem.condS ?_ | refine Sem.regL tt_ok ?_ | refine Sem.skip tt_ok ?_ | refine Sem.exit tt_ok ?_ | refine Sem.ret tt_ok ?_ | refine BS_t (by assumption) ?_ | refine BS_f (by assumption) ?_ | refine atG (by repeat (first | assumption | exact setG_same _ _ _ | refine Eq.trans (setG_ne _ _ (by first | assumption | exact Ne.symm (by assumption))) ?_)) ?_ | refine (nthK_iff _ _).2 ⟨_, (by assumption), ?_⟩ | refine ⟨_, ⟨(by omega), (by assumption)⟩, ?_⟩ | refine And.intro (by first | decide | omega) ?_ | fail); conv => whnf) | refine Sem.seqS ?_ | refine Sem.block ?_ | fail)
          refine hof.on ?_; conv => whnf
          repeat' (first | ((first | refine Sem.reg tt_ok ?_ | refine Sem.condS ?_ | refine Sem.regL tt_ok ?_ | refine Sem.skip tt_ok ?_ | refine Sem.exit tt_ok ?_ | refine Sem.ret tt_ok ?_ | refine BS_t (by assumption) ?_ | refine BS_f (by assumption) ?_ | refine atG (by repeat (first | assumption | exact setG_same _ _ _ | refine Eq.trans (setG_ne _ _ (by first | assumption | exact Ne.symm (by assumption))) ?_)) ?_ | refine (nthK_iff _ _).2 ⟨_, (by assumption), ?_⟩ | refine ⟨_, ⟨(by omega), (by assumption)⟩, ?_⟩ | refine And.intro (by first | decide | omega) ?_ | fail); conv => whnf) | refine Sem.seqS ?_ | refine Sem.block ?_ | fail)
          refine ⟨G, new_sub hr, ?_, rfl⟩
          unfold takeC
          rw [h2 ()]
          simp only [if_neg hl, hg]
          rfl
    · have h2 := fun (_ : Unit) => h1 he
      have c2 : (x.e != 0) = true := by simpa using he
      rw [if_pos he] at hdn
      repeat' (first | ((first | refine Sem.reg tt_ok ?_ | refine Sem.condS ?_ | refine Sem.regL tt_ok ?_ | refine Sem.skip tt_ok ?_ | refine Sem.exit tt_ok ?_ | refine Sem.ret tt_ok ?_ | refine BS_t (by assumption) ?_ | refine BS_f (by assumption) ?_ | refine atG (by repeat (first | assumption | exact setG_same _ _ _ | refine Eq.trans (setG_ne _ _ (by first | assumption | exact Ne.symm (by assumption))) ?_)) ?_ | refine (nthK_iff _ _).2 ⟨_, (by assumption), ?_⟩ | refine ⟨_, ⟨(by omega), (by assumption)⟩, ?_⟩ | refine And.intro (by first | decide | omega) ?_ | fail); conv => whnf) | refine Sem.seqS ?_ | refine Sem.block ?_ | fail)
      refine hdn.on ?_; conv => whnf
      repeat' (first | ((first | refine Sem.reg tt_ok ?_ | refine Sem.condS ?_ | refine Sem.regL tt_ok ?_ | refine Sem.skip tt_ok ?_ | refine Sem.exit tt_ok ?_ | refine Sem.ret tt_ok ?_ | refine BS_t (by assumption) ?_ | refine BS_f (by assumption) ?_ | refine atG (by repeat (first | assumption | exact setG_same _ _ _ | refine Eq.trans (setG_ne _ _ (by first | assumption | exact Ne.symm (by assumption))) ?_)) ?_ | refine (nthK_iff _ _).2 ⟨_, (by assumption), ?_⟩ | refine ⟨_, ⟨(by omega), (by assumption)⟩, ?_⟩ | refine And.intro (by first | decide | omega) ?_ | fail); conv => whnf) | refine Sem.seqS ?_ | refine Sem.block ?_ | fail)
      refine ⟨G, new_sub hr, ?_, rfl⟩
      unfold takeC
      rw [h2 ()]
      rfl
theorem rest_test' (b : ByteArray) (a : Nat) : (!(rest b a).toList == (⟨#[]⟩ : ByteArray).toList) = decide (a < b.size) := by
  rw [bl_eq]
  by_cases h : a < b.size
  · have hne : rest b a ≠ ⟨#[]⟩ := fun e => by
      have h1 := rest_size b a
      rw [e] at h1
      have h2 : (⟨#[]⟩ : ByteArray).size = 0 := rfl
      omega
    simp [h, hne]
  · have he : rest b a = ⟨#[]⟩ := ba_ext (by rw [rest_data', List.drop_eq_nil_of_le (by simpa using h)])
    simp [h, he]
structure RI (b : ByteArray) where
  k : Nat
  hk : k ≤ 9
  a : Nat
  ha : a ≤ b.size
  out : List Int
  ol : out.length = k
  h0 : numsT 9 b 0 = (numsT (9 - k) b a).map fun r => (out ++ r.1, r.2)
set_option maxHeartbeats 1000000 in
theorem reftake37_ok (b : ByteArray) (G : Glob) (hb : b.size ≤ maxLen) : CallOk Try.prog TT 105 [.str b] G (fun v G' => v = cfV (takeC b 0) ∧ G' = G) := by
  refine call_sem tt_ok Try.func105 rfl (by kernel_rfl) Try.ntmps105 Try.results105 ?_; conv => whnf
  repeat' (first | ((first | refine Sem.reg tt_ok ?_ | refine Sem.condS ?_ | refine Sem.regL tt_ok ?_ | refine Sem.skip tt_ok ?_ | refine Sem.exit tt_ok ?_ | refine Sem.ret tt_ok ?_ | refine BS_t (by assumption) ?_ | refine BS_f (by assumption) ?_ | refine atG (by repeat (first | assumption | exact setG_same _ _ _ | refine Eq.trans (setG_ne _ _ (by first | assumption | exact Ne.symm (by assumption))) ?_)) ?_ | refine (nthK_iff _ _).2 ⟨_, (by assumption), ?_⟩ | refine ⟨_, ⟨(by omega), (by assumption)⟩, ?_⟩ | refine And.intro (by first | decide | omega) ?_ | fail); conv => whnf) | refine Sem.seqS ?_ | refine Sem.block ?_ | fail)
  refine Sem.loop (ι := RI b) (fun x => ⟨(.str (rest b x.a) :: .top :: .lptr 0 0 :: .int .i64 0 :: .own 0 3 (x.out.map fun n => [AV.int .i64 n]) :: .int .i64 (x.k : Nat) :: .top :: .top :: .top :: .top :: .top :: .top :: .top :: .top :: .top :: .top :: .top :: .top :: .top :: .top :: .top :: .top :: .top :: .top :: .top :: .top :: .top :: .top :: .top :: .top :: .top :: .top :: .top :: .top :: .top :: .top :: []), [.live none [.int .i64 0, .int .i64 0, .int .i64 0, .int .i64 0, .int .i64 0, .int .i64 0, .int .i64 0, .int .i64 0, .int .i64 0]], 1, 1, G⟩) (fun x => 9 - x.k)
    ⟨0, Nat.zero_le _, 0, Nat.zero_le _, [], rfl, by cases numsT 9 b 0 <;> simp⟩ ?_ (fun x => ?_)
  · refine weak_by [none] ?_; (conv => whnf); repeat (first | (refine And.intro rfl ?_; conv => whnf) | fail)
    refine And.intro (by show b = rest b 0; exact ba_ext (by rw [rest_data']; rfl)) ?_
    (conv => whnf); repeat (first | (refine And.intro rfl ?_; conv => whnf) | fail)
    exact ⟨fun i x hx => hx, rfl, Nat.le_refl _, rfl, rfl⟩
  repeat' (first | ((first | refine Sem.reg tt_ok ?_ | refine Sem.condS ?_ | refine Sem.regL tt_ok ?_ | refine Sem.skip tt_ok ?_ | refine Sem.exit tt_ok ?_ | refine Sem.ret tt_ok ?_ | refine BS_t (by assumption) ?_ | refine BS_f (by assumption) ?_ | refine atG (by repeat (first | assumption | exact setG_same _ _ _ | refine Eq.trans (setG_ne _ _ (by first | assumption | exact Ne.symm (by assumption))) ?_)) ?_ | refine (nthK_iff _ _).2 ⟨_, (by assumption), ?_⟩ | refine ⟨_, ⟨(by omega), (by assumption)⟩, ?_⟩ | refine And.intro (by first | decide | omega) ?_ | fail); conv => whnf) | refine Sem.seqS ?_ | refine Sem.block ?_ | fail)
  have ha := x.ha
  have hk0 := x.hk
  have ol := x.ol
  by_cases hk : x.k < 9
  · have c1 : decide (((x.k : Nat) : Int) < 9) = true := by simp; omega
    have hw : IntKind.i64.wrap ((x.k : Int) + 1) = ((x.k + 1 : Nat) : Int) := by rw [IntWalk.i64_in _ (by omega)]; omega
    have hi := q_refint (rest b x.a) 1048576 G (by rw [rest_size]; omega) (by decide) (by decide)
    have hbd := intT_bd (rest b x.a) 1048576
    rw [rest_size] at hbd
    unfold intAV at hi
    have h0 : Unit → numsT 9 b 0 = (if (intT (rest b x.a) 1048576).2.2 ≠ 0 then none else (numsT (9 - (x.k + 1)) b (x.a + (intT (rest b x.a) 1048576).2.1)).map fun r => ((((intT (rest b x.a) 1048576).1 : Nat) : Int) :: r.1, r.2)).map fun r => (x.out ++ r.1, r.2) := fun _ => by
      have := x.h0
      rw [show 9 - x.k = (9 - (x.k + 1)) + 1 by omega, numsT_succ (9 - (x.k + 1)) b x.a] at this
      exact this
    by_cases he : (intT (rest b x.a) 1048576).2.2 = 0
    · have c2 : ((intT (rest b x.a) 1048576).2.2 != 0) = false := by simpa using he
      repeat' (first | ((first | refine Sem.reg tt_ok ?_ | refine Sem.condS ?_ | refine Sem.regL tt_ok ?_ | refine Sem.skip tt_ok ?_ | refine Sem.exit tt_ok ?_ | refine Sem.ret tt_ok ?_ | refine BS_t (by assumption) ?_ | refine BS_f (by assumption) ?_ | refine atG (by repeat (first | assumption | exact setG_same _ _ _ | refine Eq.trans (setG_ne _ _ (by first | assumption | exact Ne.symm (by assumption))) ?_)) ?_ | refine (nthK_iff _ _).2 ⟨_, (by assumption), ?_⟩ | refine ⟨_, ⟨(by omega), (by assumption)⟩, ?_⟩ | refine And.intro (by first | decide | omega) ?_ | fail); conv => whnf) | refine Sem.seqS ?_ | refine Sem.block ?_ | fail)
      refine hi.on ?_; conv => whnf
      repeat' (first | ((first | refine Sem.reg tt_ok ?_ | refine Sem.condS ?_ | refine Sem.regL tt_ok ?_ | refine Sem.skip tt_ok ?_ | refine Sem.exit tt_ok ?_ | refine Sem.ret tt_ok ?_ | refine BS_t (by assumption) ?_ | refine BS_f (by assumption) ?_ | refine atG (by repeat (first | assumption | exact setG_same _ _ _ | refine Eq.trans (setG_ne _ _ (by first | assumption | exact Ne.symm (by assumption))) ?_)) ?_ | refine (nthK_iff _ _).2 ⟨_, (by assumption), ?_⟩ | refine ⟨_, ⟨(by omega), (by assumption)⟩, ?_⟩ | refine And.intro (by first | decide | omega) ?_ | fail); conv => whnf) | refine Sem.seqS ?_ | refine Sem.block ?_ | fail)
      refine And.intro (app_le (by simp only [List.length_map, List.length_cons, List.length_nil]; omega) (by decide)) ?_; conv => whnf
      repeat' (first | ((first | refine Sem.reg tt_ok ?_ | refine Sem.condS ?_ | refine Sem.regL tt_ok ?_ | refine Sem.skip tt_ok ?_ | refine Sem.exit tt_ok ?_ | refine Sem.ret tt_ok ?_ | refine BS_t (by assumption) ?_ | refine BS_f (by assumption) ?_ | refine atG (by repeat (first | assumption | exact setG_same _ _ _ | refine Eq.trans (setG_ne _ _ (by first | assumption | exact Ne.symm (by assumption))) ?_)) ?_ | refine (nthK_iff _ _).2 ⟨_, (by assumption), ?_⟩ | refine ⟨_, ⟨(by omega), (by assumption)⟩, ?_⟩ | refine And.intro (by first | decide | omega) ?_ | fail); conv => whnf) | refine Sem.seqS ?_ | refine Sem.block ?_ | fail)
      refine And.intro (by rw [rest_size]; omega) ?_; conv => whnf
      repeat' (first | ((first | refine Sem.reg tt_ok ?_ | refine Sem.condS ?_ | refine Sem.regL tt_ok ?_ | refine Sem.skip tt_ok ?_ | refine Sem.exit tt_ok ?_ | refine Sem.ret tt_ok ?_ | refine BS_t (by assumption) ?_ | refine BS_f (by assumption) ?_ | refine atG (by repeat (first | assumption | exact setG_same _ _ _ | refine Eq.trans (setG_ne _ _ (by first | assumption | exact Ne.symm (by assumption))) ?_)) ?_ | refine (nthK_iff _ _).2 ⟨_, (by assumption), ?_⟩ | refine ⟨_, ⟨(by omega), (by assumption)⟩, ?_⟩ | refine And.intro (by first | decide | omega) ?_ | fail); conv => whnf) | refine Sem.seqS ?_ | refine Sem.block ?_ | fail)
      refine ⟨⟨x.k + 1, by omega, x.a + (intT (rest b x.a) 1048576).2.1, by omega, x.out ++ [(((intT (rest b x.a) 1048576).1 : Nat) : Int)], by simp; omega, ?_⟩, by show 9 - (x.k + 1) < 9 - x.k; omega, ?_⟩
      · have h1 := h0 ()
        rw [if_neg (by simp [he]), Option.map_map] at h1
        rw [h1]
        congr 1
        funext r
        simp
      refine weak_by [some 0] ?_
      conv => whnf
      refine And.intro (by show rest (rest b x.a) (intT (rest b x.a) 1048576).2.1 = _; exact rest_rest' b x.a _) ?_
      (conv => whnf); repeat (first | (refine And.intro rfl ?_; conv => whnf) | fail)
      refine And.intro (by simp) ?_
      (conv => whnf); repeat (first | (refine And.intro rfl ?_; conv => whnf) | fail)
      refine And.intro hw ?_
      (conv => whnf); repeat (first | (refine And.intro rfl ?_; conv => whnf) | fail)
      exact ⟨fun i y hy => hy, rfl, Nat.le_refl _, rfl, rfl⟩
    · have c2 : ((intT (rest b x.a) 1048576).2.2 != 0) = true := by simpa using he
      repeat' (first | ((first | refine Sem.reg tt_ok ?_ | refine Sem.condS ?_ | refine Sem.regL tt_ok ?_ | refine Sem.skip tt_ok ?_ | refine Sem.exit tt_ok ?_ | refine Sem.ret tt_ok ?_ | refine BS_t (by assumption) ?_ | refine BS_f (by assumption) ?_ | refine atG (by repeat (first | assumption | exact setG_same _ _ _ | refine Eq.trans (setG_ne _ _ (by first | assumption | exact Ne.symm (by assumption))) ?_)) ?_ | refine (nthK_iff _ _).2 ⟨_, (by assumption), ?_⟩ | refine ⟨_, ⟨(by omega), (by assumption)⟩, ?_⟩ | refine And.intro (by first | decide | omega) ?_ | fail); conv => whnf) | refine Sem.seqS ?_ | refine Sem.block ?_ | fail)
      refine hi.on ?_; conv => whnf
      repeat' (first | ((first | refine Sem.reg tt_ok ?_ | refine Sem.condS ?_ | refine Sem.regL tt_ok ?_ | refine Sem.skip tt_ok ?_ | refine Sem.exit tt_ok ?_ | refine Sem.ret tt_ok ?_ | refine BS_t (by assumption) ?_ | refine BS_f (by assumption) ?_ | refine atG (by repeat (first | assumption | exact setG_same _ _ _ | refine Eq.trans (setG_ne _ _ (by first | assumption | exact Ne.symm (by assumption))) ?_)) ?_ | refine (nthK_iff _ _).2 ⟨_, (by assumption), ?_⟩ | refine ⟨_, ⟨(by omega), (by assumption)⟩, ?_⟩ | refine And.intro (by first | decide | omega) ?_ | fail); conv => whnf) | refine Sem.seqS ?_ | refine Sem.block ?_ | fail)
      refine ⟨_, fun _ _ h => h, ?_, rfl⟩
      have h1 := h0 ()
      rw [if_pos he] at h1
      unfold takeC
      rw [h1]
      rfl
  · have hk9 : x.k = 9 := by omega
    have c1 : decide (((x.k : Nat) : Int) < 9) = false := by simp; omega
    have hof := refof_ok x.out G
    have hrt := rest_test' b x.a
    have h0 : Unit → numsT 9 b 0 = some (x.out, x.a) := fun _ => by
      have := x.h0
      rw [hk9, Nat.sub_self, numsT_zero b x.a, Option.map_some, List.append_nil] at this
      exact this
    by_cases hl : x.a < b.size
    · rw [decide_eq_true hl] at hrt
      repeat' (first | ((first | refine Sem.reg tt_ok ?_ | refine Sem.condS ?_ | refine Sem.regL tt_ok ?_ | refine Sem.skip tt_ok ?_ | refine Sem.exit tt_ok ?_ | refine Sem.ret tt_ok ?_ | refine BS_t (by assumption) ?_ | refine BS_f (by assumption) ?_ | refine atG (by repeat (first | assumption | exact setG_same _ _ _ | refine Eq.trans (setG_ne _ _ (by first | assumption | exact Ne.symm (by assumption))) ?_)) ?_ | refine (nthK_iff _ _).2 ⟨_, (by assumption), ?_⟩ | refine ⟨_, ⟨(by omega), (by assumption)⟩, ?_⟩ | refine And.intro (by first | decide | omega) ?_ | fail); conv => whnf) | refine Sem.seqS ?_ | refine Sem.block ?_ | fail)
      refine ⟨G, fun _ _ h => h, ?_, rfl⟩
      unfold takeC
      rw [h0 ()]
      simp only [if_pos hl]
      rfl
    · rw [decide_eq_false hl] at hrt
      unfold ofV at hof
      cases hg : goodL x.out with
      | true =>
        rw [hg, if_pos rfl] at hof
        unfold Cnf.av at hof
        repeat' (first | ((first | refine Sem.reg tt_ok ?_ | refine Sem.condS ?_ | refine Sem.regL tt_ok ?_ | refine Sem.skip tt_ok ?_ | refine Sem.exit tt_ok ?_ | refine Sem.ret tt_ok ?_ | refine BS_t (by assumption) ?_ | refine BS_f (by assumption) ?_ | refine atG (by repeat (first | assumption | exact setG_same _ _ _ | refine Eq.trans (setG_ne _ _ (by first | assumption | exact Ne.symm (by assumption))) ?_)) ?_ | refine (nthK_iff _ _).2 ⟨_, (by assumption), ?_⟩ | refine ⟨_, ⟨(by omega), (by assumption)⟩, ?_⟩ | refine And.intro (by first | decide | omega) ?_ | fail); conv => whnf) | refine Sem.seqS ?_ | refine Sem.block ?_ | fail)
        refine hof.on ?_; conv => whnf
        repeat' (first | ((first | refine Sem.reg tt_ok ?_ | refine Sem.condS ?_ | refine Sem.regL tt_ok ?_ | refine Sem.skip tt_ok ?_ | refine Sem.exit tt_ok ?_ | refine Sem.ret tt_ok ?_ | refine BS_t (by assumption) ?_ | refine BS_f (by assumption) ?_ | refine atG (by repeat (first | assumption | exact setG_same _ _ _ | refine Eq.trans (setG_ne _ _ (by first | assumption | exact Ne.symm (by assumption))) ?_)) ?_ | refine (nthK_iff _ _).2 ⟨_, (by assumption), ?_⟩ | refine ⟨_, ⟨(by omega), (by assumption)⟩, ?_⟩ | refine And.intro (by first | decide | omega) ?_ | fail); conv => whnf) | refine Sem.seqS ?_ | refine Sem.block ?_ | fail)
        refine ⟨G, fun _ _ h => h, ?_, rfl⟩
        unfold takeC
        rw [h0 ()]
        simp only [if_neg hl, hg]
        rfl
      | false =>
        rw [hg, if_neg (by simp)] at hof
        unfold Cnf.av at hof
        repeat' (first | ((first | refine Sem.reg tt_ok ?_ | refine Sem.condS ?_ | refine Sem.regL tt_ok ?_ | refine Sem.skip tt_ok ?_ | refine Sem.exit tt_ok ?_ | refine Sem.ret tt_ok ?_ | refine BS_t (by assumption) ?_ | refine BS_f (by assumption) ?_ | refine atG (by repeat (first | assumption | exact setG_same _ _ _ | refine Eq.trans (setG_ne _ _ (by first | assumption | exact Ne.symm (by assumption))) ?_)) ?_ | refine (nthK_iff _ _).2 ⟨_, (by assumption), ?_⟩ | refine ⟨_, ⟨(by omega), (by assumption)⟩, ?_⟩ | refine And.intro (by first | decide | omega) ?_ | fail); conv => whnf) | refine Sem.seqS ?_ | refine Sem.block ?_ | fail)
        refine hof.on ?_; conv => whnf
        repeat' (first | ((first | refine Sem.reg tt_ok ?_ | refine Sem.condS ?_ | refine Sem.regL tt_ok ?_ | refine Sem.skip tt_ok ?_ | refine Sem.exit tt_ok ?_ | refine Sem.ret tt_ok ?_ | refine BS_t (by assumption) ?_ | refine BS_f (by assumption) ?_ | refine atG (by repeat (first | assumption | exact setG_same _ _ _ | refine Eq.trans (setG_ne _ _ (by first | assumption | exact Ne.symm (by assumption))) ?_)) ?_ | refine (nthK_iff _ _).2 ⟨_, (by assumption), ?_⟩ | refine ⟨_, ⟨(by omega), (by assumption)⟩, ?_⟩ | refine And.intro (by first | decide | omega) ?_ | fail); conv => whnf) | refine Sem.seqS ?_ | refine Sem.block ?_ | fail)
        refine ⟨G, fun _ _ h => h, ?_, rfl⟩
        unfold takeC
        rw [h0 ()]
        simp only [if_neg hl, hg]
        rfl
end Go.Proofs.Ytpnlhnhjedopgaa
