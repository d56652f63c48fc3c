/- The document's digits and quotes, in the abstract run. -/
import Derived.Test.YtgedlbfdhekdgaaDoorValP
import Derived.Test.YtgedlbfdhekdgaaDoorGd
import Derived.Test.YtgedlbfdhekdgaaDoorLaw
set_option maxRecDepth 100000
set_option linter.unusedSimpArgs false
namespace Go.Proofs.YtgedlbfdhekdgaaDoor
open Go Go.RowKit Go.Proofs

theorem vdec_le : ∀ (k n : Nat), n < 10 ^ (k + 1) → (Lib.decDigits n).length ≤ k + 1 := by
  intro k
  induction k with
  | zero => intro n h; rw [Lib.decDigits, dif_pos (by omega)]; simp
  | succ k ih =>
    intro n h
    by_cases h0 : n < 10
    · rw [Lib.decDigits, dif_pos h0]; simp
    · rw [Lib.decDigits, dif_neg h0, List.length_append]
      have h' : n < 10 ^ (k + 1) * 10 := by rwa [← Nat.pow_succ]
      have := ih (n / 10) (by omega)
      simp only [List.length_singleton]; omega
theorem vbyte_ok (n : Int) (G : Glob) (h0 : 0 ≤ n) (h1 : n ≤ 255) : CallOk Tryd.prog TT 46 [.int .i64 n] G (fun v G' => v = .str (S [UInt8.ofNat n.toNat]) ∧ G' = G) := by
  refine CallOk.of_gives ⟨_, Tryd.func46, by decide, rfl⟩ fun g us w hl hd => ?_
  obtain ⟨us⟩ := us
  match us, hl with
  | [u0], _ =>
    cases hd 0 _ u0 rfl rfl
    exact ⟨_, .str _, byte_any n w h0 h1⟩
theorem digits_ok : ∀ (k n : Nat) (G : Glob), n < k → n ≤ 18446744073709551615 → CallOk Tryd.prog TT 24 [.int .u64 (n : Nat)] G (fun v G' => v = .str (S (Lib.decDigits n)) ∧ G' = G)
  | 0, n, G, h, _ => by omega
  | k + 1, n, G, h, hn => by
    by_cases h10 : n < 10
    · have t1 : decide (((n : Nat) : Int) < 10) = true := by rw [decide_eq_true_eq]; omega
      have hb := vbyte_ok (48 + n) G (by omega) (by omega)
      have e : S [UInt8.ofNat ((48 : Int) + n).toNat] = S (Lib.decDigits n) := by
        rw [Lib.decDigits, dif_pos h10, show ((48 : Int) + (n : Nat)).toNat = 48 + n by omega]
      rw [e] at hb
      have w1 : IntKind.i64.wrap ((n : Nat) : Int) = ((n : Nat) : Int) := by rw [IntWalk.i64_in _ (by omega)]
      have w2 : IntKind.i64.wrap (48 + ((n : Nat) : Int)) = 48 + ((n : Nat) : Int) := by rw [IntWalk.i64_in _ (by omega)]
      refine call_sem tt_ok Tryd.func24 rfl (by kernel_rfl) Tryd.ntmps24 Tryd.results24 ?_; conv => whnf
      repeat' (first | ((first | refine Sem.reg tt_ok ?_ | refine Sem.condS ?_ | refine Sem.regL tt_ok ?_ | refine Sem.skip tt_ok ?_ | refine Sem.exit tt_ok ?_ | refine Sem.ret tt_ok ?_ | refine BS_t (by assumption) ?_ | refine BS_f (by assumption) ?_ | refine (nthK_iff _ _).2 ⟨_, (by assumption), ?_⟩ | refine ⟨_, ⟨(by omega), (by assumption)⟩, ?_⟩ | refine And.intro (by first | decide | omega) ?_ | fail); conv => whnf) | refine Sem.seqS ?_ | refine Sem.block ?_ | fail)
      rw [w1, w2]
      refine hb.on ?_; conv => whnf
      repeat' (first | ((first | refine Sem.reg tt_ok ?_ | refine Sem.condS ?_ | refine Sem.regL tt_ok ?_ | refine Sem.skip tt_ok ?_ | refine Sem.exit tt_ok ?_ | refine Sem.ret tt_ok ?_ | refine BS_t (by assumption) ?_ | refine BS_f (by assumption) ?_ | refine (nthK_iff _ _).2 ⟨_, (by assumption), ?_⟩ | refine ⟨_, ⟨(by omega), (by assumption)⟩, ?_⟩ | refine And.intro (by first | decide | omega) ?_ | fail); conv => whnf) | refine Sem.seqS ?_ | refine Sem.block ?_ | fail)
      exact ⟨_, fun _ _ h => h, rfl, rfl⟩
    · have t1 : decide (((n : Nat) : Int) < 10) = false := by rw [decide_eq_false_iff_not]; omega
      have ih := digits_ok k (n / 10) G (by omega) (by omega)
      have hb := vbyte_ok (48 + ((n % 10 : Nat) : Int)) G (by omega) (by omega)
      have w3 : IntKind.u64.wrap (((n : Nat) : Int).tdiv 10) = ((n / 10 : Nat) : Int) := by rw [show ((n : Nat) : Int).tdiv 10 = ((n / 10 : Nat) : Int) from by rw [Int.tdiv_eq_ediv_of_nonneg (by omega)]; omega, IntWalk.u64_in _ (by omega)]
      have w4 : ((n : Nat) : Int).tmod 10 = ((n % 10 : Nat) : Int) := by rw [Int.tmod_eq_emod_of_nonneg (by omega)]; omega
      have w5 : IntKind.i64.wrap ((n % 10 : Nat) : Int) = ((n % 10 : Nat) : Int) := by rw [IntWalk.i64_in _ (by omega)]
      have w6 : IntKind.i64.wrap (48 + ((n % 10 : Nat) : Int)) = 48 + ((n % 10 : Nat) : Int) := by rw [IntWalk.i64_in _ (by omega)]
      have e : S (Lib.decDigits (n / 10)) ++ S [UInt8.ofNat (48 + ((n % 10 : Nat) : Int)).toNat] = S (Lib.decDigits n) := by
        rw [S_append, show (48 + ((n % 10 : Nat) : Int)).toNat = 48 + n % 10 by omega]
        congr 1
        rw [Lib.decDigits.eq_def n, dif_neg h10]
      have hl1 := vdec_le 19 (n / 10) (by omega)
      have hmx : IntKind.i64.max = 9223372036854775807 := rfl
      have z1 := S_size (Lib.decDigits (n / 10))
      have z2 := S_size [UInt8.ofNat (48 + ((n % 10 : Nat) : Int)).toNat]
      simp only [List.length_singleton] at z2
      refine call_sem tt_ok Tryd.func24 rfl (by kernel_rfl) Tryd.ntmps24 Tryd.results24 ?_; conv => whnf
      repeat' (first | ((first | refine Sem.reg tt_ok ?_ | refine Sem.condS ?_ | refine Sem.regL tt_ok ?_ | refine Sem.skip tt_ok ?_ | refine Sem.exit tt_ok ?_ | refine Sem.ret tt_ok ?_ | refine BS_t (by assumption) ?_ | refine BS_f (by assumption) ?_ | refine (nthK_iff _ _).2 ⟨_, (by assumption), ?_⟩ | refine ⟨_, ⟨(by omega), (by assumption)⟩, ?_⟩ | refine And.intro (by first | decide | omega) ?_ | fail); conv => whnf) | refine Sem.seqS ?_ | refine Sem.block ?_ | fail)
      rw [w3]
      refine ih.on ?_; conv => whnf
      repeat' (first | ((first | refine Sem.reg tt_ok ?_ | refine Sem.condS ?_ | refine Sem.regL tt_ok ?_ | refine Sem.skip tt_ok ?_ | refine Sem.exit tt_ok ?_ | refine Sem.ret tt_ok ?_ | refine BS_t (by assumption) ?_ | refine BS_f (by assumption) ?_ | refine (nthK_iff _ _).2 ⟨_, (by assumption), ?_⟩ | refine ⟨_, ⟨(by omega), (by assumption)⟩, ?_⟩ | refine And.intro (by first | decide | omega) ?_ | fail); conv => whnf) | refine Sem.seqS ?_ | refine Sem.block ?_ | fail)
      rw [w4, w5, w6]
      refine hb.on ?_; conv => whnf
      repeat' (first | ((first | refine Sem.reg tt_ok ?_ | refine Sem.condS ?_ | refine Sem.regL tt_ok ?_ | refine Sem.skip tt_ok ?_ | refine Sem.exit tt_ok ?_ | refine Sem.ret tt_ok ?_ | refine BS_t (by assumption) ?_ | refine BS_f (by assumption) ?_ | refine (nthK_iff _ _).2 ⟨_, (by assumption), ?_⟩ | refine ⟨_, ⟨(by omega), (by assumption)⟩, ?_⟩ | refine And.intro (by first | decide | omega) ?_ | fail); conv => whnf) | refine Sem.seqS ?_ | refine Sem.block ?_ | fail)
      exact ⟨_, fun _ _ h => h, congrArg AV.str e, rfl⟩
theorem signed_ok (n : Int) (G : Glob) (h0 : -9223372036854775808 ≤ n) (h1 : n ≤ 9223372036854775807) : CallOk Tryd.prog TT 23 [.int .i64 n] G (fun v G' => v = .str (S (Lib.itoa n)) ∧ G' = G) := by
  by_cases hn : n ≥ 0
  · have t1 : decide (n ≥ 0) = true := decide_eq_true hn
    have hd := digits_ok (n.toNat + 1) n.toNat G (by omega) (by omega)
    have e1 : Lib.itoa n = Lib.decDigits n.toNat := by unfold Lib.itoa; rw [if_neg (by omega)]
    have w1 : IntKind.u64.wrap n = ((n.toNat : Nat) : Int) := by rw [IntWalk.u64_in _ (by omega)]; omega
    rw [e1]
    refine call_sem tt_ok Tryd.func23 rfl (by kernel_rfl) Tryd.ntmps23 Tryd.results23 ?_; conv => whnf
    repeat' (first | ((first | refine Sem.reg tt_ok ?_ | refine Sem.condS ?_ | refine Sem.regL tt_ok ?_ | refine Sem.skip tt_ok ?_ | refine Sem.exit tt_ok ?_ | refine Sem.ret tt_ok ?_ | refine BS_t (by assumption) ?_ | refine BS_f (by assumption) ?_ | refine (nthK_iff _ _).2 ⟨_, (by assumption), ?_⟩ | refine ⟨_, ⟨(by omega), (by assumption)⟩, ?_⟩ | refine And.intro (by first | decide | omega) ?_ | fail); conv => whnf) | refine Sem.seqS ?_ | refine Sem.block ?_ | fail)
    rw [w1]
    refine hd.on ?_; conv => whnf
    repeat' (first | ((first | refine Sem.reg tt_ok ?_ | refine Sem.condS ?_ | refine Sem.regL tt_ok ?_ | refine Sem.skip tt_ok ?_ | refine Sem.exit tt_ok ?_ | refine Sem.ret tt_ok ?_ | refine BS_t (by assumption) ?_ | refine BS_f (by assumption) ?_ | refine (nthK_iff _ _).2 ⟨_, (by assumption), ?_⟩ | refine ⟨_, ⟨(by omega), (by assumption)⟩, ?_⟩ | refine And.intro (by first | decide | omega) ?_ | fail); conv => whnf) | refine Sem.seqS ?_ | refine Sem.block ?_ | fail)
    exact ⟨_, fun _ _ h => h, rfl, rfl⟩
  · have t1 : decide (n ≥ 0) = false := decide_eq_false hn
    have hd := digits_ok (n.natAbs + 1) n.natAbs G (by omega) (by omega)
    have e1 : Lib.itoa n = 45 :: Lib.decDigits n.natAbs := by unfold Lib.itoa; rw [if_pos (by omega)]
    have w1 : IntKind.i64.wrap (n + 1) = n + 1 := IntWalk.i64_in _ (by omega)
    have w2 : IntKind.i64.wrap (0 - (n + 1)) = -(n + 1) := by rw [IntWalk.i64_in _ (by omega)]; omega
    have w3 : IntKind.u64.wrap (-(n + 1)) = -(n + 1) := IntWalk.u64_in _ (by omega)
    have w4 : IntKind.u64.wrap (-(n + 1) + 1) = ((n.natAbs : Nat) : Int) := by rw [IntWalk.u64_in _ (by omega)]; omega
    have hl1 := vdec_le 19 n.natAbs (by omega)
    have z1 := S_size (Lib.decDigits n.natAbs)
    have e2 : (⟨#[45]⟩ : ByteArray) ++ S (Lib.decDigits n.natAbs) = S (Lib.itoa n) := by rw [show (⟨#[45]⟩ : ByteArray) = S [45] from rfl, S_append, e1]; rfl
    have z2 : (⟨#[45]⟩ : ByteArray).size = 1 := rfl
    have hmx : IntKind.i64.max = 9223372036854775807 := rfl
    refine call_sem tt_ok Tryd.func23 rfl (by kernel_rfl) Tryd.ntmps23 Tryd.results23 ?_; conv => whnf
    repeat' (first | ((first | refine Sem.reg tt_ok ?_ | refine Sem.condS ?_ | refine Sem.regL tt_ok ?_ | refine Sem.skip tt_ok ?_ | refine Sem.exit tt_ok ?_ | refine Sem.ret tt_ok ?_ | refine BS_t (by assumption) ?_ | refine BS_f (by assumption) ?_ | refine (nthK_iff _ _).2 ⟨_, (by assumption), ?_⟩ | refine ⟨_, ⟨(by omega), (by assumption)⟩, ?_⟩ | refine And.intro (by first | decide | omega) ?_ | fail); conv => whnf) | refine Sem.seqS ?_ | refine Sem.block ?_ | fail)
    rw [w1, w2, w3, w4]
    refine hd.on ?_; conv => whnf
    repeat' (first | ((first | refine Sem.reg tt_ok ?_ | refine Sem.condS ?_ | refine Sem.regL tt_ok ?_ | refine Sem.skip tt_ok ?_ | refine Sem.exit tt_ok ?_ | refine Sem.ret tt_ok ?_ | refine BS_t (by assumption) ?_ | refine BS_f (by assumption) ?_ | refine (nthK_iff _ _).2 ⟨_, (by assumption), ?_⟩ | refine ⟨_, ⟨(by omega), (by assumption)⟩, ?_⟩ | refine And.intro (by first | decide | omega) ?_ | fail); conv => whnf) | refine Sem.seqS ?_ | refine Sem.block ?_ | fail)
    exact ⟨_, fun _ _ h => h, congrArg AV.str e2, rfl⟩
theorem figure_ok (n : Nat) (hn : n < 16) (G : Glob) : CallOk Tryd.prog TT 47 [.int .i64 (n : Nat)] G (fun v G' => v = .str (S [fig n]) ∧ G' = G) := by
  by_cases h10 : n < 10
  · have t1 : decide (((n : Nat) : Int) < 10) = true := by rw [decide_eq_true_eq]; omega
    have hb := vbyte_ok (48 + ((n : Nat) : Int)) G (by omega) (by omega)
    have w1 : IntKind.i64.wrap (48 + ((n : Nat) : Int)) = 48 + ((n : Nat) : Int) := IntWalk.i64_in _ (by omega)
    rw [show UInt8.ofNat (48 + ((n : Nat) : Int)).toNat = fig n by unfold fig; rw [if_pos h10]; congr 1] at hb
    refine call_sem tt_ok Tryd.func47 rfl (by kernel_rfl) Tryd.ntmps47 Tryd.results47 ?_; conv => whnf
    repeat' (first | ((first | refine Sem.reg tt_ok ?_ | refine Sem.condS ?_ | refine Sem.regL tt_ok ?_ | refine Sem.skip tt_ok ?_ | refine Sem.exit tt_ok ?_ | refine Sem.ret tt_ok ?_ | refine BS_t (by assumption) ?_ | refine BS_f (by assumption) ?_ | refine (nthK_iff _ _).2 ⟨_, (by assumption), ?_⟩ | refine ⟨_, ⟨(by omega), (by assumption)⟩, ?_⟩ | refine And.intro (by first | decide | omega) ?_ | fail); conv => whnf) | refine Sem.seqS ?_ | refine Sem.block ?_ | fail)
    rw [w1]
    refine hb.on ?_; conv => whnf
    repeat' (first | ((first | refine Sem.reg tt_ok ?_ | refine Sem.condS ?_ | refine Sem.regL tt_ok ?_ | refine Sem.skip tt_ok ?_ | refine Sem.exit tt_ok ?_ | refine Sem.ret tt_ok ?_ | refine BS_t (by assumption) ?_ | refine BS_f (by assumption) ?_ | refine (nthK_iff _ _).2 ⟨_, (by assumption), ?_⟩ | refine ⟨_, ⟨(by omega), (by assumption)⟩, ?_⟩ | refine And.intro (by first | decide | omega) ?_ | fail); conv => whnf) | refine Sem.seqS ?_ | refine Sem.block ?_ | fail)
    exact ⟨_, fun _ _ h => h, rfl, rfl⟩
  · have t1 : decide (((n : Nat) : Int) < 10) = false := by rw [decide_eq_false_iff_not]; omega
    have hb := vbyte_ok (97 + ((n : Nat) : Int) - 10) G (by omega) (by omega)
    have w1 : IntKind.i64.wrap (97 + ((n : Nat) : Int)) = 97 + ((n : Nat) : Int) := IntWalk.i64_in _ (by omega)
    have w2 : IntKind.i64.wrap (97 + ((n : Nat) : Int) - 10) = 97 + ((n : Nat) : Int) - 10 := IntWalk.i64_in _ (by omega)
    rw [show UInt8.ofNat (97 + ((n : Nat) : Int) - 10).toNat = fig n by unfold fig; rw [if_neg h10]; congr 1; omega] at hb
    refine call_sem tt_ok Tryd.func47 rfl (by kernel_rfl) Tryd.ntmps47 Tryd.results47 ?_; conv => whnf
    repeat' (first | ((first | refine Sem.reg tt_ok ?_ | refine Sem.condS ?_ | refine Sem.regL tt_ok ?_ | refine Sem.skip tt_ok ?_ | refine Sem.exit tt_ok ?_ | refine Sem.ret tt_ok ?_ | refine BS_t (by assumption) ?_ | refine BS_f (by assumption) ?_ | refine (nthK_iff _ _).2 ⟨_, (by assumption), ?_⟩ | refine ⟨_, ⟨(by omega), (by assumption)⟩, ?_⟩ | refine And.intro (by first | decide | omega) ?_ | fail); conv => whnf) | refine Sem.seqS ?_ | refine Sem.block ?_ | fail)
    rw [w1, w2]
    refine hb.on ?_; conv => whnf
    repeat' (first | ((first | refine Sem.reg tt_ok ?_ | refine Sem.condS ?_ | refine Sem.regL tt_ok ?_ | refine Sem.skip tt_ok ?_ | refine Sem.exit tt_ok ?_ | refine Sem.ret tt_ok ?_ | refine BS_t (by assumption) ?_ | refine BS_f (by assumption) ?_ | refine (nthK_iff _ _).2 ⟨_, (by assumption), ?_⟩ | refine ⟨_, ⟨(by omega), (by assumption)⟩, ?_⟩ | refine And.intro (by first | decide | omega) ?_ | fail); conv => whnf) | refine Sem.seqS ?_ | refine Sem.block ?_ | fail)
    exact ⟨_, fun _ _ h => h, rfl, rfl⟩
theorem qc_len (c : UInt8) : (qc c).length ≤ 3 := by unfold qc; split <;> simp
theorem flatq_take (s : List UInt8) (k : Nat) (c : UInt8) (h : s[k]? = some c) : (s.take (k + 1)).flatMap qc = (s.take k).flatMap qc ++ qc c := by
  rw [List.take_add_one, h]; simp
theorem flatq_len (s : List UInt8) : (s.flatMap qc).length ≤ 3 * s.length := by
  induction s with
  | nil => simp
  | cons c r ih => have := qc_len c; simp only [List.flatMap_cons, List.length_append, List.length_cons]; omega
theorem flatq_le (s : List UInt8) (k : Nat) : ((s.take k).flatMap qc).length ≤ 3 * s.length := by
  have h1 := flatq_len (s.take k)
  have h2 : (s.take k).length ≤ s.length := by rw [List.length_take]; omega
  omega
theorem vbyteAt {s : List UInt8} {i : Nat} {c : UInt8} (h : s[i]? = some c) : byteAt (S s) ((i : Nat) : Int).toNat = ((c.toNat : Nat) : Int) := by
  unfold byteAt
  rw [Int.toNat_natCast, S_list, List.getD_eq_getElem?_getD, h]; rfl
set_option maxHeartbeats 1000000 in
theorem rquoted_ok (s : List UInt8) (hs : s.length ≤ 1000000000000) (G : Glob) : CallOk Tryd.prog TT 25 [.str (S s)] G (fun v G' => v = .str (S (quoteT s)) ∧ G' = G) := by
  have hsz := S_size s
  have hmx : IntKind.i64.max = 9223372036854775807 := rfl
  have hq := vbyte_ok 34 G (by omega) (by omega)
  have hbs := vbyte_ok 92 G (by omega) (by omega)
  rw [show UInt8.ofNat (34 : Int).toNat = 34 from rfl] at hq
  rw [show UInt8.ofNat (92 : Int).toNat = 92 from rfl] at hbs
  refine call_sem tt_ok Tryd.func25 rfl (by kernel_rfl) Tryd.ntmps25 Tryd.results25 ?_; conv => whnf
  repeat' (first | ((first | refine Sem.reg tt_ok ?_ | refine Sem.condS ?_ | refine Sem.regL tt_ok ?_ | refine Sem.skip tt_ok ?_ | refine Sem.exit tt_ok ?_ | refine Sem.ret tt_ok ?_ | refine BS_t (by assumption) ?_ | refine BS_f (by assumption) ?_ | refine (nthK_iff _ _).2 ⟨_, (by assumption), ?_⟩ | refine ⟨_, ⟨(by omega), (by assumption)⟩, ?_⟩ | refine And.intro (by first | decide | omega) ?_ | fail); conv => whnf) | refine Sem.seqS ?_ | refine Sem.block ?_ | fail)
  refine hq.on ?_; conv => whnf
  repeat' (first | ((first | refine Sem.reg tt_ok ?_ | refine Sem.condS ?_ | refine Sem.regL tt_ok ?_ | refine Sem.skip tt_ok ?_ | refine Sem.exit tt_ok ?_ | refine Sem.ret tt_ok ?_ | refine BS_t (by assumption) ?_ | refine BS_f (by assumption) ?_ | refine (nthK_iff _ _).2 ⟨_, (by assumption), ?_⟩ | refine ⟨_, ⟨(by omega), (by assumption)⟩, ?_⟩ | refine And.intro (by first | decide | omega) ?_ | fail); conv => whnf) | refine Sem.seqS ?_ | refine Sem.block ?_ | fail)
  refine Sem.loop (ι := {k : Nat // k ≤ s.length}) (fun x => ⟨(.str (S s) :: .top :: .top :: .str (S (34 :: (s.take x.1).flatMap qc)) :: .int .i64 (x.1 : Nat) :: .top :: .top :: .top :: .top :: .top :: .top :: .top :: .top :: .top :: .top :: .top :: .top :: .top :: .top :: .top :: .top :: .top :: .top :: .top :: .top :: .top :: .top :: .top :: .top :: .top :: .top :: .top :: .top :: .top :: .top :: .top :: .top :: .top :: .top :: .top :: .top :: .top :: .top :: .top :: .top :: .top :: .top :: .top :: .top :: .top :: .top :: .top :: []), [], 0, 0, G⟩) (fun x => s.length - x.1) ⟨0, Nat.zero_le _⟩ ?_ (fun x => ?_)
  · refine weak_by [] ?_; (conv => whnf); repeat (first | (refine And.intro rfl ?_; conv => whnf) | fail)
    exact ⟨fun i y hy => hy, rfl, by decide, rfl, rfl⟩
  obtain ⟨k, hk⟩ := x
  simp only
  have hle := flatq_le s k
  by_cases hlt : k < s.length
  · obtain ⟨c, hc⟩ : ∃ c, s[k]? = some c := ⟨_, List.getElem?_eq_getElem hlt⟩
    have tl : decide (((k : Nat) : Int) < ((S s).size : Nat)) = true := by rw [hsz, decide_eq_true_eq]; omega
    have hft := flatq_take s k c hc
    have hle2 := flatq_le s (k + 1)
    have hi : IntKind.i64.wrap ((k : Int) + 1) = ((k + 1 : Nat) : Int) := by rw [IntWalk.i64_in _ (by omega)]; omega
    have hcb := c.toNat_lt
    have hba := vbyteAt hc
    have hwb : IntKind.i64.wrap ((c.toNat : Nat) : Int) = ((c.toNat : Nat) : Int) := IntWalk.i64_in _ (by omega)
    have zk := S_size (34 :: (s.take k).flatMap qc)
    simp only [List.length_cons] at zk
    have z92 : (S [92]).size = 1 := rfl
    have zf1 : (S [fig (c.toNat / 16)]).size = 1 := rfl
    have zf2 : (S [fig (c.toNat % 16)]).size = 1 := rfl
    have zz1 : (S [92] ++ S [fig (c.toNat / 16)]).size = 2 := by rw [ByteArray.size_append]; rfl
    have zz2 : (S [92] ++ S [fig (c.toNat / 16)] ++ S [fig (c.toNat % 16)]).size = 3 := by rw [ByteArray.size_append, ByteArray.size_append]; rfl
    have hf1 := figure_ok (c.toNat / 16) (by omega) G
    have hf2 := figure_ok (c.toNat % 16) (by omega) G
    have wq : IntKind.i64.wrap (((c.toNat : Nat) : Int).tdiv 16) = ((c.toNat / 16 : Nat) : Int) := by rw [show ((c.toNat : Nat) : Int).tdiv 16 = ((c.toNat / 16 : Nat) : Int) from by rw [Int.tdiv_eq_ediv_of_nonneg (by omega)]; omega, IntWalk.i64_in _ (by omega)]
    have wr : ((c.toNat : Nat) : Int).tmod 16 = ((c.toNat % 16 : Nat) : Int) := by rw [Int.tmod_eq_emod_of_nonneg (by omega)]; omega
    have ee : (c.toNat < 32 ∨ c.toNat = 34 ∨ c.toNat = 92 ∨ 126 < c.toNat) → S (34 :: (s.take k).flatMap qc) ++ (S [92] ++ S [fig (c.toNat / 16)] ++ S [fig (c.toNat % 16)]) = S (34 :: (s.take (k + 1)).flatMap qc) := fun h => by
      rw [S_append, S_append, S_append, hft]
      unfold qc
      rw [if_pos h]
      rfl
    by_cases a1 : c.toNat < 32
    · have t1 : decide (((c.toNat : Nat) : Int) < 32) = true := by rw [decide_eq_true_eq]; omega
      have ee := ee (.inl a1)
      repeat' (first | ((first | refine Sem.reg tt_ok ?_ | refine Sem.condS ?_ | refine Sem.regL tt_ok ?_ | refine Sem.skip tt_ok ?_ | refine Sem.exit tt_ok ?_ | refine Sem.ret tt_ok ?_ | refine BS_t (by assumption) ?_ | refine BS_f (by assumption) ?_ | refine (nthK_iff _ _).2 ⟨_, (by assumption), ?_⟩ | refine ⟨_, ⟨(by omega), (by assumption)⟩, ?_⟩ | refine And.intro (by first | decide | omega) ?_ | fail); conv => whnf) | refine Sem.seqS ?_ | refine Sem.block ?_ | fail)
      rw [hba, hwb]
      conv => whnf
      repeat' (first | ((first | refine Sem.reg tt_ok ?_ | refine Sem.condS ?_ | refine Sem.regL tt_ok ?_ | refine Sem.skip tt_ok ?_ | refine Sem.exit tt_ok ?_ | refine Sem.ret tt_ok ?_ | refine BS_t (by assumption) ?_ | refine BS_f (by assumption) ?_ | refine (nthK_iff _ _).2 ⟨_, (by assumption), ?_⟩ | refine ⟨_, ⟨(by omega), (by assumption)⟩, ?_⟩ | refine And.intro (by first | decide | omega) ?_ | fail); conv => whnf) | refine Sem.seqS ?_ | refine Sem.block ?_ | fail)
      refine hbs.on ?_; conv => whnf
      repeat' (first | ((first | refine Sem.reg tt_ok ?_ | refine Sem.condS ?_ | refine Sem.regL tt_ok ?_ | refine Sem.skip tt_ok ?_ | refine Sem.exit tt_ok ?_ | refine Sem.ret tt_ok ?_ | refine BS_t (by assumption) ?_ | refine BS_f (by assumption) ?_ | refine (nthK_iff _ _).2 ⟨_, (by assumption), ?_⟩ | refine ⟨_, ⟨(by omega), (by assumption)⟩, ?_⟩ | refine And.intro (by first | decide | omega) ?_ | fail); conv => whnf) | refine Sem.seqS ?_ | refine Sem.block ?_ | fail)
      rw [wq]
      refine hf1.on ?_; conv => whnf
      repeat' (first | ((first | refine Sem.reg tt_ok ?_ | refine Sem.condS ?_ | refine Sem.regL tt_ok ?_ | refine Sem.skip tt_ok ?_ | refine Sem.exit tt_ok ?_ | refine Sem.ret tt_ok ?_ | refine BS_t (by assumption) ?_ | refine BS_f (by assumption) ?_ | refine (nthK_iff _ _).2 ⟨_, (by assumption), ?_⟩ | refine ⟨_, ⟨(by omega), (by assumption)⟩, ?_⟩ | refine And.intro (by first | decide | omega) ?_ | fail); conv => whnf) | refine Sem.seqS ?_ | refine Sem.block ?_ | fail)
      rw [wr]
      refine hf2.on ?_; conv => whnf
      repeat' (first | ((first | refine Sem.reg tt_ok ?_ | refine Sem.condS ?_ | refine Sem.regL tt_ok ?_ | refine Sem.skip tt_ok ?_ | refine Sem.exit tt_ok ?_ | refine Sem.ret tt_ok ?_ | refine BS_t (by assumption) ?_ | refine BS_f (by assumption) ?_ | refine (nthK_iff _ _).2 ⟨_, (by assumption), ?_⟩ | refine ⟨_, ⟨(by omega), (by assumption)⟩, ?_⟩ | refine And.intro (by first | decide | omega) ?_ | fail); conv => whnf) | refine Sem.seqS ?_ | refine Sem.block ?_ | fail)
      refine ⟨⟨k + 1, by omega⟩, by show s.length - (k + 1) < s.length - k; omega, ?_⟩
      refine weak_by [] ?_; (conv => whnf); repeat (first | (refine And.intro rfl ?_; conv => whnf) | fail)
      refine And.intro ee ?_
      refine And.intro hi ?_
      (conv => whnf); repeat (first | (refine And.intro rfl ?_; conv => whnf) | fail)
      exact ⟨fun i y hy => hy, rfl, by decide, rfl, rfl⟩
    have t1 : decide (((c.toNat : Nat) : Int) < 32) = false := by rw [decide_eq_false_iff_not]; omega
    by_cases a2 : c.toNat = 34
    · have t2 : (((c.toNat : Nat) : Int) == 34) = true := by rw [beq_iff_eq]; omega
      have ee := ee (.inr (.inl a2))
      repeat' (first | ((first | refine Sem.reg tt_ok ?_ | refine Sem.condS ?_ | refine Sem.regL tt_ok ?_ | refine Sem.skip tt_ok ?_ | refine Sem.exit tt_ok ?_ | refine Sem.ret tt_ok ?_ | refine BS_t (by assumption) ?_ | refine BS_f (by assumption) ?_ | refine (nthK_iff _ _).2 ⟨_, (by assumption), ?_⟩ | refine ⟨_, ⟨(by omega), (by assumption)⟩, ?_⟩ | refine And.intro (by first | decide | omega) ?_ | fail); conv => whnf) | refine Sem.seqS ?_ | refine Sem.block ?_ | fail)
      rw [hba, hwb]
      conv => whnf
      repeat' (first | ((first | refine Sem.reg tt_ok ?_ | refine Sem.condS ?_ | refine Sem.regL tt_ok ?_ | refine Sem.skip tt_ok ?_ | refine Sem.exit tt_ok ?_ | refine Sem.ret tt_ok ?_ | refine BS_t (by assumption) ?_ | refine BS_f (by assumption) ?_ | refine (nthK_iff _ _).2 ⟨_, (by assumption), ?_⟩ | refine ⟨_, ⟨(by omega), (by assumption)⟩, ?_⟩ | refine And.intro (by first | decide | omega) ?_ | fail); conv => whnf) | refine Sem.seqS ?_ | refine Sem.block ?_ | fail)
      refine hbs.on ?_; conv => whnf
      repeat' (first | ((first | refine Sem.reg tt_ok ?_ | refine Sem.condS ?_ | refine Sem.regL tt_ok ?_ | refine Sem.skip tt_ok ?_ | refine Sem.exit tt_ok ?_ | refine Sem.ret tt_ok ?_ | refine BS_t (by assumption) ?_ | refine BS_f (by assumption) ?_ | refine (nthK_iff _ _).2 ⟨_, (by assumption), ?_⟩ | refine ⟨_, ⟨(by omega), (by assumption)⟩, ?_⟩ | refine And.intro (by first | decide | omega) ?_ | fail); conv => whnf) | refine Sem.seqS ?_ | refine Sem.block ?_ | fail)
      rw [wq]
      refine hf1.on ?_; conv => whnf
      repeat' (first | ((first | refine Sem.reg tt_ok ?_ | refine Sem.condS ?_ | refine Sem.regL tt_ok ?_ | refine Sem.skip tt_ok ?_ | refine Sem.exit tt_ok ?_ | refine Sem.ret tt_ok ?_ | refine BS_t (by assumption) ?_ | refine BS_f (by assumption) ?_ | refine (nthK_iff _ _).2 ⟨_, (by assumption), ?_⟩ | refine ⟨_, ⟨(by omega), (by assumption)⟩, ?_⟩ | refine And.intro (by first | decide | omega) ?_ | fail); conv => whnf) | refine Sem.seqS ?_ | refine Sem.block ?_ | fail)
      rw [wr]
      refine hf2.on ?_; conv => whnf
      repeat' (first | ((first | refine Sem.reg tt_ok ?_ | refine Sem.condS ?_ | refine Sem.regL tt_ok ?_ | refine Sem.skip tt_ok ?_ | refine Sem.exit tt_ok ?_ | refine Sem.ret tt_ok ?_ | refine BS_t (by assumption) ?_ | refine BS_f (by assumption) ?_ | refine (nthK_iff _ _).2 ⟨_, (by assumption), ?_⟩ | refine ⟨_, ⟨(by omega), (by assumption)⟩, ?_⟩ | refine And.intro (by first | decide | omega) ?_ | fail); conv => whnf) | refine Sem.seqS ?_ | refine Sem.block ?_ | fail)
      refine ⟨⟨k + 1, by omega⟩, by show s.length - (k + 1) < s.length - k; omega, ?_⟩
      refine weak_by [] ?_; (conv => whnf); repeat (first | (refine And.intro rfl ?_; conv => whnf) | fail)
      refine And.intro ee ?_
      refine And.intro hi ?_
      (conv => whnf); repeat (first | (refine And.intro rfl ?_; conv => whnf) | fail)
      exact ⟨fun i y hy => hy, rfl, by decide, rfl, rfl⟩
    have t2 : (((c.toNat : Nat) : Int) == 34) = false := by rw [beq_eq_false_iff_ne]; omega
    by_cases a3 : c.toNat = 92
    · have t3 : (((c.toNat : Nat) : Int) == 92) = true := by rw [beq_iff_eq]; omega
      have ee := ee (.inr (.inr (.inl a3)))
      repeat' (first | ((first | refine Sem.reg tt_ok ?_ | refine Sem.condS ?_ | refine Sem.regL tt_ok ?_ | refine Sem.skip tt_ok ?_ | refine Sem.exit tt_ok ?_ | refine Sem.ret tt_ok ?_ | refine BS_t (by assumption) ?_ | refine BS_f (by assumption) ?_ | refine (nthK_iff _ _).2 ⟨_, (by assumption), ?_⟩ | refine ⟨_, ⟨(by omega), (by assumption)⟩, ?_⟩ | refine And.intro (by first | decide | omega) ?_ | fail); conv => whnf) | refine Sem.seqS ?_ | refine Sem.block ?_ | fail)
      rw [hba, hwb]
      conv => whnf
      repeat' (first | ((first | refine Sem.reg tt_ok ?_ | refine Sem.condS ?_ | refine Sem.regL tt_ok ?_ | refine Sem.skip tt_ok ?_ | refine Sem.exit tt_ok ?_ | refine Sem.ret tt_ok ?_ | refine BS_t (by assumption) ?_ | refine BS_f (by assumption) ?_ | refine (nthK_iff _ _).2 ⟨_, (by assumption), ?_⟩ | refine ⟨_, ⟨(by omega), (by assumption)⟩, ?_⟩ | refine And.intro (by first | decide | omega) ?_ | fail); conv => whnf) | refine Sem.seqS ?_ | refine Sem.block ?_ | fail)
      refine hbs.on ?_; conv => whnf
      repeat' (first | ((first | refine Sem.reg tt_ok ?_ | refine Sem.condS ?_ | refine Sem.regL tt_ok ?_ | refine Sem.skip tt_ok ?_ | refine Sem.exit tt_ok ?_ | refine Sem.ret tt_ok ?_ | refine BS_t (by assumption) ?_ | refine BS_f (by assumption) ?_ | refine (nthK_iff _ _).2 ⟨_, (by assumption), ?_⟩ | refine ⟨_, ⟨(by omega), (by assumption)⟩, ?_⟩ | refine And.intro (by first | decide | omega) ?_ | fail); conv => whnf) | refine Sem.seqS ?_ | refine Sem.block ?_ | fail)
      rw [wq]
      refine hf1.on ?_; conv => whnf
      repeat' (first | ((first | refine Sem.reg tt_ok ?_ | refine Sem.condS ?_ | refine Sem.regL tt_ok ?_ | refine Sem.skip tt_ok ?_ | refine Sem.exit tt_ok ?_ | refine Sem.ret tt_ok ?_ | refine BS_t (by assumption) ?_ | refine BS_f (by assumption) ?_ | refine (nthK_iff _ _).2 ⟨_, (by assumption), ?_⟩ | refine ⟨_, ⟨(by omega), (by assumption)⟩, ?_⟩ | refine And.intro (by first | decide | omega) ?_ | fail); conv => whnf) | refine Sem.seqS ?_ | refine Sem.block ?_ | fail)
      rw [wr]
      refine hf2.on ?_; conv => whnf
      repeat' (first | ((first | refine Sem.reg tt_ok ?_ | refine Sem.condS ?_ | refine Sem.regL tt_ok ?_ | refine Sem.skip tt_ok ?_ | refine Sem.exit tt_ok ?_ | refine Sem.ret tt_ok ?_ | refine BS_t (by assumption) ?_ | refine BS_f (by assumption) ?_ | refine (nthK_iff _ _).2 ⟨_, (by assumption), ?_⟩ | refine ⟨_, ⟨(by omega), (by assumption)⟩, ?_⟩ | refine And.intro (by first | decide | omega) ?_ | fail); conv => whnf) | refine Sem.seqS ?_ | refine Sem.block ?_ | fail)
      refine ⟨⟨k + 1, by omega⟩, by show s.length - (k + 1) < s.length - k; omega, ?_⟩
      refine weak_by [] ?_; (conv => whnf); repeat (first | (refine And.intro rfl ?_; conv => whnf) | fail)
      refine And.intro ee ?_
      refine And.intro hi ?_
      (conv => whnf); repeat (first | (refine And.intro rfl ?_; conv => whnf) | fail)
      exact ⟨fun i y hy => hy, rfl, by decide, rfl, rfl⟩
    have t3 : (((c.toNat : Nat) : Int) == 92) = false := by rw [beq_eq_false_iff_ne]; omega
    by_cases a4 : 126 < c.toNat
    · have t4 : decide (((c.toNat : Nat) : Int) > 126) = true := by rw [decide_eq_true_eq]; omega
      have ee := ee (.inr (.inr (.inr a4)))
      repeat' (first | ((first | refine Sem.reg tt_ok ?_ | refine Sem.condS ?_ | refine Sem.regL tt_ok ?_ | refine Sem.skip tt_ok ?_ | refine Sem.exit tt_ok ?_ | refine Sem.ret tt_ok ?_ | refine BS_t (by assumption) ?_ | refine BS_f (by assumption) ?_ | refine (nthK_iff _ _).2 ⟨_, (by assumption), ?_⟩ | refine ⟨_, ⟨(by omega), (by assumption)⟩, ?_⟩ | refine And.intro (by first | decide | omega) ?_ | fail); conv => whnf) | refine Sem.seqS ?_ | refine Sem.block ?_ | fail)
      rw [hba, hwb]
      conv => whnf
      repeat' (first | ((first | refine Sem.reg tt_ok ?_ | refine Sem.condS ?_ | refine Sem.regL tt_ok ?_ | refine Sem.skip tt_ok ?_ | refine Sem.exit tt_ok ?_ | refine Sem.ret tt_ok ?_ | refine BS_t (by assumption) ?_ | refine BS_f (by assumption) ?_ | refine (nthK_iff _ _).2 ⟨_, (by assumption), ?_⟩ | refine ⟨_, ⟨(by omega), (by assumption)⟩, ?_⟩ | refine And.intro (by first | decide | omega) ?_ | fail); conv => whnf) | refine Sem.seqS ?_ | refine Sem.block ?_ | fail)
      refine hbs.on ?_; conv => whnf
      repeat' (first | ((first | refine Sem.reg tt_ok ?_ | refine Sem.condS ?_ | refine Sem.regL tt_ok ?_ | refine Sem.skip tt_ok ?_ | refine Sem.exit tt_ok ?_ | refine Sem.ret tt_ok ?_ | refine BS_t (by assumption) ?_ | refine BS_f (by assumption) ?_ | refine (nthK_iff _ _).2 ⟨_, (by assumption), ?_⟩ | refine ⟨_, ⟨(by omega), (by assumption)⟩, ?_⟩ | refine And.intro (by first | decide | omega) ?_ | fail); conv => whnf) | refine Sem.seqS ?_ | refine Sem.block ?_ | fail)
      rw [wq]
      refine hf1.on ?_; conv => whnf
      repeat' (first | ((first | refine Sem.reg tt_ok ?_ | refine Sem.condS ?_ | refine Sem.regL tt_ok ?_ | refine Sem.skip tt_ok ?_ | refine Sem.exit tt_ok ?_ | refine Sem.ret tt_ok ?_ | refine BS_t (by assumption) ?_ | refine BS_f (by assumption) ?_ | refine (nthK_iff _ _).2 ⟨_, (by assumption), ?_⟩ | refine ⟨_, ⟨(by omega), (by assumption)⟩, ?_⟩ | refine And.intro (by first | decide | omega) ?_ | fail); conv => whnf) | refine Sem.seqS ?_ | refine Sem.block ?_ | fail)
      rw [wr]
      refine hf2.on ?_; conv => whnf
      repeat' (first | ((first | refine Sem.reg tt_ok ?_ | refine Sem.condS ?_ | refine Sem.regL tt_ok ?_ | refine Sem.skip tt_ok ?_ | refine Sem.exit tt_ok ?_ | refine Sem.ret tt_ok ?_ | refine BS_t (by assumption) ?_ | refine BS_f (by assumption) ?_ | refine (nthK_iff _ _).2 ⟨_, (by assumption), ?_⟩ | refine ⟨_, ⟨(by omega), (by assumption)⟩, ?_⟩ | refine And.intro (by first | decide | omega) ?_ | fail); conv => whnf) | refine Sem.seqS ?_ | refine Sem.block ?_ | fail)
      refine ⟨⟨k + 1, by omega⟩, by show s.length - (k + 1) < s.length - k; omega, ?_⟩
      refine weak_by [] ?_; (conv => whnf); repeat (first | (refine And.intro rfl ?_; conv => whnf) | fail)
      refine And.intro ee ?_
      refine And.intro hi ?_
      (conv => whnf); repeat (first | (refine And.intro rfl ?_; conv => whnf) | fail)
      exact ⟨fun i y hy => hy, rfl, by decide, rfl, rfl⟩
    have t4 : decide (((c.toNat : Nat) : Int) > 126) = false := by rw [decide_eq_false_iff_not]; omega
    have hcut : ((S s).extract ((k : Nat) : Int).toNat ((k + 1 : Nat) : Int).toNat) = S [c] := by
      rw [Int.toNat_natCast, Int.toNat_natCast, S_extract, show k + 1 - k = 1 by omega]
      obtain ⟨h1, h2⟩ := List.getElem?_eq_some_iff.1 hc
      rw [List.drop_eq_getElem_cons h1, h2]
      rfl
    have ep : S (34 :: (s.take k).flatMap qc) ++ S [c] = S (34 :: (s.take (k + 1)).flatMap qc) := by
      rw [S_append, hft]
      unfold qc
      rw [if_neg (by omega)]
      rfl
    have zc : (S [c]).size = 1 := rfl
    have zx : ((S s).extract ((k : Nat) : Int).toNat ((k + 1 : Nat) : Int).toNat).size = 1 := by rw [hcut]; rfl
    repeat' (first | ((first | refine Sem.reg tt_ok ?_ | refine Sem.condS ?_ | refine Sem.regL tt_ok ?_ | refine Sem.skip tt_ok ?_ | refine Sem.exit tt_ok ?_ | refine Sem.ret tt_ok ?_ | refine BS_t (by assumption) ?_ | refine BS_f (by assumption) ?_ | refine (nthK_iff _ _).2 ⟨_, (by assumption), ?_⟩ | refine ⟨_, ⟨(by omega), (by assumption)⟩, ?_⟩ | refine And.intro (by first | decide | omega) ?_ | fail); conv => whnf) | refine Sem.seqS ?_ | refine Sem.block ?_ | fail)
    rw [hba, hwb]
    conv => whnf
    repeat' (first | ((first | refine Sem.reg tt_ok ?_ | refine Sem.condS ?_ | refine Sem.regL tt_ok ?_ | refine Sem.skip tt_ok ?_ | refine Sem.exit tt_ok ?_ | refine Sem.ret tt_ok ?_ | refine BS_t (by assumption) ?_ | refine BS_f (by assumption) ?_ | refine (nthK_iff _ _).2 ⟨_, (by assumption), ?_⟩ | refine ⟨_, ⟨(by omega), (by assumption)⟩, ?_⟩ | refine And.intro (by first | decide | omega) ?_ | fail); conv => whnf) | refine Sem.seqS ?_ | refine Sem.block ?_ | fail)
    rw [hi]
    repeat' (first | ((first | refine Sem.reg tt_ok ?_ | refine Sem.condS ?_ | refine Sem.regL tt_ok ?_ | refine Sem.skip tt_ok ?_ | refine Sem.exit tt_ok ?_ | refine Sem.ret tt_ok ?_ | refine BS_t (by assumption) ?_ | refine BS_f (by assumption) ?_ | refine (nthK_iff _ _).2 ⟨_, (by assumption), ?_⟩ | refine ⟨_, ⟨(by omega), (by assumption)⟩, ?_⟩ | refine And.intro (by first | decide | omega) ?_ | fail); conv => whnf) | refine Sem.seqS ?_ | refine Sem.block ?_ | fail)
    refine ⟨⟨k + 1, by omega⟩, by show s.length - (k + 1) < s.length - k; omega, ?_⟩
    refine weak_by [] ?_; (conv => whnf); repeat (first | (refine And.intro rfl ?_; conv => whnf) | fail)
    refine And.intro (by rw [hcut]; exact ep) ?_
    refine And.intro hi ?_
    (conv => whnf); repeat (first | (refine And.intro rfl ?_; conv => whnf) | fail)
    exact ⟨fun i y hy => hy, rfl, by decide, rfl, rfl⟩
  · have hk' : k = s.length := by omega
    subst hk'
    have tl : decide (((s.length : Nat) : Int) < ((S s).size : Nat)) = false := by rw [hsz, decide_eq_false_iff_not]; omega
    rw [List.take_length] at *
    have z1 := S_size (34 :: s.flatMap qc)
    have z2 : (S [34]).size = 1 := rfl
    have e : S (34 :: s.flatMap qc) ++ S [34] = S (quoteT s) := by rw [S_append]; rfl
    simp only [List.length_cons] at z1
    repeat' (first | ((first | refine Sem.reg tt_ok ?_ | refine Sem.condS ?_ | refine Sem.regL tt_ok ?_ | refine Sem.skip tt_ok ?_ | refine Sem.exit tt_ok ?_ | refine Sem.ret tt_ok ?_ | refine BS_t (by assumption) ?_ | refine BS_f (by assumption) ?_ | refine (nthK_iff _ _).2 ⟨_, (by assumption), ?_⟩ | refine ⟨_, ⟨(by omega), (by assumption)⟩, ?_⟩ | refine And.intro (by first | decide | omega) ?_ | fail); conv => whnf) | refine Sem.seqS ?_ | refine Sem.block ?_ | fail)
    refine hq.on ?_; conv => whnf
    repeat' (first | ((first | refine Sem.reg tt_ok ?_ | refine Sem.condS ?_ | refine Sem.regL tt_ok ?_ | refine Sem.skip tt_ok ?_ | refine Sem.exit tt_ok ?_ | refine Sem.ret tt_ok ?_ | refine BS_t (by assumption) ?_ | refine BS_f (by assumption) ?_ | refine (nthK_iff _ _).2 ⟨_, (by assumption), ?_⟩ | refine ⟨_, ⟨(by omega), (by assumption)⟩, ?_⟩ | refine And.intro (by first | decide | omega) ?_ | fail); conv => whnf) | refine Sem.seqS ?_ | refine Sem.block ?_ | fail)
    exact ⟨_, fun _ _ h => h, congrArg AV.str e, rfl⟩
end Go.Proofs.YtgedlbfdhekdgaaDoor
