/- PartSteps. Printed by genptp.py. -/
import Derived.Test.YtpihanlillbhkaaGreatDoorPtL
import Derived.Test.YtpihanlillbhkaaGreatDoorGu
set_option maxRecDepth 100000
set_option linter.unusedSimpArgs false
set_option linter.unusedVariables false
namespace Go.Proofs.YtpihanlillbhkaaGreatDoor
open Go Go.RowKit Go.Proofs

theorem ptx_new {G : Glob} {b : Nat} (h : G b = some (.cells [.nilm, .int .i64 0, .nilm, .int .i64 0, .nilm, .int .i64 0, .nilm, .int .i64 0])) : PtX G b ⟨[], [], [], []⟩ :=
  ⟨⟨[], [], [], []⟩, ⟨.nilm, .nilm, .nilm, .nilm⟩, ⟨h, .inl ⟨rfl, rfl⟩, .inl ⟨rfl, rfl⟩, ⟨⟨h, .inl ⟨rfl, rfl⟩⟩, List.nodup_nil, fun e he => by (cases he), fun e he => by (cases he)⟩, .inl ⟨rfl, rfl⟩, fun i e => by (cases e), fun i e => by (cases e), fun i e => by (cases e), fun i e => by (cases e), fun i e => by (cases e), fun i e => by (cases e)⟩,
    ⟨⟨List.nodup_nil, .refl _, .nil⟩, CInv.nil, FInv.nil, ⟨List.nodup_nil, .refl _, .nil⟩, fun x hx => by (cases hx)⟩⟩
structure PSt (l : List St31) (b : Nat) (G0 : Glob) where
  i : Nat
  hi : i ≤ l.length
  G : Glob
  q : PQ
  X : PtX G b q
  pin : PinK G0 G
  sz : q.size ≤ 56 * i + zws (l.take i)
  cn : q.cn.length ≤ i
set_option maxHeartbeats 16000000 in
theorem partSteps_ok (l : List St31) (hl : l.length ≤ 9223372036854775807) (hs : ∀ x ∈ l, x.In ∧ x.name.size ≤ 140737488351232 ∧ x.text.size ≤ 140737488351232) {G0 : Glob} (hP : PowOk G0) : CallOk Tryz.prog TT 3 [.slc 37 (l.map St31.av)] G0 (fun v G' => v = .bool true ∧ PinK G0 G') := by
  have hm := much31_ok l G0 hl fun x hx => (hs x hx).2
  cases hmu : (decide ((l.length : Int) > 60) || decide (muchP l 0 > 10000)) with
  | true =>
    rw [hmu] at hm
    refine call_sem tt_ok Tryz.func3 rfl (by kernel_rfl) Tryz.ntmps3 Tryz.results3 ?_; conv => whnf
    repeat' (first | ((first | refine Sem.st tt_ok rfl ?_ | refine BS_t (by assumption) ?_ | refine BS_f (by assumption) ?_ | refine nthKi (by assumption) ?_ | refine ⟨_, ⟨(by omega), (by assumption)⟩, ?_⟩ | refine And.intro (by first | decide | omega) ?_); conv => whnf) | refine Sem.seqS ?_ | refine Sem.block ?_)
    refine hm.on ?_; conv => whnf
    repeat' (first | ((first | refine Sem.st tt_ok rfl ?_ | refine BS_t (by assumption) ?_ | refine BS_f (by assumption) ?_ | refine nthKi (by assumption) ?_ | refine ⟨_, ⟨(by omega), (by assumption)⟩, ?_⟩ | refine And.intro (by first | decide | omega) ?_); conv => whnf) | refine Sem.seqS ?_ | refine Sem.block ?_)
    refine (awake31_ok G0).mono fun v G1 hv => ?_
    obtain ⟨rfl, hsub⟩ := hv
    conv => whnf
    repeat' (first | ((first | refine Sem.st tt_ok rfl ?_ | refine BS_t (by assumption) ?_ | refine BS_f (by assumption) ?_ | refine nthKi (by assumption) ?_ | refine ⟨_, ⟨(by omega), (by assumption)⟩, ?_⟩ | refine And.intro (by first | decide | omega) ?_); conv => whnf) | refine Sem.seqS ?_ | refine Sem.block ?_)
    exact ⟨_, fun _ _ h => h, rfl, fun i k o hi => hsub _ _ hi⟩
  | false =>
    rw [hmu] at hm
    have h60 : l.length ≤ 60 := by simp at hmu; omega
    have hzw : zws l ≤ 10000 := by have := muchP_le l 0 (by decide) (by simp at hmu; omega); omega
    refine call_sem tt_ok Tryz.func3 rfl (by kernel_rfl) Tryz.ntmps3 Tryz.results3 ?_; conv => whnf
    repeat' (first | ((first | refine Sem.st tt_ok rfl ?_ | refine BS_t (by assumption) ?_ | refine BS_f (by assumption) ?_ | refine nthKi (by assumption) ?_ | refine ⟨_, ⟨(by omega), (by assumption)⟩, ?_⟩ | refine And.intro (by first | decide | omega) ?_); conv => whnf) | refine Sem.seqS ?_ | refine Sem.block ?_)
    refine hm.on ?_; conv => whnf
    repeat' (first | ((first | refine Sem.st tt_ok rfl ?_ | refine BS_t (by assumption) ?_ | refine BS_f (by assumption) ?_ | refine nthKi (by assumption) ?_ | refine ⟨_, ⟨(by omega), (by assumption)⟩, ?_⟩ | refine And.intro (by first | decide | omega) ?_); conv => whnf) | refine Sem.seqS ?_ | refine Sem.block ?_)
    refine (pnew_ok G0).mono fun v G1 hv => ?_
    obtain ⟨b, hb, rfl, rfl⟩ := hv
    conv => whnf
    repeat' (first | ((first | refine Sem.st tt_ok rfl ?_ | refine BS_t (by assumption) ?_ | refine BS_f (by assumption) ?_ | refine nthKi (by assumption) ?_ | refine ⟨_, ⟨(by omega), (by assumption)⟩, ?_⟩ | refine And.intro (by first | decide | omega) ?_); conv => whnf) | refine Sem.seqS ?_ | refine Sem.block ?_)
    refine Sem.loop (ι := PSt l b G0) (fun s => ⟨(.slc 37 (l.map St31.av) :: .top :: .bool false :: .gptr b 0 :: .lptr 0 0 :: .int .i64 (s.i : Nat) :: .top :: .top :: .top :: .top :: .top :: .top :: .top :: .top :: .top :: .top :: .top :: .top :: .top :: .top :: .top :: .top :: .top :: .top :: .top :: .top :: .top :: .top :: .top :: .top :: .top :: .top :: .top :: .top :: .top :: .top :: .top :: .top :: .top :: .top :: .top :: .top :: .top :: .top :: .top :: .top :: .top :: .top :: .top :: .top :: .top :: .top :: .top :: .top :: .top :: .top :: .top :: .top :: .top :: .top :: .top :: .top :: .top :: .top :: .top :: .top :: .top :: .top :: .top :: .top :: .top :: .top :: .top :: .top :: .top :: .top :: .top :: .top :: .top :: .top :: .top :: .top :: .top :: .top :: .top :: .top :: .top :: .top :: .top :: .top :: .top :: .top :: .top :: .top :: []), [.live none [.slc 92 (s.q.kv.map kvR), .slc 113 (s.q.cn.map CRw.av), .slc 115 (s.q.qu.map kvR), .slc 99 (s.q.le.map leR)]], 1, 0, s.G⟩) (fun s => l.length - s.i)
      ⟨0, Nat.zero_le _, _, ⟨[], [], [], []⟩, ptx_new (setG_same _ _ _), fun j k o hj => by rw [setG_ne _ _ (fun e => by rw [e, hb] at hj; cases hj)]; exact hj, Nat.zero_le _, Nat.zero_le _⟩ ?_ (fun s => ?_)
    · refine weak_by [] ?_; (conv => whnf); repeat (refine And.intro rfl ?_; conv => whnf)
      exact ⟨fun i x hx => hx, rfl, Nat.le_refl 1, rfl, rfl⟩
    obtain ⟨i, hi, G, q, X, pin, sz, cn⟩ := s
    repeat' (first | ((first | refine Sem.st tt_ok rfl ?_ | refine BS_t (by assumption) ?_ | refine BS_f (by assumption) ?_ | refine nthKi (by assumption) ?_ | refine ⟨_, ⟨(by omega), (by assumption)⟩, ?_⟩ | refine And.intro (by first | decide | omega) ?_); conv => whnf) | refine Sem.seqS ?_ | refine Sem.block ?_)
    refine BS_intro (fun hk => ?_) (fun hk => ?_) <;> conv => whnf
    · have hks : i < l.length := by simp at hk; omega
      clear hk
      obtain ⟨x, hv⟩ : ∃ x, l[i]? = some x := ⟨_, List.getElem?_eq_getElem hks⟩
      have hsm : (l.map St31.av)[((i : Nat) : Int).toNat]? = some x.av := by rw [Int.toNat_natCast, List.getElem?_map, hv]; rfl
      obtain ⟨hin, hz1, hz2⟩ := hs x (List.mem_of_getElem? hv)
      have hw : IntKind.i64.wrap ((i : Int) + 1) = ((i + 1 : Nat) : Int) := by rw [IntWalk.i64_in _ (by omega)]; omega
      have hzt := zws_take hv
      have hzl := zws_le l (i + 1)
      have hle := X.le x
      have hdo := pdo_ok (a := x) (q := q) (by omega) hin.limit hin.ticks hz1 hz2 X
      obtain ⟨ps, pm, hpg, hpr⟩ := id X
      have hrd := rdo_ok q x hpr (by omega) (by omega) hin.ticks (by omega)
      clear hpg hpr pm ps
      have hsz2 : (doQ q x).1.size ≤ 56 * (i + 1) + zws (l.take (i + 1)) := by omega
      have hcn2 : (doQ q x).1.cn.length ≤ i + 1 := by omega
      have h100 : (doQ q x).1.size ≤ 100000 := by omega
      generalize doQ q x = dq at hle hdo hrd hsz2 hcn2 h100
      obtain ⟨q2, ⟨rt, rh, rn⟩, er⟩ := dq
      simp only [PQ.av, PRes.av] at hdo hrd hsz2 hcn2 h100
      refine Sem.skip tt_ok ?_
      conv => whnf
      refine Sem.seqS ?_
      refine Sem.block ?_
      refine Sem.cutS (ι := Unit) (fun _ => ⟨(.slc 37 (l.map St31.av) :: .top :: .bool false :: .gptr b 0 :: .lptr 0 0 :: .int .i64 (i : Nat) :: .lptr 1 0 :: .top :: .top :: .top :: .top :: .top :: .top :: .top :: .top :: .top :: .top :: .top :: .top :: .top :: .top :: .top :: .top :: .top :: .top :: .top :: .top :: .top :: .top :: .top :: .top :: .top :: .top :: .top :: .top :: .top :: .top :: .top :: .top :: .top :: .top :: .top :: .top :: .top :: .top :: .top :: .top :: .top :: .top :: .top :: .top :: .top :: .top :: .top :: .top :: .top :: .top :: .top :: .top :: .top :: .top :: .top :: .top :: .top :: .top :: .top :: .top :: .top :: .top :: .top :: .top :: .top :: .top :: .top :: .top :: .top :: .top :: .top :: .top :: .top :: .top :: .top :: .top :: .top :: .top :: .top :: .top :: .top :: .top :: .top :: .top :: .top :: .top :: .top :: []), [.live none [.slc 92 (q.kv.map kvR), .slc 113 (q.cn.map CRw.av), .slc 115 (q.qu.map kvR), .slc 99 (q.le.map leR)], .live none x.av], 2, 0, G⟩) (fun _ => ?_) ?_
      rotate_left
      · repeat' (first | ((first | refine Sem.st tt_ok rfl ?_ | refine BS_t (by assumption) ?_ | refine BS_f (by assumption) ?_ | refine nthKi (by assumption) ?_ | refine ⟨_, ⟨(by omega), (by assumption)⟩, ?_⟩ | refine And.intro (by first | decide | omega) ?_); conv => whnf) | refine Sem.seqS ?_ | refine Sem.block ?_)
        refine ⟨(), ?_⟩
        refine weak_by [] ?_; (conv => whnf); repeat (refine And.intro rfl ?_; conv => whnf)
        exact ⟨fun i y hy => hy, rfl, Nat.le_refl 2, rfl, rfl⟩
      repeat' (first | ((first | refine Sem.st tt_ok rfl ?_ | refine BS_t (by assumption) ?_ | refine BS_f (by assumption) ?_ | refine nthKi (by assumption) ?_ | refine ⟨_, ⟨(by omega), (by assumption)⟩, ?_⟩ | refine And.intro (by first | decide | omega) ?_); conv => whnf) | refine Sem.seqS ?_ | refine Sem.block ?_)
      refine draw_inv tt_ok (by kernel_rfl) (fun D c => ∃ G1, (D 10 = false → G1 = G) ∧ (D 10 = true → PtX G1 b q2 ∧ PinK G G1) ∧ (D 15 = true → D 14 = true) ∧ c = ⟨(.slc 37 (l.map St31.av) :: .top :: .bool false :: .gptr b 0 :: .lptr 0 0 :: .int .i64 (i : Nat) :: .lptr 1 0 :: cond (D 14) (.lptr 2 0) .top :: cond (D 16) (.int .i64 er) .top :: .top :: .top :: .top :: .top :: .top :: .top :: .top :: .top :: .top :: .top :: .top :: .top :: .top :: .top :: .top :: .top :: .top :: cond (D 11) (.tup [.agg [.str rt, .bool rh, .int .i64 rn], .int .i64 er]) .top :: cond (D 0) (.gptr b 0) .top :: cond (D 1) (.lptr 1 0) .top :: cond (D 2) (.int .i64 x.op) .top :: cond (D 3) (.lptr 1 1) .top :: cond (D 4) (.agg x.args) .top :: cond (D 5) (.agg x.args) .top :: cond (D 6) (.lptr 1 5) .top :: cond (D 7) (.int .i64 x.now) .top :: cond (D 8) (.lptr 1 6) .top :: cond (D 9) (.int .i64 x.limit) .top :: cond (D 10) (.tup [.agg [.str rt, .bool rh, .int .i64 rn], .int .i64 er]) .top :: cond (D 12) (.agg [.str rt, .bool rh, .int .i64 rn]) .top :: cond (D 13) (.int .i64 er) .top :: .top :: .top :: .top :: .top :: .top :: .top :: .top :: .top :: .top :: .top :: .top :: .top :: .top :: .top :: .top :: .top :: .top :: .top :: .top :: .top :: .top :: .top :: .top :: .top :: .top :: .top :: .top :: .top :: .top :: .top :: .top :: .top :: .top :: .top :: .top :: .top :: .top :: .top :: .top :: .top :: .top :: .top :: .top :: .top :: .top :: .top :: .top :: .top :: .top :: .top :: .top :: .top :: .top :: .top :: []), [.live none [.slc 92 (q.kv.map kvR), .slc 113 (q.cn.map CRw.av), .slc 115 (q.qu.map kvR), .slc 99 (q.le.map leR)], .live none x.av] ++ cond (D 14) [.live none (cond (D 15) [.str rt, .bool rh, .int .i64 rn] [.str ⟨#[]⟩, .bool false, .int .i64 0])] [], cond (D 14) 3 2, 0, G1⟩) (by kernel_rfl) ⟨G, fun _ => rfl, fun h => (by cases h), fun h => (by cases h), rfl⟩ ?_ ?_
      · conv => whnf
        repeat' (refine And.intro ?_ ?_ <;> conv => whnf)
        · rintro D c hi hn ⟨G1, g1, g2, g3, rfl⟩
          have b0 : doneAt D 0 0 = true := rfl
          have b1 : doneAt D 0 1 = D 1 := rfl
          have b2 : doneAt D 0 2 = D 2 := rfl
          have b3 : doneAt D 0 3 = D 3 := rfl
          have b4 : doneAt D 0 4 = D 4 := rfl
          have b5 : doneAt D 0 5 = D 5 := rfl
          have b6 : doneAt D 0 6 = D 6 := rfl
          have b7 : doneAt D 0 7 = D 7 := rfl
          have b8 : doneAt D 0 8 = D 8 := rfl
          have b9 : doneAt D 0 9 = D 9 := rfl
          have b10 : doneAt D 0 10 = D 10 := rfl
          have b11 : doneAt D 0 11 = D 11 := rfl
          have b12 : doneAt D 0 12 = D 12 := rfl
          have b13 : doneAt D 0 13 = D 13 := rfl
          have b14 : doneAt D 0 14 = D 14 := rfl
          have b15 : doneAt D 0 15 = D 15 := rfl
          have b16 : doneAt D 0 16 = D 16 := rfl
          simp only [hi, cond_true, cond_false]
          conv => whnf
          repeat' (first | ((first | refine BS_t (by assumption) ?_ | refine BS_f (by assumption) ?_ | refine nthKi (by assumption) ?_ | refine ⟨_, ⟨(by omega), (by assumption)⟩, ?_⟩ | refine And.intro (by first | decide | omega) ?_); conv => whnf) | fail)
          refine ⟨G1, g1, g2, g3, ?_⟩
          simp only [b0, b1, b2, b3, b4, b5, b6, b7, b8, b9, b10, b11, b12, b13, b14, b15, b16, cond_true, cond_false]
          try rfl
        · rintro D c hi hn ⟨G1, g1, g2, g3, rfl⟩
          have b0 : doneAt D 1 0 = D 0 := rfl
          have b1 : doneAt D 1 1 = true := rfl
          have b2 : doneAt D 1 2 = D 2 := rfl
          have b3 : doneAt D 1 3 = D 3 := rfl
          have b4 : doneAt D 1 4 = D 4 := rfl
          have b5 : doneAt D 1 5 = D 5 := rfl
          have b6 : doneAt D 1 6 = D 6 := rfl
          have b7 : doneAt D 1 7 = D 7 := rfl
          have b8 : doneAt D 1 8 = D 8 := rfl
          have b9 : doneAt D 1 9 = D 9 := rfl
          have b10 : doneAt D 1 10 = D 10 := rfl
          have b11 : doneAt D 1 11 = D 11 := rfl
          have b12 : doneAt D 1 12 = D 12 := rfl
          have b13 : doneAt D 1 13 = D 13 := rfl
          have b14 : doneAt D 1 14 = D 14 := rfl
          have b15 : doneAt D 1 15 = D 15 := rfl
          have b16 : doneAt D 1 16 = D 16 := rfl
          simp only [hi, cond_true, cond_false]
          conv => whnf
          repeat' (first | ((first | refine BS_t (by assumption) ?_ | refine BS_f (by assumption) ?_ | refine nthKi (by assumption) ?_ | refine ⟨_, ⟨(by omega), (by assumption)⟩, ?_⟩ | refine And.intro (by first | decide | omega) ?_); conv => whnf) | fail)
          refine ⟨G1, g1, g2, g3, ?_⟩
          simp only [b0, b1, b2, b3, b4, b5, b6, b7, b8, b9, b10, b11, b12, b13, b14, b15, b16, cond_true, cond_false]
          try rfl
        · rintro D c hi hn ⟨G1, g1, g2, g3, rfl⟩
          obtain ⟨e1, -⟩ := hn
          have b0 : doneAt D 2 0 = D 0 := rfl
          have b1 : doneAt D 2 1 = D 1 := rfl
          have b2 : doneAt D 2 2 = true := rfl
          have b3 : doneAt D 2 3 = D 3 := rfl
          have b4 : doneAt D 2 4 = D 4 := rfl
          have b5 : doneAt D 2 5 = D 5 := rfl
          have b6 : doneAt D 2 6 = D 6 := rfl
          have b7 : doneAt D 2 7 = D 7 := rfl
          have b8 : doneAt D 2 8 = D 8 := rfl
          have b9 : doneAt D 2 9 = D 9 := rfl
          have b10 : doneAt D 2 10 = D 10 := rfl
          have b11 : doneAt D 2 11 = D 11 := rfl
          have b12 : doneAt D 2 12 = D 12 := rfl
          have b13 : doneAt D 2 13 = D 13 := rfl
          have b14 : doneAt D 2 14 = D 14 := rfl
          have b15 : doneAt D 2 15 = D 15 := rfl
          have b16 : doneAt D 2 16 = D 16 := rfl
          simp only [e1, hi, cond_true, cond_false]
          conv => whnf
          repeat' (first | ((first | refine BS_t (by assumption) ?_ | refine BS_f (by assumption) ?_ | refine nthKi (by assumption) ?_ | refine ⟨_, ⟨(by omega), (by assumption)⟩, ?_⟩ | refine And.intro (by first | decide | omega) ?_); conv => whnf) | fail)
          refine ⟨G1, g1, g2, g3, ?_⟩
          simp only [b0, b1, b2, b3, b4, b5, b6, b7, b8, b9, b10, b11, b12, b13, b14, b15, b16, e1, cond_true, cond_false]
          try rfl
        · rintro D c hi hn ⟨G1, g1, g2, g3, rfl⟩
          have b0 : doneAt D 3 0 = D 0 := rfl
          have b1 : doneAt D 3 1 = D 1 := rfl
          have b2 : doneAt D 3 2 = D 2 := rfl
          have b3 : doneAt D 3 3 = true := rfl
          have b4 : doneAt D 3 4 = D 4 := rfl
          have b5 : doneAt D 3 5 = D 5 := rfl
          have b6 : doneAt D 3 6 = D 6 := rfl
          have b7 : doneAt D 3 7 = D 7 := rfl
          have b8 : doneAt D 3 8 = D 8 := rfl
          have b9 : doneAt D 3 9 = D 9 := rfl
          have b10 : doneAt D 3 10 = D 10 := rfl
          have b11 : doneAt D 3 11 = D 11 := rfl
          have b12 : doneAt D 3 12 = D 12 := rfl
          have b13 : doneAt D 3 13 = D 13 := rfl
          have b14 : doneAt D 3 14 = D 14 := rfl
          have b15 : doneAt D 3 15 = D 15 := rfl
          have b16 : doneAt D 3 16 = D 16 := rfl
          simp only [hi, cond_true, cond_false]
          conv => whnf
          repeat' (first | ((first | refine BS_t (by assumption) ?_ | refine BS_f (by assumption) ?_ | refine nthKi (by assumption) ?_ | refine ⟨_, ⟨(by omega), (by assumption)⟩, ?_⟩ | refine And.intro (by first | decide | omega) ?_); conv => whnf) | fail)
          refine ⟨G1, g1, g2, g3, ?_⟩
          simp only [b0, b1, b2, b3, b4, b5, b6, b7, b8, b9, b10, b11, b12, b13, b14, b15, b16, cond_true, cond_false]
          try rfl
        · rintro D c hi hn ⟨G1, g1, g2, g3, rfl⟩
          obtain ⟨e3, -⟩ := hn
          have b0 : doneAt D 4 0 = D 0 := rfl
          have b1 : doneAt D 4 1 = D 1 := rfl
          have b2 : doneAt D 4 2 = D 2 := rfl
          have b3 : doneAt D 4 3 = D 3 := rfl
          have b4 : doneAt D 4 4 = true := rfl
          have b5 : doneAt D 4 5 = D 5 := rfl
          have b6 : doneAt D 4 6 = D 6 := rfl
          have b7 : doneAt D 4 7 = D 7 := rfl
          have b8 : doneAt D 4 8 = D 8 := rfl
          have b9 : doneAt D 4 9 = D 9 := rfl
          have b10 : doneAt D 4 10 = D 10 := rfl
          have b11 : doneAt D 4 11 = D 11 := rfl
          have b12 : doneAt D 4 12 = D 12 := rfl
          have b13 : doneAt D 4 13 = D 13 := rfl
          have b14 : doneAt D 4 14 = D 14 := rfl
          have b15 : doneAt D 4 15 = D 15 := rfl
          have b16 : doneAt D 4 16 = D 16 := rfl
          simp only [e3, hi, cond_true, cond_false]
          conv => whnf
          repeat' (first | ((first | refine BS_t (by assumption) ?_ | refine BS_f (by assumption) ?_ | refine nthKi (by assumption) ?_ | refine ⟨_, ⟨(by omega), (by assumption)⟩, ?_⟩ | refine And.intro (by first | decide | omega) ?_); conv => whnf) | fail)
          refine ⟨G1, g1, g2, g3, ?_⟩
          simp only [b0, b1, b2, b3, b4, b5, b6, b7, b8, b9, b10, b11, b12, b13, b14, b15, b16, e3, cond_true, cond_false]
          try rfl
        · rintro D c hi hn ⟨G1, g1, g2, g3, rfl⟩
          obtain ⟨e4, -⟩ := hn
          have b0 : doneAt D 5 0 = D 0 := rfl
          have b1 : doneAt D 5 1 = D 1 := rfl
          have b2 : doneAt D 5 2 = D 2 := rfl
          have b3 : doneAt D 5 3 = D 3 := rfl
          have b4 : doneAt D 5 4 = D 4 := rfl
          have b5 : doneAt D 5 5 = true := rfl
          have b6 : doneAt D 5 6 = D 6 := rfl
          have b7 : doneAt D 5 7 = D 7 := rfl
          have b8 : doneAt D 5 8 = D 8 := rfl
          have b9 : doneAt D 5 9 = D 9 := rfl
          have b10 : doneAt D 5 10 = D 10 := rfl
          have b11 : doneAt D 5 11 = D 11 := rfl
          have b12 : doneAt D 5 12 = D 12 := rfl
          have b13 : doneAt D 5 13 = D 13 := rfl
          have b14 : doneAt D 5 14 = D 14 := rfl
          have b15 : doneAt D 5 15 = D 15 := rfl
          have b16 : doneAt D 5 16 = D 16 := rfl
          simp only [e4, hi, cond_true, cond_false]
          conv => whnf
          refine (ours_ok x.name x.text x.num x.ticks G1).on ?_; conv => whnf
          repeat' (first | ((first | refine BS_t (by assumption) ?_ | refine BS_f (by assumption) ?_ | refine nthKi (by assumption) ?_ | refine ⟨_, ⟨(by omega), (by assumption)⟩, ?_⟩ | refine And.intro (by first | decide | omega) ?_); conv => whnf) | fail)
          refine ⟨G1, g1, g2, g3, ?_⟩
          simp only [b0, b1, b2, b3, b4, b5, b6, b7, b8, b9, b10, b11, b12, b13, b14, b15, b16, e4, cond_true, cond_false]
          try rfl
        · rintro D c hi hn ⟨G1, g1, g2, g3, rfl⟩
          have b0 : doneAt D 6 0 = D 0 := rfl
          have b1 : doneAt D 6 1 = D 1 := rfl
          have b2 : doneAt D 6 2 = D 2 := rfl
          have b3 : doneAt D 6 3 = D 3 := rfl
          have b4 : doneAt D 6 4 = D 4 := rfl
          have b5 : doneAt D 6 5 = D 5 := rfl
          have b6 : doneAt D 6 6 = true := rfl
          have b7 : doneAt D 6 7 = D 7 := rfl
          have b8 : doneAt D 6 8 = D 8 := rfl
          have b9 : doneAt D 6 9 = D 9 := rfl
          have b10 : doneAt D 6 10 = D 10 := rfl
          have b11 : doneAt D 6 11 = D 11 := rfl
          have b12 : doneAt D 6 12 = D 12 := rfl
          have b13 : doneAt D 6 13 = D 13 := rfl
          have b14 : doneAt D 6 14 = D 14 := rfl
          have b15 : doneAt D 6 15 = D 15 := rfl
          have b16 : doneAt D 6 16 = D 16 := rfl
          simp only [hi, cond_true, cond_false]
          conv => whnf
          repeat' (first | ((first | refine BS_t (by assumption) ?_ | refine BS_f (by assumption) ?_ | refine nthKi (by assumption) ?_ | refine ⟨_, ⟨(by omega), (by assumption)⟩, ?_⟩ | refine And.intro (by first | decide | omega) ?_); conv => whnf) | fail)
          refine ⟨G1, g1, g2, g3, ?_⟩
          simp only [b0, b1, b2, b3, b4, b5, b6, b7, b8, b9, b10, b11, b12, b13, b14, b15, b16, cond_true, cond_false]
          try rfl
        · rintro D c hi hn ⟨G1, g1, g2, g3, rfl⟩
          obtain ⟨e6, -⟩ := hn
          have b0 : doneAt D 7 0 = D 0 := rfl
          have b1 : doneAt D 7 1 = D 1 := rfl
          have b2 : doneAt D 7 2 = D 2 := rfl
          have b3 : doneAt D 7 3 = D 3 := rfl
          have b4 : doneAt D 7 4 = D 4 := rfl
          have b5 : doneAt D 7 5 = D 5 := rfl
          have b6 : doneAt D 7 6 = D 6 := rfl
          have b7 : doneAt D 7 7 = true := rfl
          have b8 : doneAt D 7 8 = D 8 := rfl
          have b9 : doneAt D 7 9 = D 9 := rfl
          have b10 : doneAt D 7 10 = D 10 := rfl
          have b11 : doneAt D 7 11 = D 11 := rfl
          have b12 : doneAt D 7 12 = D 12 := rfl
          have b13 : doneAt D 7 13 = D 13 := rfl
          have b14 : doneAt D 7 14 = D 14 := rfl
          have b15 : doneAt D 7 15 = D 15 := rfl
          have b16 : doneAt D 7 16 = D 16 := rfl
          simp only [e6, hi, cond_true, cond_false]
          conv => whnf
          repeat' (first | ((first | refine BS_t (by assumption) ?_ | refine BS_f (by assumption) ?_ | refine nthKi (by assumption) ?_ | refine ⟨_, ⟨(by omega), (by assumption)⟩, ?_⟩ | refine And.intro (by first | decide | omega) ?_); conv => whnf) | fail)
          refine ⟨G1, g1, g2, g3, ?_⟩
          simp only [b0, b1, b2, b3, b4, b5, b6, b7, b8, b9, b10, b11, b12, b13, b14, b15, b16, e6, cond_true, cond_false]
          try rfl
        · rintro D c hi hn ⟨G1, g1, g2, g3, rfl⟩
          have b0 : doneAt D 8 0 = D 0 := rfl
          have b1 : doneAt D 8 1 = D 1 := rfl
          have b2 : doneAt D 8 2 = D 2 := rfl
          have b3 : doneAt D 8 3 = D 3 := rfl
          have b4 : doneAt D 8 4 = D 4 := rfl
          have b5 : doneAt D 8 5 = D 5 := rfl
          have b6 : doneAt D 8 6 = D 6 := rfl
          have b7 : doneAt D 8 7 = D 7 := rfl
          have b8 : doneAt D 8 8 = true := rfl
          have b9 : doneAt D 8 9 = D 9 := rfl
          have b10 : doneAt D 8 10 = D 10 := rfl
          have b11 : doneAt D 8 11 = D 11 := rfl
          have b12 : doneAt D 8 12 = D 12 := rfl
          have b13 : doneAt D 8 13 = D 13 := rfl
          have b14 : doneAt D 8 14 = D 14 := rfl
          have b15 : doneAt D 8 15 = D 15 := rfl
          have b16 : doneAt D 8 16 = D 16 := rfl
          simp only [hi, cond_true, cond_false]
          conv => whnf
          repeat' (first | ((first | refine BS_t (by assumption) ?_ | refine BS_f (by assumption) ?_ | refine nthKi (by assumption) ?_ | refine ⟨_, ⟨(by omega), (by assumption)⟩, ?_⟩ | refine And.intro (by first | decide | omega) ?_); conv => whnf) | fail)
          refine ⟨G1, g1, g2, g3, ?_⟩
          simp only [b0, b1, b2, b3, b4, b5, b6, b7, b8, b9, b10, b11, b12, b13, b14, b15, b16, cond_true, cond_false]
          try rfl
        · rintro D c hi hn ⟨G1, g1, g2, g3, rfl⟩
          obtain ⟨e8, -⟩ := hn
          have b0 : doneAt D 9 0 = D 0 := rfl
          have b1 : doneAt D 9 1 = D 1 := rfl
          have b2 : doneAt D 9 2 = D 2 := rfl
          have b3 : doneAt D 9 3 = D 3 := rfl
          have b4 : doneAt D 9 4 = D 4 := rfl
          have b5 : doneAt D 9 5 = D 5 := rfl
          have b6 : doneAt D 9 6 = D 6 := rfl
          have b7 : doneAt D 9 7 = D 7 := rfl
          have b8 : doneAt D 9 8 = D 8 := rfl
          have b9 : doneAt D 9 9 = true := rfl
          have b10 : doneAt D 9 10 = D 10 := rfl
          have b11 : doneAt D 9 11 = D 11 := rfl
          have b12 : doneAt D 9 12 = D 12 := rfl
          have b13 : doneAt D 9 13 = D 13 := rfl
          have b14 : doneAt D 9 14 = D 14 := rfl
          have b15 : doneAt D 9 15 = D 15 := rfl
          have b16 : doneAt D 9 16 = D 16 := rfl
          simp only [e8, hi, cond_true, cond_false]
          conv => whnf
          repeat' (first | ((first | refine BS_t (by assumption) ?_ | refine BS_f (by assumption) ?_ | refine nthKi (by assumption) ?_ | refine ⟨_, ⟨(by omega), (by assumption)⟩, ?_⟩ | refine And.intro (by first | decide | omega) ?_); conv => whnf) | fail)
          refine ⟨G1, g1, g2, g3, ?_⟩
          simp only [b0, b1, b2, b3, b4, b5, b6, b7, b8, b9, b10, b11, b12, b13, b14, b15, b16, e8, cond_true, cond_false]
          try rfl
        · rintro D c hi hn ⟨G1, g1, g2, g3, rfl⟩
          obtain ⟨e0, e2, e5, e7, e9, -, -⟩ := hn
          have b0 : doneAt D 10 0 = D 0 := rfl
          have b1 : doneAt D 10 1 = D 1 := rfl
          have b2 : doneAt D 10 2 = D 2 := rfl
          have b3 : doneAt D 10 3 = D 3 := rfl
          have b4 : doneAt D 10 4 = D 4 := rfl
          have b5 : doneAt D 10 5 = D 5 := rfl
          have b6 : doneAt D 10 6 = D 6 := rfl
          have b7 : doneAt D 10 7 = D 7 := rfl
          have b8 : doneAt D 10 8 = D 8 := rfl
          have b9 : doneAt D 10 9 = D 9 := rfl
          have b10 : doneAt D 10 10 = true := rfl
          have b11 : doneAt D 10 11 = D 11 := rfl
          have b12 : doneAt D 10 12 = D 12 := rfl
          have b13 : doneAt D 10 13 = D 13 := rfl
          have b14 : doneAt D 10 14 = D 14 := rfl
          have b15 : doneAt D 10 15 = D 15 := rfl
          have b16 : doneAt D 10 16 = D 16 := rfl
          simp only [e0, e2, e5, e7, e9, hi, cond_true, cond_false]
          conv => whnf
          have e := g1 hi
          subst e
          refine hdo.mono fun v G9 hv => ?_
          obtain ⟨rfl, hX2, hp2⟩ := hv
          conv => whnf
          refine ⟨G9, fun h => (by cases h), fun _ => ⟨hX2, hp2⟩, g3, ?_⟩
          simp only [b0, b1, b2, b3, b4, b5, b6, b7, b8, b9, b10, b11, b12, b13, b14, b15, b16, e0, e2, e5, e7, e9, cond_true, cond_false]
          try rfl
        · rintro D c hi hn ⟨G1, g1, g2, g3, rfl⟩
          obtain ⟨e10, -⟩ := hn
          have b0 : doneAt D 11 0 = D 0 := rfl
          have b1 : doneAt D 11 1 = D 1 := rfl
          have b2 : doneAt D 11 2 = D 2 := rfl
          have b3 : doneAt D 11 3 = D 3 := rfl
          have b4 : doneAt D 11 4 = D 4 := rfl
          have b5 : doneAt D 11 5 = D 5 := rfl
          have b6 : doneAt D 11 6 = D 6 := rfl
          have b7 : doneAt D 11 7 = D 7 := rfl
          have b8 : doneAt D 11 8 = D 8 := rfl
          have b9 : doneAt D 11 9 = D 9 := rfl
          have b10 : doneAt D 11 10 = D 10 := rfl
          have b11 : doneAt D 11 11 = true := rfl
          have b12 : doneAt D 11 12 = D 12 := rfl
          have b13 : doneAt D 11 13 = D 13 := rfl
          have b14 : doneAt D 11 14 = D 14 := rfl
          have b15 : doneAt D 11 15 = D 15 := rfl
          have b16 : doneAt D 11 16 = D 16 := rfl
          simp only [e10, hi, cond_true, cond_false]
          conv => whnf
          repeat' (first | ((first | refine BS_t (by assumption) ?_ | refine BS_f (by assumption) ?_ | refine nthKi (by assumption) ?_ | refine ⟨_, ⟨(by omega), (by assumption)⟩, ?_⟩ | refine And.intro (by first | decide | omega) ?_); conv => whnf) | fail)
          refine ⟨G1, g1, g2, g3, ?_⟩
          simp only [b0, b1, b2, b3, b4, b5, b6, b7, b8, b9, b10, b11, b12, b13, b14, b15, b16, e10, cond_true, cond_false]
          try rfl
        · rintro D c hi hn ⟨G1, g1, g2, g3, rfl⟩
          obtain ⟨e11, -⟩ := hn
          have b0 : doneAt D 12 0 = D 0 := rfl
          have b1 : doneAt D 12 1 = D 1 := rfl
          have b2 : doneAt D 12 2 = D 2 := rfl
          have b3 : doneAt D 12 3 = D 3 := rfl
          have b4 : doneAt D 12 4 = D 4 := rfl
          have b5 : doneAt D 12 5 = D 5 := rfl
          have b6 : doneAt D 12 6 = D 6 := rfl
          have b7 : doneAt D 12 7 = D 7 := rfl
          have b8 : doneAt D 12 8 = D 8 := rfl
          have b9 : doneAt D 12 9 = D 9 := rfl
          have b10 : doneAt D 12 10 = D 10 := rfl
          have b11 : doneAt D 12 11 = D 11 := rfl
          have b12 : doneAt D 12 12 = true := rfl
          have b13 : doneAt D 12 13 = D 13 := rfl
          have b14 : doneAt D 12 14 = D 14 := rfl
          have b15 : doneAt D 12 15 = D 15 := rfl
          have b16 : doneAt D 12 16 = D 16 := rfl
          simp only [e11, hi, cond_true, cond_false]
          conv => whnf
          repeat' (first | ((first | refine BS_t (by assumption) ?_ | refine BS_f (by assumption) ?_ | refine nthKi (by assumption) ?_ | refine ⟨_, ⟨(by omega), (by assumption)⟩, ?_⟩ | refine And.intro (by first | decide | omega) ?_); conv => whnf) | fail)
          refine ⟨G1, g1, g2, g3, ?_⟩
          simp only [b0, b1, b2, b3, b4, b5, b6, b7, b8, b9, b10, b11, b12, b13, b14, b15, b16, e11, cond_true, cond_false]
          try rfl
        · rintro D c hi hn ⟨G1, g1, g2, g3, rfl⟩
          obtain ⟨e11, -⟩ := hn
          have b0 : doneAt D 13 0 = D 0 := rfl
          have b1 : doneAt D 13 1 = D 1 := rfl
          have b2 : doneAt D 13 2 = D 2 := rfl
          have b3 : doneAt D 13 3 = D 3 := rfl
          have b4 : doneAt D 13 4 = D 4 := rfl
          have b5 : doneAt D 13 5 = D 5 := rfl
          have b6 : doneAt D 13 6 = D 6 := rfl
          have b7 : doneAt D 13 7 = D 7 := rfl
          have b8 : doneAt D 13 8 = D 8 := rfl
          have b9 : doneAt D 13 9 = D 9 := rfl
          have b10 : doneAt D 13 10 = D 10 := rfl
          have b11 : doneAt D 13 11 = D 11 := rfl
          have b12 : doneAt D 13 12 = D 12 := rfl
          have b13 : doneAt D 13 13 = true := rfl
          have b14 : doneAt D 13 14 = D 14 := rfl
          have b15 : doneAt D 13 15 = D 15 := rfl
          have b16 : doneAt D 13 16 = D 16 := rfl
          simp only [e11, hi, cond_true, cond_false]
          conv => whnf
          repeat' (first | ((first | refine BS_t (by assumption) ?_ | refine BS_f (by assumption) ?_ | refine nthKi (by assumption) ?_ | refine ⟨_, ⟨(by omega), (by assumption)⟩, ?_⟩ | refine And.intro (by first | decide | omega) ?_); conv => whnf) | fail)
          refine ⟨G1, g1, g2, g3, ?_⟩
          simp only [b0, b1, b2, b3, b4, b5, b6, b7, b8, b9, b10, b11, b12, b13, b14, b15, b16, e11, cond_true, cond_false]
          try rfl
        · rintro D c hi hn ⟨G1, g1, g2, g3, rfl⟩
          have e15 : D 15 = false := by
            cases h : D 15 with
            | false => rfl
            | true => rw [g3 h] at hi; cases hi
          have b0 : doneAt D 14 0 = D 0 := rfl
          have b1 : doneAt D 14 1 = D 1 := rfl
          have b2 : doneAt D 14 2 = D 2 := rfl
          have b3 : doneAt D 14 3 = D 3 := rfl
          have b4 : doneAt D 14 4 = D 4 := rfl
          have b5 : doneAt D 14 5 = D 5 := rfl
          have b6 : doneAt D 14 6 = D 6 := rfl
          have b7 : doneAt D 14 7 = D 7 := rfl
          have b8 : doneAt D 14 8 = D 8 := rfl
          have b9 : doneAt D 14 9 = D 9 := rfl
          have b10 : doneAt D 14 10 = D 10 := rfl
          have b11 : doneAt D 14 11 = D 11 := rfl
          have b12 : doneAt D 14 12 = D 12 := rfl
          have b13 : doneAt D 14 13 = D 13 := rfl
          have b14 : doneAt D 14 14 = true := rfl
          have b15 : doneAt D 14 15 = D 15 := rfl
          have b16 : doneAt D 14 16 = D 16 := rfl
          simp only [e15, hi, cond_true, cond_false]
          conv => whnf
          repeat' (first | ((first | refine BS_t (by assumption) ?_ | refine BS_f (by assumption) ?_ | refine nthKi (by assumption) ?_ | refine ⟨_, ⟨(by omega), (by assumption)⟩, ?_⟩ | refine And.intro (by first | decide | omega) ?_); conv => whnf) | fail)
          refine ⟨G1, g1, g2, fun _ => rfl, ?_⟩
          simp only [b0, b1, b2, b3, b4, b5, b6, b7, b8, b9, b10, b11, b12, b13, b14, b15, b16, e15, cond_true, cond_false]
          try rfl
        · rintro D c hi hn ⟨G1, g1, g2, g3, rfl⟩
          obtain ⟨e14, e12, e10, e0, e1, e2, e3, e4, e5, e6, e7, e8, e9, -, e11, -, -, -⟩ := hn
          have b0 : doneAt D 15 0 = D 0 := rfl
          have b1 : doneAt D 15 1 = D 1 := rfl
          have b2 : doneAt D 15 2 = D 2 := rfl
          have b3 : doneAt D 15 3 = D 3 := rfl
          have b4 : doneAt D 15 4 = D 4 := rfl
          have b5 : doneAt D 15 5 = D 5 := rfl
          have b6 : doneAt D 15 6 = D 6 := rfl
          have b7 : doneAt D 15 7 = D 7 := rfl
          have b8 : doneAt D 15 8 = D 8 := rfl
          have b9 : doneAt D 15 9 = D 9 := rfl
          have b10 : doneAt D 15 10 = D 10 := rfl
          have b11 : doneAt D 15 11 = D 11 := rfl
          have b12 : doneAt D 15 12 = D 12 := rfl
          have b13 : doneAt D 15 13 = D 13 := rfl
          have b14 : doneAt D 15 14 = D 14 := rfl
          have b15 : doneAt D 15 15 = true := rfl
          have b16 : doneAt D 15 16 = D 16 := rfl
          simp only [e0, e1, e2, e3, e4, e5, e6, e7, e8, e9, e10, e11, e12, e14, hi, cond_true, cond_false]
          conv => whnf
          repeat' (first | ((first | refine BS_t (by assumption) ?_ | refine BS_f (by assumption) ?_ | refine nthKi (by assumption) ?_ | refine ⟨_, ⟨(by omega), (by assumption)⟩, ?_⟩ | refine And.intro (by first | decide | omega) ?_); conv => whnf) | fail)
          refine ⟨G1, g1, g2, fun _ => e14, ?_⟩
          simp only [b0, b1, b2, b3, b4, b5, b6, b7, b8, b9, b10, b11, b12, b13, b14, b15, b16, e0, e1, e2, e3, e4, e5, e6, e7, e8, e9, e10, e11, e12, e14, cond_true, cond_false]
          try rfl
        · rintro D c hi hn ⟨G1, g1, g2, g3, rfl⟩
          obtain ⟨e13, e15, e0, e1, e2, e3, e4, e5, e6, e7, e8, e9, e10, e11, e12, -, e14, -, -⟩ := hn
          have b0 : doneAt D 16 0 = D 0 := rfl
          have b1 : doneAt D 16 1 = D 1 := rfl
          have b2 : doneAt D 16 2 = D 2 := rfl
          have b3 : doneAt D 16 3 = D 3 := rfl
          have b4 : doneAt D 16 4 = D 4 := rfl
          have b5 : doneAt D 16 5 = D 5 := rfl
          have b6 : doneAt D 16 6 = D 6 := rfl
          have b7 : doneAt D 16 7 = D 7 := rfl
          have b8 : doneAt D 16 8 = D 8 := rfl
          have b9 : doneAt D 16 9 = D 9 := rfl
          have b10 : doneAt D 16 10 = D 10 := rfl
          have b11 : doneAt D 16 11 = D 11 := rfl
          have b12 : doneAt D 16 12 = D 12 := rfl
          have b13 : doneAt D 16 13 = D 13 := rfl
          have b14 : doneAt D 16 14 = D 14 := rfl
          have b15 : doneAt D 16 15 = D 15 := rfl
          have b16 : doneAt D 16 16 = true := rfl
          simp only [e0, e1, e2, e3, e4, e5, e6, e7, e8, e9, e10, e11, e12, e13, e14, e15, hi, cond_true, cond_false]
          conv => whnf
          repeat' (first | ((first | refine BS_t (by assumption) ?_ | refine BS_f (by assumption) ?_ | refine nthKi (by assumption) ?_ | refine ⟨_, ⟨(by omega), (by assumption)⟩, ?_⟩ | refine And.intro (by first | decide | omega) ?_); conv => whnf) | fail)
          refine ⟨G1, g1, g2, g3, ?_⟩
          simp only [b0, b1, b2, b3, b4, b5, b6, b7, b8, b9, b10, b11, b12, b13, b14, b15, b16, e0, e1, e2, e3, e4, e5, e6, e7, e8, e9, e10, e11, e12, e13, e14, e15, cond_true, cond_false]
          try rfl
        · trivial
      rintro D c hD ⟨G1, -, g2, -, rfl⟩
      have e0 := hD 0 (by decide)
      have e1 := hD 1 (by decide)
      have e2 := hD 2 (by decide)
      have e3 := hD 3 (by decide)
      have e4 := hD 4 (by decide)
      have e5 := hD 5 (by decide)
      have e6 := hD 6 (by decide)
      have e7 := hD 7 (by decide)
      have e8 := hD 8 (by decide)
      have e9 := hD 9 (by decide)
      have e10 := hD 10 (by decide)
      have e11 := hD 11 (by decide)
      have e12 := hD 12 (by decide)
      have e13 := hD 13 (by decide)
      have e14 := hD 14 (by decide)
      have e15 := hD 15 (by decide)
      have e16 := hD 16 (by decide)
      obtain ⟨hX2, hp2⟩ := g2 e10
      simp only [e0, e1, e2, e3, e4, e5, e6, e7, e8, e9, e10, e11, e12, e13, e14, e15, e16, cond_true]
      clear hD e0 e1 e2 e3 e4 e5 e6 e7 e8 e9 e10 e11 e12 e13 e14 e15 e16
      have hrd := hrd G1
      have k1 := psizeX_ok hX2 (by omega)
      have k2 := rsize31_ok q2 h100 (by omega) G1
      have hP1 := (pin.trans hp2).pow hP
      have k3 := ptext_ok hX2 h100 hP1
      obtain ⟨ps, pm, hpg, hpr⟩ := id hX2
      have k4 := rtext_ok q2 (hpr.qb h100) (by omega) (rise_nodup hpr.k.ri) (rise_nodupA hpr.l.ri) G1
      clear hpg hpr pm ps
      unfold PQ.av at k2 k4
      have x1 : (er != er) = false := by simp
      have x2 : (rt.toList != rt.toList) = false := by simp
      have x3 : (rh != rh) = false := by simp
      have x4 : (rn != rn) = false := by simp
      have x5 : (((q2.size : Nat) : Int) != ((q2.size : Nat) : Int)) = false := by simp
      have x6 : ((S (textQ q2)).toList != (S (textQ q2)).toList) = false := by simp
      have y1 : (er == er) = true := by simp
      have y2 : (rt.toList == rt.toList) = true := by simp
      have y3 : (rh == rh) = true := by simp
      have y4 : (rn == rn) = true := by simp
      have y5 : (((q2.size : Nat) : Int) == ((q2.size : Nat) : Int)) = true := by simp
      have y6 : ((S (textQ q2)).toList == (S (textQ q2)).toList) = true := by simp
      repeat' (first | ((first | refine Sem.st tt_ok rfl ?_ | refine BS_t (by assumption) ?_ | refine BS_f (by assumption) ?_ | refine nthKi (by assumption) ?_ | refine ⟨_, ⟨(by omega), (by assumption)⟩, ?_⟩ | refine And.intro (by first | decide | omega) ?_); conv => whnf) | refine Sem.seqS ?_ | refine Sem.block ?_)
      refine hrd.on ?_; conv => whnf
      repeat' (first | ((first | refine Sem.st tt_ok rfl ?_ | refine BS_t (by assumption) ?_ | refine BS_f (by assumption) ?_ | refine nthKi (by assumption) ?_ | refine ⟨_, ⟨(by omega), (by assumption)⟩, ?_⟩ | refine And.intro (by first | decide | omega) ?_); conv => whnf) | refine Sem.seqS ?_ | refine Sem.block ?_)
      refine draw_sound (eff := []) tt_ok (by kernel_rfl) (by kernel_rfl) ?_; conv => whnf
      repeat' (first | ((first | refine BS_t (by assumption) ?_ | refine BS_f (by assumption) ?_ | refine nthKi (by assumption) ?_ | refine ⟨_, ⟨(by omega), (by assumption)⟩, ?_⟩ | refine And.intro (by first | decide | omega) ?_); conv => whnf) | fail)
      refine ⟨_, _, k1, ?_⟩; (conv => whnf); refine And.intro rfl ?_; conv => whnf
      repeat' (first | ((first | refine BS_t (by assumption) ?_ | refine BS_f (by assumption) ?_ | refine nthKi (by assumption) ?_ | refine ⟨_, ⟨(by omega), (by assumption)⟩, ?_⟩ | refine And.intro (by first | decide | omega) ?_); conv => whnf) | fail)
      refine ⟨_, _, k2, ?_⟩; (conv => whnf); refine And.intro rfl ?_; conv => whnf
      repeat' (first | ((first | refine BS_t (by assumption) ?_ | refine BS_f (by assumption) ?_ | refine nthKi (by assumption) ?_ | refine ⟨_, ⟨(by omega), (by assumption)⟩, ?_⟩ | refine And.intro (by first | decide | omega) ?_); conv => whnf) | fail)
      refine ⟨_, _, k3, ?_⟩; (conv => whnf); refine And.intro rfl ?_; conv => whnf
      repeat' (first | ((first | refine BS_t (by assumption) ?_ | refine BS_f (by assumption) ?_ | refine nthKi (by assumption) ?_ | refine ⟨_, ⟨(by omega), (by assumption)⟩, ?_⟩ | refine And.intro (by first | decide | omega) ?_); conv => whnf) | fail)
      refine ⟨_, _, k4, ?_⟩; (conv => whnf); refine And.intro rfl ?_; conv => whnf
      repeat' (first | ((first | refine BS_t (by assumption) ?_ | refine BS_f (by assumption) ?_ | refine nthKi (by assumption) ?_ | refine ⟨_, ⟨(by omega), (by assumption)⟩, ?_⟩ | refine And.intro (by first | decide | omega) ?_); conv => whnf) | fail)
      repeat' (first | ((first | refine Sem.st tt_ok rfl ?_ | refine BS_t (by assumption) ?_ | refine BS_f (by assumption) ?_ | refine nthKi (by assumption) ?_ | refine ⟨_, ⟨(by omega), (by assumption)⟩, ?_⟩ | refine And.intro (by first | decide | omega) ?_); conv => whnf) | refine Sem.seqS ?_ | refine Sem.block ?_)
      refine ⟨⟨i + 1, by omega, G1, q2, hX2, pin.trans hp2, hsz2, hcn2⟩, by show l.length - (i + 1) < l.length - i; omega, ?_⟩
      refine weak_by [] ?_; (conv => whnf); repeat (refine And.intro rfl ?_; conv => whnf)
      refine And.intro hw ?_
      (conv => whnf); repeat (refine And.intro rfl ?_; conv => whnf)
      exact ⟨fun i y hy => hy, rfl, by decide, rfl, rfl⟩
    · refine Sem.exit tt_ok ?_
      conv => whnf
      repeat' (first | ((first | refine Sem.st tt_ok rfl ?_ | refine BS_t (by assumption) ?_ | refine BS_f (by assumption) ?_ | refine nthKi (by assumption) ?_ | refine ⟨_, ⟨(by omega), (by assumption)⟩, ?_⟩ | refine And.intro (by first | decide | omega) ?_); conv => whnf) | refine Sem.seqS ?_ | refine Sem.block ?_)
      refine (awake31_ok G).mono fun v G1 hv => ?_
      obtain ⟨rfl, hsub⟩ := hv
      conv => whnf
      repeat' (first | ((first | refine Sem.st tt_ok rfl ?_ | refine BS_t (by assumption) ?_ | refine BS_f (by assumption) ?_ | refine nthKi (by assumption) ?_ | refine ⟨_, ⟨(by omega), (by assumption)⟩, ?_⟩ | refine And.intro (by first | decide | omega) ?_); conv => whnf) | refine Sem.seqS ?_ | refine Sem.block ?_)
      exact ⟨_, fun _ _ h => h, rfl, pin.trans fun i k o hi => hsub _ _ hi⟩
end Go.Proofs.YtpihanlillbhkaaGreatDoor
