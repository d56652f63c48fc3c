/- The document's Great in the abstract run. -/
import Derived.Test.YtgedlbfdhekdgaaDoorValE
set_option maxRecDepth 100000
set_option linter.unusedSimpArgs false
namespace Go.Proofs.YtgedlbfdhekdgaaDoor
open Go Go.RowKit Go.Proofs

mutual
def greatV : VT → Nat → Bool
  | .mk _ _ s tags l, deep => if 40 < deep ∨ 60 < l.length ∨ 300 < tags.length ∨ 2000 < s.length then true else greatsV l (deep + 1 + l.length / 4) 0
def greatsV : List VT → Nat → Nat → Bool
  | [], _, n => decide (20000 < n)
  | x :: r, d, n => if greatV x d = true then true else greatsV r d (min (n + sizeV x) 100000)
end
theorem greatV_mk (k n : Int) (s : List UInt8) (tags : List Int) (l : List VT) (deep : Nat) : greatV (.mk k n s tags l) deep = if 40 < deep ∨ 60 < l.length ∨ 300 < tags.length ∨ 2000 < s.length then true else greatsV l (deep + 1 + l.length / 4) 0 := by rw [greatV]
theorem greats_size : ∀ (l : List VT) (d n : Nat), greatsV l d n = false → n + sizesV l ≤ 20000 ∧ ∀ x ∈ l, greatV x d = false
  | [], d, n, h => by
    rw [greatsV] at h
    simp only [decide_eq_false_iff_not] at h
    exact ⟨by rw [sizesV]; omega, fun x hx => by cases hx⟩
  | x :: r, d, n, h => by
    rw [greatsV] at h
    cases hx : greatV x d with
    | true => rw [hx, if_pos rfl] at h; cases h
    | false =>
      rw [hx, if_neg (by decide)] at h
      obtain ⟨h1, h2⟩ := greats_size r d _ h
      refine ⟨by rw [sizesV]; omega, fun y hy => ?_⟩
      rcases List.mem_cons.1 hy with rfl | hy
      · exact hx
      · exact h2 y hy
theorem great_size {v : VT} {d : Nat} (h : greatV v d = false) : sizeV v ≤ 22008 := by
  obtain ⟨k, n, s, tags, l⟩ := v
  rw [greatV_mk] at h
  split at h
  · cases h
  · rename_i hn
    have := (greats_size l _ 0 h).1
    rw [sizeV_mk]; omega
def RGreatOk (v : VT) : Prop := ∀ (deep : Nat) (G : Glob), deep ≤ 1000 → CallOk Tryd.prog TT 5 [.agg v.av, .int .i64 (deep : Nat)] G (fun r G' => r = .bool (greatV v deep) ∧ G' = G)
structure GI (l : List VT) (d : Nat) (b : Bool) where
  k : Nat
  hk : k ≤ l.length
  n : Nat
  hn : n ≤ 100000
  h : b = greatsV (l.drop k) d n
theorem rgreat_ok : ∀ v, RGreatOk v := VT.ind fun kd nm s tags l ih deep G hd => by
  have hav : (VT.mk kd nm s tags l).av = [.int .i64 kd, .int .i64 nm, .str (S s), .slc 3 (tags.map tagA), .slc 25 (VT.avs l)] := by rw [VT.av]
  have hlen := vavs_len l
  have htl : (tags.map tagA).length = tags.length := by simp
  have hsz := S_size s
  rw [hav, greatV_mk]
  by_cases h1 : 40 < deep
  · have c1 : decide (((deep : Nat) : Int) > 40) = true := by rw [decide_eq_true_eq]; omega
    rw [if_pos (.inl h1)]
    refine call_sem tt_ok Tryd.func5 rfl (by kernel_rfl) Tryd.ntmps5 Tryd.results5 ?_; conv => whnf
    repeat' (first | ((first | refine Sem.reg tt_ok ?_ | refine Sem.condS ?_ | refine Sem.regL tt_ok ?_ | refine Sem.skip tt_ok ?_ | refine Sem.exit tt_ok ?_ | refine Sem.ret tt_ok ?_ | refine BS_t (by assumption) ?_ | refine BS_f (by assumption) ?_ | refine (nthK_iff _ _).2 ⟨_, (by assumption), ?_⟩ | refine ⟨_, ⟨(by omega), (by assumption)⟩, ?_⟩ | refine And.intro (by first | decide | omega) ?_ | fail); conv => whnf) | refine Sem.seqS ?_ | refine Sem.block ?_ | fail)
    exact ⟨_, fun _ _ h => h, rfl, rfl⟩
  have c1 : decide (((deep : Nat) : Int) > 40) = false := by rw [decide_eq_false_iff_not]; omega
  by_cases h2 : 60 < l.length
  · have c2 : decide ((((VT.avs l).length : Nat) : Int) > 60) = true := by rw [hlen, decide_eq_true_eq]; omega
    rw [if_pos (.inr (.inl h2))]
    refine call_sem tt_ok Tryd.func5 rfl (by kernel_rfl) Tryd.ntmps5 Tryd.results5 ?_; conv => whnf
    repeat' (first | ((first | refine Sem.reg tt_ok ?_ | refine Sem.condS ?_ | refine Sem.regL tt_ok ?_ | refine Sem.skip tt_ok ?_ | refine Sem.exit tt_ok ?_ | refine Sem.ret tt_ok ?_ | refine BS_t (by assumption) ?_ | refine BS_f (by assumption) ?_ | refine (nthK_iff _ _).2 ⟨_, (by assumption), ?_⟩ | refine ⟨_, ⟨(by omega), (by assumption)⟩, ?_⟩ | refine And.intro (by first | decide | omega) ?_ | fail); conv => whnf) | refine Sem.seqS ?_ | refine Sem.block ?_ | fail)
    exact ⟨_, fun _ _ h => h, rfl, rfl⟩
  have c2 : decide ((((VT.avs l).length : Nat) : Int) > 60) = false := by rw [hlen, decide_eq_false_iff_not]; omega
  by_cases h3 : 300 < tags.length
  · have c3 : decide ((((tags.map tagA).length : Nat) : Int) > 300) = true := by rw [htl, decide_eq_true_eq]; omega
    rw [if_pos (.inr (.inr (.inl h3)))]
    refine call_sem tt_ok Tryd.func5 rfl (by kernel_rfl) Tryd.ntmps5 Tryd.results5 ?_; conv => whnf
    repeat' (first | ((first | refine Sem.reg tt_ok ?_ | refine Sem.condS ?_ | refine Sem.regL tt_ok ?_ | refine Sem.skip tt_ok ?_ | refine Sem.exit tt_ok ?_ | refine Sem.ret tt_ok ?_ | refine BS_t (by assumption) ?_ | refine BS_f (by assumption) ?_ | refine (nthK_iff _ _).2 ⟨_, (by assumption), ?_⟩ | refine ⟨_, ⟨(by omega), (by assumption)⟩, ?_⟩ | refine And.intro (by first | decide | omega) ?_ | fail); conv => whnf) | refine Sem.seqS ?_ | refine Sem.block ?_ | fail)
    exact ⟨_, fun _ _ h => h, rfl, rfl⟩
  have c3 : decide ((((tags.map tagA).length : Nat) : Int) > 300) = false := by rw [htl, decide_eq_false_iff_not]; omega
  by_cases h4 : 2000 < s.length
  · have c4 : decide ((((S s).size : Nat) : Int) > 2000) = true := by rw [hsz, decide_eq_true_eq]; omega
    rw [if_pos (.inr (.inr (.inr h4)))]
    refine call_sem tt_ok Tryd.func5 rfl (by kernel_rfl) Tryd.ntmps5 Tryd.results5 ?_; conv => whnf
    repeat' (first | ((first | refine Sem.reg tt_ok ?_ | refine Sem.condS ?_ | refine Sem.regL tt_ok ?_ | refine Sem.skip tt_ok ?_ | refine Sem.exit tt_ok ?_ | refine Sem.ret tt_ok ?_ | refine BS_t (by assumption) ?_ | refine BS_f (by assumption) ?_ | refine (nthK_iff _ _).2 ⟨_, (by assumption), ?_⟩ | refine ⟨_, ⟨(by omega), (by assumption)⟩, ?_⟩ | refine And.intro (by first | decide | omega) ?_ | fail); conv => whnf) | refine Sem.seqS ?_ | refine Sem.block ?_ | fail)
    exact ⟨_, fun _ _ h => h, rfl, rfl⟩
  have c4 : decide ((((S s).size : Nat) : Int) > 2000) = false := by rw [hsz, decide_eq_false_iff_not]; omega
  rw [if_neg (by omega)]
  generalize hb : greatsV l (deep + 1 + l.length / 4) 0 = b
  refine call_sem tt_ok Tryd.func5 rfl (by kernel_rfl) Tryd.ntmps5 Tryd.results5 ?_; conv => whnf
  repeat' (first | ((first | refine Sem.reg tt_ok ?_ | refine Sem.condS ?_ | refine Sem.regL tt_ok ?_ | refine Sem.skip tt_ok ?_ | refine Sem.exit tt_ok ?_ | refine Sem.ret tt_ok ?_ | refine BS_t (by assumption) ?_ | refine BS_f (by assumption) ?_ | refine (nthK_iff _ _).2 ⟨_, (by assumption), ?_⟩ | refine ⟨_, ⟨(by omega), (by assumption)⟩, ?_⟩ | refine And.intro (by first | decide | omega) ?_ | fail); conv => whnf) | refine Sem.seqS ?_ | refine Sem.block ?_ | fail)
  refine Sem.loop (ι := GI l (deep + 1 + l.length / 4) b) (fun x => ⟨(.top :: .int .i64 (deep : Nat) :: .lptr 0 0 :: .top :: .top :: .int .i64 (x.n : Nat) :: .int .i64 (x.k : Nat) :: .top :: .top :: .top :: .top :: .top :: .top :: .top :: .top :: .top :: .top :: .top :: .top :: .top :: .top :: .top :: .top :: .top :: .top :: .top :: .top :: .top :: .top :: .top :: .top :: .top :: .top :: .top :: .top :: .top :: .top :: .top :: .top :: .top :: .top :: .top :: .top :: .top :: .top :: .top :: .top :: .top :: .top :: .top :: .top :: .top :: .top :: .top :: .top :: .top :: .top :: .top :: []), [.live none [.int .i64 kd, .int .i64 nm, .str (S s), .slc 3 (tags.map tagA), .slc 25 (VT.avs l)]], 1, 0, G⟩) (fun x => l.length - x.k) ⟨0, Nat.zero_le _, 0, by omega, hb.symm⟩ ?_ (fun x => ?_)
  · refine weak_by [] ?_; (conv => whnf); repeat (first | (refine And.intro rfl ?_; conv => whnf) | fail)
    exact ⟨fun i y hy => hy, rfl, by decide, rfl, rfl⟩
  obtain ⟨k, hk, n, hn, h⟩ := x
  simp only
  have h0 : (0 : Int) ≤ ((k : Nat) : Int) := by omega
  by_cases hlt : k < l.length
  · obtain ⟨⟨k1, n1, s1, t1, l1⟩, hx⟩ : ∃ x, l[k]? = some x := ⟨_, List.getElem?_eq_getElem hlt⟩
    have tl : decide (((k : Nat) : Int) < ((VT.avs l).length : Nat)) = true := by rw [hlen, decide_eq_true_eq]; omega
    have hm := vavs_at hx
    have hmem : VT.mk k1 n1 s1 t1 l1 ∈ l := List.mem_of_getElem? hx
    have hdr : l.drop k = .mk k1 n1 s1 t1 l1 :: l.drop (k + 1) := by
      obtain ⟨h1, h2⟩ := List.getElem?_eq_some_iff.1 hx
      rw [← h2]; exact List.drop_eq_getElem_cons h1
    rw [hdr, greatsV] at h
    have hc := ih _ hmem (deep + 1 + l.length / 4) G (by omega)
    rw [VT.av] at hc
    have w1 : IntKind.i64.wrap (((deep : Nat) : Int) + 1) = ((deep + 1 : Nat) : Int) := by rw [IntWalk.i64_in _ (by omega)]; omega
    have w2 : IntKind.i64.wrap ((((VT.avs l).length : Nat) : Int).tdiv 4) = ((l.length / 4 : Nat) : Int) := by rw [hlen, show ((l.length : Nat) : Int).tdiv 4 = ((l.length / 4 : Nat) : Int) from by rw [Int.tdiv_eq_ediv_of_nonneg (by omega)]; omega, IntWalk.i64_in _ (by omega)]
    have w3 : IntKind.i64.wrap (((deep + 1 : Nat) : Int) + ((l.length / 4 : Nat) : Int)) = ((deep + 1 + l.length / 4 : Nat) : Int) := by rw [IntWalk.i64_in _ (by omega)]; omega
    have hi : IntKind.i64.wrap ((k : Int) + 1) = ((k + 1 : Nat) : Int) := by rw [IntWalk.i64_in _ (by omega)]; omega
    cases hg : greatV (.mk k1 n1 s1 t1 l1) (deep + 1 + l.length / 4) with
    | true =>
      rw [hg] at hc h
      rw [if_pos rfl] at h
      subst h
      repeat' (first | ((first | refine Sem.reg tt_ok ?_ | refine Sem.condS ?_ | refine Sem.regL tt_ok ?_ | refine Sem.skip tt_ok ?_ | refine Sem.exit tt_ok ?_ | refine Sem.ret tt_ok ?_ | refine BS_t (by assumption) ?_ | refine BS_f (by assumption) ?_ | refine (nthK_iff _ _).2 ⟨_, (by assumption), ?_⟩ | refine ⟨_, ⟨(by omega), (by assumption)⟩, ?_⟩ | refine And.intro (by first | decide | omega) ?_ | fail); conv => whnf) | refine Sem.seqS ?_ | refine Sem.block ?_ | fail)
      refine draw_sound (eff := []) tt_ok (by kernel_rfl) (by kernel_rfl) ?_; conv => whnf
      repeat' (first | ((first | refine BS_t (by assumption) ?_ | refine BS_f (by assumption) ?_ | refine (nthK_iff _ _).2 ⟨_, (by assumption), ?_⟩ | refine ⟨_, ⟨(by omega), (by assumption)⟩, ?_⟩ | refine And.intro (by first | decide | omega) ?_ | fail); conv => whnf) | fail)
      rw [w1, w2, w3]
      refine ⟨_, _, hc, ?_⟩; (conv => whnf); refine And.intro rfl ?_; conv => whnf
      repeat' (first | ((first | refine BS_t (by assumption) ?_ | refine BS_f (by assumption) ?_ | refine (nthK_iff _ _).2 ⟨_, (by assumption), ?_⟩ | refine ⟨_, ⟨(by omega), (by assumption)⟩, ?_⟩ | refine And.intro (by first | decide | omega) ?_ | fail); conv => whnf) | fail)
      repeat' (first | ((first | refine Sem.reg tt_ok ?_ | refine Sem.condS ?_ | refine Sem.regL tt_ok ?_ | refine Sem.skip tt_ok ?_ | refine Sem.exit tt_ok ?_ | refine Sem.ret tt_ok ?_ | refine BS_t (by assumption) ?_ | refine BS_f (by assumption) ?_ | refine (nthK_iff _ _).2 ⟨_, (by assumption), ?_⟩ | refine ⟨_, ⟨(by omega), (by assumption)⟩, ?_⟩ | refine And.intro (by first | decide | omega) ?_ | fail); conv => whnf) | refine Sem.seqS ?_ | refine Sem.block ?_ | fail)
      exact ⟨_, fun _ _ h => h, rfl, rfl⟩
    | false =>
      have hs := great_size hg
      rw [hg] at hc h
      rw [if_neg (show ¬ (false = true) by decide)] at h
      have hz := rsize_ok (.mk k1 n1 s1 t1 l1) G (by omega)
      rw [VT.av] at hz
      have w4 : IntKind.i64.wrap (((n : Nat) : Int) + ((sizeV (.mk k1 n1 s1 t1 l1) : Nat) : Int)) = ((n + sizeV (.mk k1 n1 s1 t1 l1) : Nat) : Int) := by rw [IntWalk.i64_in _ (by omega)]; omega
      repeat' (first | ((first | refine Sem.reg tt_ok ?_ | refine Sem.condS ?_ | refine Sem.regL tt_ok ?_ | refine Sem.skip tt_ok ?_ | refine Sem.exit tt_ok ?_ | refine Sem.ret tt_ok ?_ | refine BS_t (by assumption) ?_ | refine BS_f (by assumption) ?_ | refine (nthK_iff _ _).2 ⟨_, (by assumption), ?_⟩ | refine ⟨_, ⟨(by omega), (by assumption)⟩, ?_⟩ | refine And.intro (by first | decide | omega) ?_ | fail); conv => whnf) | refine Sem.seqS ?_ | refine Sem.block ?_ | fail)
      refine draw_sound (eff := []) tt_ok (by kernel_rfl) (by kernel_rfl) ?_; conv => whnf
      repeat' (first | ((first | refine BS_t (by assumption) ?_ | refine BS_f (by assumption) ?_ | refine (nthK_iff _ _).2 ⟨_, (by assumption), ?_⟩ | refine ⟨_, ⟨(by omega), (by assumption)⟩, ?_⟩ | refine And.intro (by first | decide | omega) ?_ | fail); conv => whnf) | fail)
      rw [w1, w2, w3]
      refine ⟨_, _, hc, ?_⟩; (conv => whnf); refine And.intro rfl ?_; conv => whnf
      repeat' (first | ((first | refine BS_t (by assumption) ?_ | refine BS_f (by assumption) ?_ | refine (nthK_iff _ _).2 ⟨_, (by assumption), ?_⟩ | refine ⟨_, ⟨(by omega), (by assumption)⟩, ?_⟩ | refine And.intro (by first | decide | omega) ?_ | fail); conv => whnf) | fail)
      repeat' (first | ((first | refine Sem.reg tt_ok ?_ | refine Sem.condS ?_ | refine Sem.regL tt_ok ?_ | refine Sem.skip tt_ok ?_ | refine Sem.exit tt_ok ?_ | refine Sem.ret tt_ok ?_ | refine BS_t (by assumption) ?_ | refine BS_f (by assumption) ?_ | refine (nthK_iff _ _).2 ⟨_, (by assumption), ?_⟩ | refine ⟨_, ⟨(by omega), (by assumption)⟩, ?_⟩ | refine And.intro (by first | decide | omega) ?_ | fail); conv => whnf) | refine Sem.seqS ?_ | refine Sem.block ?_ | fail)
      refine hz.on ?_; conv => whnf
      repeat' (first | ((first | refine Sem.reg tt_ok ?_ | refine Sem.condS ?_ | refine Sem.regL tt_ok ?_ | refine Sem.skip tt_ok ?_ | refine Sem.exit tt_ok ?_ | refine Sem.ret tt_ok ?_ | refine BS_t (by assumption) ?_ | refine BS_f (by assumption) ?_ | refine (nthK_iff _ _).2 ⟨_, (by assumption), ?_⟩ | refine ⟨_, ⟨(by omega), (by assumption)⟩, ?_⟩ | refine And.intro (by first | decide | omega) ?_ | fail); conv => whnf) | refine Sem.seqS ?_ | refine Sem.block ?_ | fail)
      refine ⟨⟨k + 1, by omega, min (n + sizeV (.mk k1 n1 s1 t1 l1)) 100000, by omega, h⟩, by show l.length - (k + 1) < l.length - k; omega, ?_⟩
      refine weak_by [] ?_; (conv => whnf); repeat (first | (refine And.intro rfl ?_; conv => whnf) | fail)
      refine And.intro (by
        rw [w4]
        show (if (100000 : Int) < ((n + sizeV (.mk k1 n1 s1 t1 l1) : Nat) : Int) then (100000 : Int) else ((n + sizeV (.mk k1 n1 s1 t1 l1) : Nat) : Int)) = ((min (n + sizeV (.mk k1 n1 s1 t1 l1)) 100000 : Nat) : Int)
        split <;> omega) ?_
      refine And.intro hi ?_
      (conv => whnf); repeat (first | (refine And.intro rfl ?_; conv => whnf) | fail)
      exact ⟨fun i y hy => hy, rfl, by decide, rfl, rfl⟩
  · have hk' : k = l.length := by omega
    subst hk'
    have tl : decide (((l.length : Nat) : Int) < ((VT.avs l).length : Nat)) = false := by rw [hlen, decide_eq_false_iff_not]; omega
    rw [List.drop_length, greatsV] at h
    have e : decide (((n : Nat) : Int) > 20000) = b := by rw [h, Bool.eq_iff_iff]; simp; omega
    repeat' (first | ((first | refine Sem.reg tt_ok ?_ | refine Sem.condS ?_ | refine Sem.regL tt_ok ?_ | refine Sem.skip tt_ok ?_ | refine Sem.exit tt_ok ?_ | refine Sem.ret tt_ok ?_ | refine BS_t (by assumption) ?_ | refine BS_f (by assumption) ?_ | refine (nthK_iff _ _).2 ⟨_, (by assumption), ?_⟩ | refine ⟨_, ⟨(by omega), (by assumption)⟩, ?_⟩ | refine And.intro (by first | decide | omega) ?_ | fail); conv => whnf) | refine Sem.seqS ?_ | refine Sem.block ?_ | fail)
    exact ⟨_, fun _ _ h => h, congrArg AV.bool e, rfl⟩
end Go.Proofs.YtgedlbfdhekdgaaDoor
