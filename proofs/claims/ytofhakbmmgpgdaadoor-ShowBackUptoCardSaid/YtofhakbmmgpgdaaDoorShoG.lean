/- What is too much to be asked (small, Great) in the abstract run. -/
import Derived.Test.YtofhakbmmgpgdaaDoorGk
set_option maxRecDepth 100000
set_option linter.unusedSimpArgs false
namespace Go.Proofs.YtofhakbmmgpgdaaDoor
open Go Go.RowKit Go.Proofs Go.Shelf

mutual
def smallG : GT → Nat → Bool
  | .mk _ _ of, deep => if 20 < deep ∨ 3 < of.length then false else smallsG of (deep + 1)
def smallsG : List GT → Nat → Bool
  | [], _ => true
  | t :: r, d => smallG t d && smallsG r (d + 2)
end
theorem smallG_mk (k : Int) (nm : List UInt8) (of : List GT) (deep : Nat) : smallG (.mk k nm of) deep = if 20 < deep ∨ 3 < of.length then false else smallsG of (deep + 1) := by rw [smallG]
def anyBig : List GF → Bool
  | [] => false
  | f :: r => if smallG f.ty 0 = true then anyBig r else true
def greatG : List GD → Nat → Bool
  | [], _ => false
  | d :: r, i => if 20 < i ∨ 30 < d.fields.length ∨ 30 < d.methods.length then true else if anyBig d.fields = true then true else greatG r (i + 1)
def SmallOk (t : GT) : Prop := ∀ (deep : Nat) (G : Glob), deep ≤ 100 → CallOk Tryd.prog TT 52 [.agg t.av, .int .i64 (deep : Nat)] G (fun v G' => v = .bool (smallG t deep) ∧ G' = G)
structure SmI (of : List GT) (d : Nat) (b : Bool) where
  k : Nat
  hk : k ≤ of.length
  h : b = smallsG (of.drop k) (d + 2 * k)
theorem small_ok : ∀ t, SmallOk t := GT.ind fun kd nm of ih deep G hd => by
  have hav : (GT.mk kd nm of).av = [.int .i64 kd, .str (S nm), .slc 81 (GT.avs of)] := by rw [GT.av]
  have hlen := avs_len of
  rw [hav, smallG_mk]
  by_cases h20 : 20 < deep
  · have c1 : decide (((deep : Nat) : Int) > 20) = true := by rw [decide_eq_true_eq]; omega
    rw [if_pos (.inl h20)]
    refine call_sem tt_ok Tryd.func52 rfl (by kernel_rfl) Tryd.ntmps52 Tryd.results52 ?_; conv => whnf
    repeat' (first | ((first | refine Sem.reg tt_ok ?_ | refine Sem.condS ?_ | refine Sem.regL tt_ok ?_ | refine Sem.skip tt_ok ?_ | refine Sem.exit tt_ok ?_ | refine Sem.ret tt_ok ?_ | refine BS_t (by assumption) ?_ | refine BS_f (by assumption) ?_ | refine (nthK_iff _ _).2 ⟨_, (by assumption), ?_⟩ | refine ⟨_, ⟨(by omega), (by assumption)⟩, ?_⟩ | refine And.intro (by first | decide | omega) ?_ | fail); conv => whnf) | refine Sem.seqS ?_ | refine Sem.block ?_ | fail)
    exact ⟨_, fun _ _ h => h, rfl, rfl⟩
  have c1 : decide (((deep : Nat) : Int) > 20) = false := by rw [decide_eq_false_iff_not]; omega
  by_cases h3 : 3 < of.length
  · have c2 : decide ((((GT.avs of).length : Nat) : Int) > 3) = true := by rw [hlen, decide_eq_true_eq]; omega
    rw [if_pos (.inr h3)]
    refine call_sem tt_ok Tryd.func52 rfl (by kernel_rfl) Tryd.ntmps52 Tryd.results52 ?_; conv => whnf
    repeat' (first | ((first | refine Sem.reg tt_ok ?_ | refine Sem.condS ?_ | refine Sem.regL tt_ok ?_ | refine Sem.skip tt_ok ?_ | refine Sem.exit tt_ok ?_ | refine Sem.ret tt_ok ?_ | refine BS_t (by assumption) ?_ | refine BS_f (by assumption) ?_ | refine (nthK_iff _ _).2 ⟨_, (by assumption), ?_⟩ | refine ⟨_, ⟨(by omega), (by assumption)⟩, ?_⟩ | refine And.intro (by first | decide | omega) ?_ | fail); conv => whnf) | refine Sem.seqS ?_ | refine Sem.block ?_ | fail)
    exact ⟨_, fun _ _ h => h, rfl, rfl⟩
  have c2 : decide ((((GT.avs of).length : Nat) : Int) > 3) = false := by rw [hlen, decide_eq_false_iff_not]; omega
  rw [if_neg (by omega)]
  generalize hb : smallsG of (deep + 1) = b
  refine call_sem tt_ok Tryd.func52 rfl (by kernel_rfl) Tryd.ntmps52 Tryd.results52 ?_; conv => whnf
  repeat' (first | ((first | refine Sem.reg tt_ok ?_ | refine Sem.condS ?_ | refine Sem.regL tt_ok ?_ | refine Sem.skip tt_ok ?_ | refine Sem.exit tt_ok ?_ | refine Sem.ret tt_ok ?_ | refine BS_t (by assumption) ?_ | refine BS_f (by assumption) ?_ | refine (nthK_iff _ _).2 ⟨_, (by assumption), ?_⟩ | refine ⟨_, ⟨(by omega), (by assumption)⟩, ?_⟩ | refine And.intro (by first | decide | omega) ?_ | fail); conv => whnf) | refine Sem.seqS ?_ | refine Sem.block ?_ | fail)
  refine Sem.loop (ι := SmI of (deep + 1) b) (fun x => ⟨(.top :: .int .i64 (deep : Nat) :: .lptr 0 0 :: .top :: .top :: .int .i64 (x.k : Nat) :: .top :: .top :: .top :: .top :: .top :: .top :: .top :: .top :: .top :: .top :: .top :: .top :: .top :: .top :: .top :: .top :: .top :: .top :: .top :: .top :: .top :: .top :: .top :: .top :: .top :: .top :: .top :: []), [.live none [.int .i64 kd, .str (S nm), .slc 81 (GT.avs of)]], 1, 0, G⟩) (fun x => of.length - x.k) ⟨0, Nat.zero_le _, hb.symm⟩ ?_ (fun x => ?_)
  · refine weak_by [] ?_; (conv => whnf); repeat (first | (refine And.intro rfl ?_; conv => whnf) | fail)
    exact ⟨fun i y hy => hy, rfl, by decide, rfl, rfl⟩
  obtain ⟨k, hk, h⟩ := x
  simp only
  have h0 : (0 : Int) ≤ ((k : Nat) : Int) := by omega
  by_cases hlt : k < of.length
  · obtain ⟨⟨k1, n1, of1⟩, hx⟩ : ∃ x, of[k]? = some x := ⟨_, List.getElem?_eq_getElem hlt⟩
    have tl : decide (((k : Nat) : Int) < ((GT.avs of).length : Nat)) = true := by rw [hlen, decide_eq_true_eq]; omega
    have hm := avs_at hx
    have hmem : GT.mk k1 n1 of1 ∈ of := List.mem_of_getElem? hx
    have hdr : of.drop k = .mk k1 n1 of1 :: of.drop (k + 1) := by
      obtain ⟨h1, h2⟩ := List.getElem?_eq_some_iff.1 hx
      rw [← h2]; exact List.drop_eq_getElem_cons h1
    rw [hdr, smallsG] at h
    have hi : IntKind.i64.wrap ((k : Int) + 1) = ((k + 1 : Nat) : Int) := by rw [IntWalk.i64_in _ (by omega)]; omega
    have w1 : IntKind.i64.wrap (((deep : Nat) : Int) + 1) = ((deep + 1 : Nat) : Int) := by rw [IntWalk.i64_in _ (by omega)]; omega
    have w2 : IntKind.i64.wrap (2 * ((k : Nat) : Int)) = ((2 * k : Nat) : Int) := by rw [IntWalk.i64_in _ (by omega)]; omega
    have w3 : IntKind.i64.wrap (((deep + 1 : Nat) : Int) + ((2 * k : Nat) : Int)) = ((deep + 1 + 2 * k : Nat) : Int) := by rw [IntWalk.i64_in _ (by omega)]; omega
    have hc := ih _ hmem (deep + 1 + 2 * k) G (by omega)
    rw [GT.av] at hc
    cases hs : smallG (.mk k1 n1 of1) (deep + 1 + 2 * k) with
    | false =>
      rw [hs] at hc h
      rw [Bool.false_and] at h
      subst h
      repeat' (first | ((first | refine Sem.reg tt_ok ?_ | refine Sem.condS ?_ | refine Sem.regL tt_ok ?_ | refine Sem.skip tt_ok ?_ | refine Sem.exit tt_ok ?_ | refine Sem.ret tt_ok ?_ | refine BS_t (by assumption) ?_ | refine BS_f (by assumption) ?_ | refine (nthK_iff _ _).2 ⟨_, (by assumption), ?_⟩ | refine ⟨_, ⟨(by omega), (by assumption)⟩, ?_⟩ | refine And.intro (by first | decide | omega) ?_ | fail); conv => whnf) | refine Sem.seqS ?_ | refine Sem.block ?_ | fail)
      rw [w1, w2, w3]
      refine hc.on ?_; conv => whnf
      repeat' (first | ((first | refine Sem.reg tt_ok ?_ | refine Sem.condS ?_ | refine Sem.regL tt_ok ?_ | refine Sem.skip tt_ok ?_ | refine Sem.exit tt_ok ?_ | refine Sem.ret tt_ok ?_ | refine BS_t (by assumption) ?_ | refine BS_f (by assumption) ?_ | refine (nthK_iff _ _).2 ⟨_, (by assumption), ?_⟩ | refine ⟨_, ⟨(by omega), (by assumption)⟩, ?_⟩ | refine And.intro (by first | decide | omega) ?_ | fail); conv => whnf) | refine Sem.seqS ?_ | refine Sem.block ?_ | fail)
      exact ⟨_, fun _ _ h => h, rfl, rfl⟩
    | true =>
      rw [hs] at hc h
      rw [Bool.true_and] at h
      repeat' (first | ((first | refine Sem.reg tt_ok ?_ | refine Sem.condS ?_ | refine Sem.regL tt_ok ?_ | refine Sem.skip tt_ok ?_ | refine Sem.exit tt_ok ?_ | refine Sem.ret tt_ok ?_ | refine BS_t (by assumption) ?_ | refine BS_f (by assumption) ?_ | refine (nthK_iff _ _).2 ⟨_, (by assumption), ?_⟩ | refine ⟨_, ⟨(by omega), (by assumption)⟩, ?_⟩ | refine And.intro (by first | decide | omega) ?_ | fail); conv => whnf) | refine Sem.seqS ?_ | refine Sem.block ?_ | fail)
      rw [w1, w2, w3]
      refine hc.on ?_; conv => whnf
      repeat' (first | ((first | refine Sem.reg tt_ok ?_ | refine Sem.condS ?_ | refine Sem.regL tt_ok ?_ | refine Sem.skip tt_ok ?_ | refine Sem.exit tt_ok ?_ | refine Sem.ret tt_ok ?_ | refine BS_t (by assumption) ?_ | refine BS_f (by assumption) ?_ | refine (nthK_iff _ _).2 ⟨_, (by assumption), ?_⟩ | refine ⟨_, ⟨(by omega), (by assumption)⟩, ?_⟩ | refine And.intro (by first | decide | omega) ?_ | fail); conv => whnf) | refine Sem.seqS ?_ | refine Sem.block ?_ | fail)
      refine ⟨⟨k + 1, by omega, by rw [h, show deep + 1 + 2 * k + 2 = deep + 1 + 2 * (k + 1) by omega]⟩, by show of.length - (k + 1) < of.length - k; omega, ?_⟩
      refine weak_by [] ?_; (conv => whnf); repeat (first | (refine And.intro rfl ?_; conv => whnf) | fail)
      refine And.intro hi ?_
      (conv => whnf); repeat (first | (refine And.intro rfl ?_; conv => whnf) | fail)
      exact ⟨fun i y hy => hy, rfl, by decide, rfl, rfl⟩
  · have hk' : k = of.length := by omega
    subst hk'
    have tl : decide (((of.length : Nat) : Int) < ((GT.avs of).length : Nat)) = false := by rw [hlen, decide_eq_false_iff_not]; omega
    rw [List.drop_length, smallsG] at h
    subst h
    repeat' (first | ((first | refine Sem.reg tt_ok ?_ | refine Sem.condS ?_ | refine Sem.regL tt_ok ?_ | refine Sem.skip tt_ok ?_ | refine Sem.exit tt_ok ?_ | refine Sem.ret tt_ok ?_ | refine BS_t (by assumption) ?_ | refine BS_f (by assumption) ?_ | refine (nthK_iff _ _).2 ⟨_, (by assumption), ?_⟩ | refine ⟨_, ⟨(by omega), (by assumption)⟩, ?_⟩ | refine And.intro (by first | decide | omega) ?_ | fail); conv => whnf) | refine Sem.seqS ?_ | refine Sem.block ?_ | fail)
    exact ⟨_, fun _ _ h => h, rfl, rfl⟩
structure GrI (l : List GD) (b : Bool) where
  i : Nat
  hi : i ≤ l.length
  h : b = greatG (l.drop i) i
structure GrK (fs : List GF) (r b : Bool) where
  k : Nat
  hk : k ≤ fs.length
  h : b = if anyBig (fs.drop k) = true then true else r
theorem great_ok (l : List GD) (hl : l.length ≤ 1048576) (G : Glob) : CallOk Tryd.prog TT 24 [.slc 77 (l.map GD.av)] G (fun v G' => v = .bool (greatG l 0) ∧ G' = G) := by
  have ll : (l.map GD.av).length = l.length := by simp
  generalize hb : greatG l 0 = b
  refine call_sem tt_ok Tryd.func24 rfl (by kernel_rfl) Tryd.ntmps24 Tryd.results24 ?_; conv => whnf
  repeat' (first | ((first | refine Sem.reg tt_ok ?_ | refine Sem.condS ?_ | refine Sem.regL tt_ok ?_ | refine Sem.skip tt_ok ?_ | refine Sem.exit tt_ok ?_ | refine Sem.ret tt_ok ?_ | refine BS_t (by assumption) ?_ | refine BS_f (by assumption) ?_ | refine (nthK_iff _ _).2 ⟨_, (by assumption), ?_⟩ | refine ⟨_, ⟨(by omega), (by assumption)⟩, ?_⟩ | refine And.intro (by first | decide | omega) ?_ | fail); conv => whnf) | refine Sem.seqS ?_ | refine Sem.block ?_ | fail)
  refine Sem.loop (ι := GrI l b) (fun x => ⟨(.slc 77 (l.map GD.av) :: .top :: .top :: .int .i64 (x.i : Nat) :: .top :: .top :: .top :: .top :: .top :: .top :: .top :: .top :: .top :: .top :: .top :: .top :: .top :: .top :: .top :: .top :: .top :: .top :: .top :: .top :: .top :: .top :: .top :: .top :: .top :: .top :: .top :: .top :: .top :: .top :: .top :: .top :: .top :: .top :: .top :: .top :: .top :: .top :: .top :: .top :: .top :: .top :: .top :: .top :: .top :: .top :: .top :: .top :: []), [], 0, 0, G⟩) (fun x => l.length - x.i) ⟨0, Nat.zero_le _, hb.symm⟩ ?_ (fun x => ?_)
  · refine weak_by [] ?_; (conv => whnf); repeat (first | (refine And.intro rfl ?_; conv => whnf) | fail)
    exact ⟨fun i y hy => hy, rfl, by decide, rfl, rfl⟩
  obtain ⟨i, hi, h⟩ := x
  simp only
  have h0 : (0 : Int) ≤ ((i : Nat) : Int) := by omega
  by_cases hlt : i < l.length
  · obtain ⟨⟨kd, nm, fs, ms, pa⟩, hx⟩ : ∃ x, l[i]? = some x := ⟨_, List.getElem?_eq_getElem hlt⟩
    have tl : decide (((i : Nat) : Int) < ((l.map GD.av).length : Nat)) = true := by rw [ll, decide_eq_true_eq]; omega
    have hm := gd_at hx
    have hdr : l.drop i = ⟨kd, nm, fs, ms, pa⟩ :: l.drop (i + 1) := by
      obtain ⟨h1, h2⟩ := List.getElem?_eq_some_iff.1 hx
      rw [← h2]; exact List.drop_eq_getElem_cons h1
    rw [hdr, greatG] at h
    simp only at h
    have lf : (fs.map GF.av).length = fs.length := by simp
    have lm : (ms.map GM.av).length = ms.length := by simp
    have hwi : IntKind.i64.wrap ((i : Int) + 1) = ((i + 1 : Nat) : Int) := by rw [IntWalk.i64_in _ (by omega)]; omega
    by_cases h20 : 20 < i
    · have c1 : decide (((i : Nat) : Int) > 20) = true := by rw [decide_eq_true_eq]; omega
      rw [if_pos (.inl h20)] at h
      subst h
      repeat' (first | ((first | refine Sem.reg tt_ok ?_ | refine Sem.condS ?_ | refine Sem.regL tt_ok ?_ | refine Sem.skip tt_ok ?_ | refine Sem.exit tt_ok ?_ | refine Sem.ret tt_ok ?_ | refine BS_t (by assumption) ?_ | refine BS_f (by assumption) ?_ | refine (nthK_iff _ _).2 ⟨_, (by assumption), ?_⟩ | refine ⟨_, ⟨(by omega), (by assumption)⟩, ?_⟩ | refine And.intro (by first | decide | omega) ?_ | fail); conv => whnf) | refine Sem.seqS ?_ | refine Sem.block ?_ | fail)
      exact ⟨_, fun _ _ h => h, rfl, rfl⟩
    have c1 : decide (((i : Nat) : Int) > 20) = false := by rw [decide_eq_false_iff_not]; omega
    by_cases h30 : 30 < fs.length
    · have c2 : decide ((((fs.map GF.av).length : Nat) : Int) > 30) = true := by rw [lf, decide_eq_true_eq]; omega
      rw [if_pos (.inr (.inl h30))] at h
      subst h
      repeat' (first | ((first | refine Sem.reg tt_ok ?_ | refine Sem.condS ?_ | refine Sem.regL tt_ok ?_ | refine Sem.skip tt_ok ?_ | refine Sem.exit tt_ok ?_ | refine Sem.ret tt_ok ?_ | refine BS_t (by assumption) ?_ | refine BS_f (by assumption) ?_ | refine (nthK_iff _ _).2 ⟨_, (by assumption), ?_⟩ | refine ⟨_, ⟨(by omega), (by assumption)⟩, ?_⟩ | refine And.intro (by first | decide | omega) ?_ | fail); conv => whnf) | refine Sem.seqS ?_ | refine Sem.block ?_ | fail)
      exact ⟨_, fun _ _ h => h, rfl, rfl⟩
    have c2 : decide ((((fs.map GF.av).length : Nat) : Int) > 30) = false := by rw [lf, decide_eq_false_iff_not]; omega
    by_cases h31 : 30 < ms.length
    · have c3 : decide ((((ms.map GM.av).length : Nat) : Int) > 30) = true := by rw [lm, decide_eq_true_eq]; omega
      rw [if_pos (.inr (.inr h31))] at h
      subst h
      repeat' (first | ((first | refine Sem.reg tt_ok ?_ | refine Sem.condS ?_ | refine Sem.regL tt_ok ?_ | refine Sem.skip tt_ok ?_ | refine Sem.exit tt_ok ?_ | refine Sem.ret tt_ok ?_ | refine BS_t (by assumption) ?_ | refine BS_f (by assumption) ?_ | refine (nthK_iff _ _).2 ⟨_, (by assumption), ?_⟩ | refine ⟨_, ⟨(by omega), (by assumption)⟩, ?_⟩ | refine And.intro (by first | decide | omega) ?_ | fail); conv => whnf) | refine Sem.seqS ?_ | refine Sem.block ?_ | fail)
      exact ⟨_, fun _ _ h => h, rfl, rfl⟩
    have c3 : decide ((((ms.map GM.av).length : Nat) : Int) > 30) = false := by rw [lm, decide_eq_false_iff_not]; omega
    rw [if_neg (by omega)] at h
    repeat' (first | ((first | refine Sem.reg tt_ok ?_ | refine Sem.condS ?_ | refine Sem.regL tt_ok ?_ | refine Sem.skip tt_ok ?_ | refine Sem.exit tt_ok ?_ | refine Sem.ret tt_ok ?_ | refine BS_t (by assumption) ?_ | refine BS_f (by assumption) ?_ | refine (nthK_iff _ _).2 ⟨_, (by assumption), ?_⟩ | refine ⟨_, ⟨(by omega), (by assumption)⟩, ?_⟩ | refine And.intro (by first | decide | omega) ?_ | fail); conv => whnf) | refine Sem.seqS ?_ | refine Sem.block ?_ | fail)
    refine Sem.loop (ι := GrK fs (greatG (l.drop (i + 1)) (i + 1)) b) (fun x => ⟨(.slc 77 (l.map GD.av) :: .top :: .top :: .int .i64 (i : Nat) :: .int .i64 (x.k : Nat) :: .top :: .top :: .top :: .top :: .top :: .top :: .top :: .top :: .top :: .top :: .top :: .top :: .top :: .top :: .top :: .top :: .top :: .top :: .top :: .top :: .top :: .top :: .top :: .top :: .top :: .top :: .top :: .top :: .top :: .top :: .top :: .top :: .top :: .top :: .top :: .top :: .top :: .top :: .top :: .top :: .top :: .top :: .top :: .top :: .top :: .top :: .top :: []), [], 0, 0, G⟩) (fun x => fs.length - x.k) ⟨0, Nat.zero_le _, h⟩ ?_ (fun x => ?_)
    · refine weak_by [] ?_; (conv => whnf); repeat (first | (refine And.intro rfl ?_; conv => whnf) | fail)
      exact ⟨fun i y hy => hy, rfl, by decide, rfl, rfl⟩
    clear h
    obtain ⟨k, hk, h⟩ := x
    simp only
    have hk0 : (0 : Int) ≤ ((k : Nat) : Int) := by omega
    by_cases hlk : k < fs.length
    · obtain ⟨⟨tg, n1, ⟨k1, n2, of1⟩⟩, hy⟩ : ∃ x, fs[k]? = some x := ⟨_, List.getElem?_eq_getElem hlk⟩
      have tk : decide (((k : Nat) : Int) < ((fs.map GF.av).length : Nat)) = true := by rw [lf, decide_eq_true_eq]; omega
      have hmk := gf_at hy
      have hdk : fs.drop k = ⟨tg, n1, .mk k1 n2 of1⟩ :: fs.drop (k + 1) := by
        obtain ⟨h1, h2⟩ := List.getElem?_eq_some_iff.1 hy
        rw [← h2]; exact List.drop_eq_getElem_cons h1
      rw [hdk, anyBig] at h
      simp only at h
      have hc := small_ok (.mk k1 n2 of1) 0 G (by omega)
      rw [GT.av] at hc
      have hwk : IntKind.i64.wrap ((k : Int) + 1) = ((k + 1 : Nat) : Int) := by rw [IntWalk.i64_in _ (by omega)]; omega
      cases hs : smallG (.mk k1 n2 of1) 0 with
      | false =>
        rw [hs] at hc h
        rw [if_neg (show ¬ (false = true) by decide), if_pos rfl] at h
        subst h
        repeat' (first | ((first | refine Sem.reg tt_ok ?_ | refine Sem.condS ?_ | refine Sem.regL tt_ok ?_ | refine Sem.skip tt_ok ?_ | refine Sem.exit tt_ok ?_ | refine Sem.ret tt_ok ?_ | refine BS_t (by assumption) ?_ | refine BS_f (by assumption) ?_ | refine (nthK_iff _ _).2 ⟨_, (by assumption), ?_⟩ | refine ⟨_, ⟨(by omega), (by assumption)⟩, ?_⟩ | refine And.intro (by first | decide | omega) ?_ | fail); conv => whnf) | refine Sem.seqS ?_ | refine Sem.block ?_ | fail)
        refine hc.on ?_; conv => whnf
        repeat' (first | ((first | refine Sem.reg tt_ok ?_ | refine Sem.condS ?_ | refine Sem.regL tt_ok ?_ | refine Sem.skip tt_ok ?_ | refine Sem.exit tt_ok ?_ | refine Sem.ret tt_ok ?_ | refine BS_t (by assumption) ?_ | refine BS_f (by assumption) ?_ | refine (nthK_iff _ _).2 ⟨_, (by assumption), ?_⟩ | refine ⟨_, ⟨(by omega), (by assumption)⟩, ?_⟩ | refine And.intro (by first | decide | omega) ?_ | fail); conv => whnf) | refine Sem.seqS ?_ | refine Sem.block ?_ | fail)
        exact ⟨_, fun _ _ h => h, rfl, rfl⟩
      | true =>
        rw [hs] at hc h
        rw [if_pos (show true = true from rfl)] at h
        repeat' (first | ((first | refine Sem.reg tt_ok ?_ | refine Sem.condS ?_ | refine Sem.regL tt_ok ?_ | refine Sem.skip tt_ok ?_ | refine Sem.exit tt_ok ?_ | refine Sem.ret tt_ok ?_ | refine BS_t (by assumption) ?_ | refine BS_f (by assumption) ?_ | refine (nthK_iff _ _).2 ⟨_, (by assumption), ?_⟩ | refine ⟨_, ⟨(by omega), (by assumption)⟩, ?_⟩ | refine And.intro (by first | decide | omega) ?_ | fail); conv => whnf) | refine Sem.seqS ?_ | refine Sem.block ?_ | fail)
        refine hc.on ?_; conv => whnf
        repeat' (first | ((first | refine Sem.reg tt_ok ?_ | refine Sem.condS ?_ | refine Sem.regL tt_ok ?_ | refine Sem.skip tt_ok ?_ | refine Sem.exit tt_ok ?_ | refine Sem.ret tt_ok ?_ | refine BS_t (by assumption) ?_ | refine BS_f (by assumption) ?_ | refine (nthK_iff _ _).2 ⟨_, (by assumption), ?_⟩ | refine ⟨_, ⟨(by omega), (by assumption)⟩, ?_⟩ | refine And.intro (by first | decide | omega) ?_ | fail); conv => whnf) | refine Sem.seqS ?_ | refine Sem.block ?_ | fail)
        refine ⟨⟨k + 1, by omega, h⟩, by show fs.length - (k + 1) < fs.length - k; omega, ?_⟩
        refine weak_by [] ?_; (conv => whnf); repeat (first | (refine And.intro rfl ?_; conv => whnf) | fail)
        refine And.intro hwk ?_
        (conv => whnf); repeat (first | (refine And.intro rfl ?_; conv => whnf) | fail)
        exact ⟨fun i y hy => hy, rfl, by decide, rfl, rfl⟩
    · have hk' : k = fs.length := by omega
      subst hk'
      have tk : decide (((fs.length : Nat) : Int) < ((fs.map GF.av).length : Nat)) = false := by rw [lf, decide_eq_false_iff_not]; omega
      rw [List.drop_length, anyBig, if_neg (show ¬ (false = true) by decide)] at h
      repeat' (first | ((first | refine Sem.reg tt_ok ?_ | refine Sem.condS ?_ | refine Sem.regL tt_ok ?_ | refine Sem.skip tt_ok ?_ | refine Sem.exit tt_ok ?_ | refine Sem.ret tt_ok ?_ | refine BS_t (by assumption) ?_ | refine BS_f (by assumption) ?_ | refine (nthK_iff _ _).2 ⟨_, (by assumption), ?_⟩ | refine ⟨_, ⟨(by omega), (by assumption)⟩, ?_⟩ | refine And.intro (by first | decide | omega) ?_ | fail); conv => whnf) | refine Sem.seqS ?_ | refine Sem.block ?_ | fail)
      refine ⟨⟨i + 1, by omega, h⟩, by show l.length - (i + 1) < l.length - i; omega, ?_⟩
      refine weak_by [] ?_; (conv => whnf); repeat (first | (refine And.intro rfl ?_; conv => whnf) | fail)
      refine And.intro hwi ?_
      (conv => whnf); repeat (first | (refine And.intro rfl ?_; conv => whnf) | fail)
      exact ⟨fun i y hy => hy, rfl, by decide, rfl, rfl⟩
  · have hk' : i = l.length := by omega
    subst hk'
    have tl : decide (((l.length : Nat) : Int) < ((l.map GD.av).length : Nat)) = false := by rw [ll, decide_eq_false_iff_not]; omega
    rw [List.drop_length, greatG] at h
    subst h
    repeat' (first | ((first | refine Sem.reg tt_ok ?_ | refine Sem.condS ?_ | refine Sem.regL tt_ok ?_ | refine Sem.skip tt_ok ?_ | refine Sem.exit tt_ok ?_ | refine Sem.ret tt_ok ?_ | refine BS_t (by assumption) ?_ | refine BS_f (by assumption) ?_ | refine (nthK_iff _ _).2 ⟨_, (by assumption), ?_⟩ | refine ⟨_, ⟨(by omega), (by assumption)⟩, ?_⟩ | refine And.intro (by first | decide | omega) ?_ | fail); conv => whnf) | refine Sem.seqS ?_ | refine Sem.block ?_ | fail)
    exact ⟨_, fun _ _ h => h, rfl, rfl⟩
end Go.Proofs.YtofhakbmmgpgdaaDoor
