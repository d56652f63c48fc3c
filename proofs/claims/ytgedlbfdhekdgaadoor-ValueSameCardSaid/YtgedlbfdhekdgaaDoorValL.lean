/- value.Deep at every tree; chapter 15's example (value.Well through an interface). -/
import Derived.Test.YtgedlbfdhekdgaaDoorValK
import Derived.Test.YtgedlbfdhekdgaaDoorCto
set_option maxRecDepth 100000
set_option linter.unusedSimpArgs false
namespace Go.Proofs.YtgedlbfdhekdgaaDoor
open Go Go.RowKit Go.Proofs

mutual
def deepV : VT → Nat
  | .mk _ _ _ _ l => deepsV l 0 + 1
def deepsV : List VT → Nat → Nat
  | [], n => n
  | t :: r, n => deepsV r (max n (deepV t))
end
theorem deepV_mk (k n : Int) (s : List UInt8) (tags : List Int) (l : List VT) : deepV (.mk k n s tags l) = deepsV l 0 + 1 := by rw [deepV]
theorem deeps_take (l : List VT) : ∀ (n k : Nat) (x : VT), l[k]? = some x → deepsV (l.take (k + 1)) n = max (deepsV (l.take k) n) (deepV x) := by
  induction l with
  | nil => intro n k x h; simp at h
  | cons y r ih =>
    intro n k x h
    cases k with
    | zero => cases h; simp [deepsV]
    | succ k => rw [List.take_succ_cons, List.take_succ_cons, deepsV, deepsV, ih _ k x h]
theorem deeps_le (l : List VT) (ih : ∀ x ∈ l, deepV x ≤ sizeV x) : ∀ n, deepsV l n ≤ n + sizesV l := by
  induction l with
  | nil => intro n; simp [deepsV, sizesV]
  | cons y r ihl =>
    intro n
    rw [deepsV, sizesV]
    have h1 := ih y (by simp)
    have h2 := ihl (fun x hx => ih x (by simp [hx])) (max n (deepV y))
    omega
theorem deep_le : ∀ v : VT, deepV v ≤ sizeV v := VT.ind fun k n s t l ih => by
  rw [deepV_mk, sizeV_mk]
  have := deeps_le l ih 0
  omega
def VDeepOk (v : VT) : Prop := ∀ G : Glob, sizeV v ≤ 1000000000000000 → CallOk Tryd.prog TT 15 [.agg v.av] G (fun r G' => r = .int .i64 (deepV v : Nat) ∧ G' = G)
theorem vdeep_ok : ∀ v, VDeepOk v := VT.ind fun kd nm s tags l ih G hl => by
  have hav : (VT.mk kd nm s tags l).av = [.int .i64 kd, .int .i64 nm, .str (S s), .slc 3 (tags.map tagA), .slc 25 (VT.avs l)] := by rw [VT.av]
  have hdl := deep_le (.mk kd nm s tags l)
  rw [hav]
  rw [deepV_mk] at hdl ⊢
  rw [sizeV_mk] at hl hdl
  have hlen := vavs_len l
  have hn := sizes_len l
  refine call_sem tt_ok Tryd.func15 rfl (by kernel_rfl) Tryd.ntmps15 Tryd.results15 ?_; conv => whnf
  repeat' (first | ((first | refine Sem.reg tt_ok ?_ | refine Sem.condS ?_ | refine Sem.regL tt_ok ?_ | refine Sem.skip tt_ok ?_ | refine Sem.exit tt_ok ?_ | refine Sem.ret tt_ok ?_ | refine BS_t (by assumption) ?_ | refine BS_f (by assumption) ?_ | refine (nthK_iff _ _).2 ⟨_, (by assumption), ?_⟩ | refine ⟨_, ⟨(by omega), (by assumption)⟩, ?_⟩ | refine And.intro (by first | decide | omega) ?_ | fail); conv => whnf) | refine Sem.seqS ?_ | refine Sem.block ?_ | fail)
  refine Sem.loop (ι := VI l.length) (fun x => ⟨(.top :: .lptr 0 0 :: .int .i64 0 :: .int .i64 (deepsV (l.take x.k) 0 : Nat) :: .top :: .top :: .top :: .slc 25 (VT.avs l) :: .int .i64 ((VT.avs l).length : Nat) :: .int .i64 (x.k : Nat) :: .top :: .top :: .top :: .top :: .top :: .top :: .top :: .top :: .top :: .top :: []), [.live none [.int .i64 kd, .int .i64 nm, .str (S s), .slc 3 (tags.map tagA), .slc 25 (VT.avs l)]], 1, 0, G⟩) (fun x => l.length - x.k) ⟨0, Nat.zero_le _⟩ ?_ (fun x => ?_)
  · refine weak_by [] ?_; (conv => whnf); repeat (first | (refine And.intro rfl ?_; conv => whnf) | fail)
    exact ⟨fun i y hy => hy, rfl, by decide, rfl, rfl⟩
  obtain ⟨k, hk⟩ := x
  simp only
  have h0 : (0 : Int) ≤ ((k : Nat) : Int) := by omega
  by_cases hlt : k < l.length
  · obtain ⟨⟨k1, n1, s1, t1, l1⟩, hx⟩ : ∃ x, l[k]? = some x := ⟨_, List.getElem?_eq_getElem hlt⟩
    have tl : decide (((k : Nat) : Int) < ((VT.avs l).length : Nat)) = true := by rw [hlen, decide_eq_true_eq]; omega
    have hm := vavs_at hx
    have hmem : VT.mk k1 n1 s1 t1 l1 ∈ l := List.mem_of_getElem? hx
    have hft := deeps_take l 0 k _ hx
    have hst := sizes_take l k _ hx
    have hle1 := sizes_le l (k + 1)
    have hc := ih _ hmem G (by omega)
    rw [VT.av] at hc
    have hi : IntKind.i64.wrap ((k : Int) + 1) = ((k + 1 : Nat) : Int) := by rw [IntWalk.i64_in _ (by omega)]; omega
    repeat' (first | ((first | refine Sem.reg tt_ok ?_ | refine Sem.condS ?_ | refine Sem.regL tt_ok ?_ | refine Sem.skip tt_ok ?_ | refine Sem.exit tt_ok ?_ | refine Sem.ret tt_ok ?_ | refine BS_t (by assumption) ?_ | refine BS_f (by assumption) ?_ | refine (nthK_iff _ _).2 ⟨_, (by assumption), ?_⟩ | refine ⟨_, ⟨(by omega), (by assumption)⟩, ?_⟩ | refine And.intro (by first | decide | omega) ?_ | fail); conv => whnf) | refine Sem.seqS ?_ | refine Sem.block ?_ | fail)
    refine hc.on ?_; conv => whnf
    repeat' (first | ((first | refine Sem.reg tt_ok ?_ | refine Sem.condS ?_ | refine Sem.regL tt_ok ?_ | refine Sem.skip tt_ok ?_ | refine Sem.exit tt_ok ?_ | refine Sem.ret tt_ok ?_ | refine BS_t (by assumption) ?_ | refine BS_f (by assumption) ?_ | refine (nthK_iff _ _).2 ⟨_, (by assumption), ?_⟩ | refine ⟨_, ⟨(by omega), (by assumption)⟩, ?_⟩ | refine And.intro (by first | decide | omega) ?_ | fail); conv => whnf) | refine Sem.seqS ?_ | refine Sem.block ?_ | fail)
    refine ⟨⟨k + 1, by omega⟩, by show l.length - (k + 1) < l.length - k; omega, ?_⟩
    refine weak_by [] ?_; (conv => whnf); repeat (first | (refine And.intro rfl ?_; conv => whnf) | fail)
    refine And.intro (by
      rw [hft]
      show (if ((deepV (.mk k1 n1 s1 t1 l1) : Nat) : Int) > ((deepsV (l.take k) 0 : Nat) : Int) then ((deepV (.mk k1 n1 s1 t1 l1) : Nat) : Int) else ((deepsV (l.take k) 0 : Nat) : Int)) = ((max (deepsV (l.take k) 0) (deepV (.mk k1 n1 s1 t1 l1)) : Nat) : Int)
      split <;> omega) ?_
    (conv => whnf); repeat (first | (refine And.intro rfl ?_; conv => whnf) | fail)
    refine And.intro hi ?_
    (conv => whnf); repeat (first | (refine And.intro rfl ?_; conv => whnf) | fail)
    exact ⟨fun i y hy => hy, rfl, by decide, rfl, rfl⟩
  · have hk' : k = l.length := by omega
    subst hk'
    have tl : decide (((l.length : Nat) : Int) < ((VT.avs l).length : Nat)) = false := by rw [hlen, decide_eq_false_iff_not]; omega
    rw [List.take_length]
    have hi : IntKind.i64.wrap (((deepsV l 0 : Nat) : Int) + 1) = ((deepsV l 0 + 1 : Nat) : Int) := by rw [IntWalk.i64_in _ (by omega)]; omega
    repeat' (first | ((first | refine Sem.reg tt_ok ?_ | refine Sem.condS ?_ | refine Sem.regL tt_ok ?_ | refine Sem.skip tt_ok ?_ | refine Sem.exit tt_ok ?_ | refine Sem.ret tt_ok ?_ | refine BS_t (by assumption) ?_ | refine BS_f (by assumption) ?_ | refine (nthK_iff _ _).2 ⟨_, (by assumption), ?_⟩ | refine ⟨_, ⟨(by omega), (by assumption)⟩, ?_⟩ | refine And.intro (by first | decide | omega) ?_ | fail); conv => whnf) | refine Sem.seqS ?_ | refine Sem.block ?_ | fail)
    exact ⟨_, fun _ _ h => h, congrArg (AV.int .i64) hi, rfl⟩
theorem idx_ok (l : List VT) (n : FuncId) (G : Glob) (hl : l.length ≤ 1000000) (h : ∀ x ∈ l, CallOk Tryd.prog TT n [.agg x.av] G (fun v G' => v = .bool false ∧ G' = G)) :
    CallOk Tryd.prog TT 37 [.slc 25 (VT.avs l), .fn (.func n) [] []] G (fun v G' => v = .bool false ∧ G' = G) := by
  have hlen := vavs_len l
  have hi : CallOk Tryd.prog TT 52 [.slc 25 (VT.avs l), .fn (.func n) [] []] G (fun v G' => v = .int .i64 (-1) ∧ G' = G) := by
    refine call_sem tt_ok Tryd.func52 rfl (by kernel_rfl) Tryd.ntmps52 Tryd.results52 ?_; conv => whnf
    repeat' (first | ((first | refine Sem.reg tt_ok ?_ | refine Sem.condS ?_ | refine Sem.regL tt_ok ?_ | refine Sem.skip tt_ok ?_ | refine Sem.exit tt_ok ?_ | refine Sem.ret tt_ok ?_ | refine BS_t (by assumption) ?_ | refine BS_f (by assumption) ?_ | refine (nthK_iff _ _).2 ⟨_, (by assumption), ?_⟩ | refine ⟨_, ⟨(by omega), (by assumption)⟩, ?_⟩ | refine And.intro (by first | decide | omega) ?_ | fail); conv => whnf) | refine Sem.seqS ?_ | refine Sem.block ?_ | fail)
    refine Sem.loop (ι := VI l.length) (fun x => ⟨(.slc 25 (VT.avs l) :: .fn (.func n) [] [] :: .top :: .top :: .int .i64 0 :: .top :: .top :: .int .i64 ((VT.avs l).length : Nat) :: .int .i64 (x.k : Nat) :: .top :: .top :: .top :: .top :: .top :: .top :: .top :: .top :: .top :: .top :: []), [], 0, 0, G⟩) (fun x => l.length - x.k) ⟨0, Nat.zero_le _⟩ ?_ (fun x => ?_)
    · refine weak_by [] ?_; (conv => whnf); repeat (first | (refine And.intro rfl ?_; conv => whnf) | fail)
      exact ⟨fun i y hy => hy, rfl, by decide, rfl, rfl⟩
    obtain ⟨k, hk⟩ := x
    simp only
    have h0 : (0 : Int) ≤ ((k : Nat) : Int) := by omega
    by_cases hlt : k < l.length
    · obtain ⟨⟨k1, n1, s1, t1, l1⟩, hx⟩ : ∃ x, l[k]? = some x := ⟨_, List.getElem?_eq_getElem hlt⟩
      have tl : decide (((k : Nat) : Int) < ((VT.avs l).length : Nat)) = true := by rw [hlen, decide_eq_true_eq]; omega
      have hm := vavs_at hx
      have hc := h _ (List.mem_of_getElem? hx)
      rw [VT.av] at hc
      have hi : IntKind.i64.wrap ((k : Int) + 1) = ((k + 1 : Nat) : Int) := by rw [IntWalk.i64_in _ (by omega)]; omega
      repeat' (first | ((first | refine Sem.reg tt_ok ?_ | refine Sem.condS ?_ | refine Sem.regL tt_ok ?_ | refine Sem.skip tt_ok ?_ | refine Sem.exit tt_ok ?_ | refine Sem.ret tt_ok ?_ | refine BS_t (by assumption) ?_ | refine BS_f (by assumption) ?_ | refine (nthK_iff _ _).2 ⟨_, (by assumption), ?_⟩ | refine ⟨_, ⟨(by omega), (by assumption)⟩, ?_⟩ | refine And.intro (by first | decide | omega) ?_ | fail); conv => whnf) | refine Sem.seqS ?_ | refine Sem.block ?_ | fail)
      refine hc.on ?_; conv => whnf
      repeat' (first | ((first | refine Sem.reg tt_ok ?_ | refine Sem.condS ?_ | refine Sem.regL tt_ok ?_ | refine Sem.skip tt_ok ?_ | refine Sem.exit tt_ok ?_ | refine Sem.ret tt_ok ?_ | refine BS_t (by assumption) ?_ | refine BS_f (by assumption) ?_ | refine (nthK_iff _ _).2 ⟨_, (by assumption), ?_⟩ | refine ⟨_, ⟨(by omega), (by assumption)⟩, ?_⟩ | refine And.intro (by first | decide | omega) ?_ | fail); conv => whnf) | refine Sem.seqS ?_ | refine Sem.block ?_ | fail)
      refine ⟨⟨k + 1, by omega⟩, by show l.length - (k + 1) < l.length - k; omega, ?_⟩
      refine weak_by [] ?_; (conv => whnf); repeat (first | (refine And.intro rfl ?_; conv => whnf) | fail)
      refine And.intro hi ?_
      (conv => whnf); repeat (first | (refine And.intro rfl ?_; conv => whnf) | fail)
      exact ⟨fun i y hy => hy, rfl, by decide, rfl, rfl⟩
    · have hk' : k = l.length := by omega
      subst hk'
      have tl : decide (((l.length : Nat) : Int) < ((VT.avs l).length : Nat)) = false := by rw [hlen, decide_eq_false_iff_not]; omega
      repeat' (first | ((first | refine Sem.reg tt_ok ?_ | refine Sem.condS ?_ | refine Sem.regL tt_ok ?_ | refine Sem.skip tt_ok ?_ | refine Sem.exit tt_ok ?_ | refine Sem.ret tt_ok ?_ | refine BS_t (by assumption) ?_ | refine BS_f (by assumption) ?_ | refine (nthK_iff _ _).2 ⟨_, (by assumption), ?_⟩ | refine ⟨_, ⟨(by omega), (by assumption)⟩, ?_⟩ | refine And.intro (by first | decide | omega) ?_ | fail); conv => whnf) | refine Sem.seqS ?_ | refine Sem.block ?_ | fail)
      exact ⟨_, fun _ _ h => h, rfl, rfl⟩
  refine call_sem tt_ok Tryd.func37 rfl (by kernel_rfl) Tryd.ntmps37 Tryd.results37 ?_; conv => whnf
  repeat' (first | ((first | refine Sem.reg tt_ok ?_ | refine Sem.condS ?_ | refine Sem.regL tt_ok ?_ | refine Sem.skip tt_ok ?_ | refine Sem.exit tt_ok ?_ | refine Sem.ret tt_ok ?_ | refine BS_t (by assumption) ?_ | refine BS_f (by assumption) ?_ | refine (nthK_iff _ _).2 ⟨_, (by assumption), ?_⟩ | refine ⟨_, ⟨(by omega), (by assumption)⟩, ?_⟩ | refine And.intro (by first | decide | omega) ?_ | fail); conv => whnf) | refine Sem.seqS ?_ | refine Sem.block ?_ | fail)
  refine hi.on ?_; conv => whnf
  repeat' (first | ((first | refine Sem.reg tt_ok ?_ | refine Sem.condS ?_ | refine Sem.regL tt_ok ?_ | refine Sem.skip tt_ok ?_ | refine Sem.exit tt_ok ?_ | refine Sem.ret tt_ok ?_ | refine BS_t (by assumption) ?_ | refine BS_f (by assumption) ?_ | refine (nthK_iff _ _).2 ⟨_, (by assumption), ?_⟩ | refine ⟨_, ⟨(by omega), (by assumption)⟩, ?_⟩ | refine And.intro (by first | decide | omega) ?_ | fail); conv => whnf) | refine Sem.seqS ?_ | refine Sem.block ?_ | fail)
  exact ⟨_, fun _ _ h => h, rfl, rfl⟩
end Go.Proofs.YtgedlbfdhekdgaaDoor
