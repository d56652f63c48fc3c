/- The document's Size in the abstract run. -/
import Derived.Test.YtgedlbfdhekdgaaDoorValD
set_option maxRecDepth 100000
set_option linter.unusedSimpArgs false
namespace Go.Proofs.YtgedlbfdhekdgaaDoor
open Go Go.RowKit Go.Proofs

mutual
def sizeV : VT → Nat
  | .mk _ _ s _ l => 8 + s.length + sizesV l
def sizesV : List VT → Nat
  | [] => 0
  | t :: r => sizeV t + sizesV r
end
theorem sizeV_mk (k n : Int) (s : List UInt8) (tags : List Int) (l : List VT) : sizeV (.mk k n s tags l) = 8 + s.length + sizesV l := by rw [sizeV]
theorem sizes_take (l : List VT) : ∀ (k : Nat) (x : VT), l[k]? = some x → sizesV (l.take (k + 1)) = sizesV (l.take k) + sizeV x := by
  induction l with
  | nil => intro k x h; simp at h
  | cons y r ih =>
    intro k x h
    cases k with
    | zero => cases h; simp [sizesV]
    | succ k => rw [List.take_succ_cons, List.take_succ_cons, sizesV, sizesV, ih k x h, Nat.add_assoc]
theorem sizes_le (l : List VT) : ∀ (k : Nat), sizesV (l.take k) ≤ sizesV l := by
  induction l with
  | nil => intro k; simp
  | cons y r ih =>
    intro k
    cases k with
    | zero => simp [sizesV]
    | succ k => rw [List.take_succ_cons, sizesV, sizesV]; have := ih k; omega
def RSizeOk (v : VT) : Prop := ∀ G : Glob, sizeV v ≤ 1000000000000000 → CallOk Tryd.prog TT 13 [.agg v.av] G (fun r G' => r = .int .i64 (sizeV v : Nat) ∧ G' = G)
structure VI (n : Nat) where
  k : Nat
  hk : k ≤ n
theorem sizes_len : ∀ l : List VT, l.length ≤ sizesV l
  | [] => Nat.zero_le _
  | x :: r => by
    obtain ⟨k, n, s, tags, l⟩ := x
    rw [sizesV, sizeV_mk, List.length_cons]
    have := sizes_len r
    omega
theorem rsize_ok : ∀ v, RSizeOk v := VT.ind fun kd nm s tags l ih G hl => by
  have hav : (VT.mk kd nm s tags l).av = [.int .i64 kd, .int .i64 nm, .str (S s), .slc 3 (tags.map tagA), .slc 25 (VT.avs l)] := by rw [VT.av]
  rw [hav]
  rw [sizeV_mk] at hl ⊢
  have hlen := vavs_len l
  have hsz := S_size s
  have hn := sizes_len l
  have w0 : IntKind.i64.wrap (8 + ((S s).size : Nat)) = ((8 + s.length : Nat) : Int) := by rw [hsz, IntWalk.i64_in _ (by omega)]; omega
  refine call_sem tt_ok Tryd.func13 rfl (by kernel_rfl) Tryd.ntmps13 Tryd.results13 ?_; conv => whnf
  repeat' (first | ((first | refine Sem.reg tt_ok ?_ | refine Sem.condS ?_ | refine Sem.regL tt_ok ?_ | refine Sem.skip tt_ok ?_ | refine Sem.exit tt_ok ?_ | refine Sem.ret tt_ok ?_ | refine BS_t (by assumption) ?_ | refine BS_f (by assumption) ?_ | refine (nthK_iff _ _).2 ⟨_, (by assumption), ?_⟩ | refine ⟨_, ⟨(by omega), (by assumption)⟩, ?_⟩ | refine And.intro (by first | decide | omega) ?_ | fail); conv => whnf) | refine Sem.seqS ?_ | refine Sem.block ?_ | fail)
  refine Sem.loop (ι := VI l.length) (fun x => ⟨(.top :: .lptr 0 0 :: .top :: .int .i64 (8 + s.length + sizesV (l.take x.k) : Nat) :: .int .i64 (x.k : Nat) :: .top :: .top :: .top :: .top :: .top :: .top :: .top :: .top :: .top :: .top :: .top :: .top :: .top :: .top :: .top :: .top :: .top :: .top :: .top :: .top :: []), [.live none [.int .i64 kd, .int .i64 nm, .str (S s), .slc 3 (tags.map tagA), .slc 25 (VT.avs l)]], 1, 0, G⟩) (fun x => l.length - x.k) ⟨0, Nat.zero_le _⟩ ?_ (fun x => ?_)
  · refine weak_by [] ?_; (conv => whnf); repeat (first | (refine And.intro rfl ?_; conv => whnf) | fail)
    refine And.intro (by rw [List.take_zero, sizesV, Nat.add_zero]; exact w0) ?_
    (conv => whnf); repeat (first | (refine And.intro rfl ?_; conv => whnf) | fail)
    exact ⟨fun i y hy => hy, rfl, by decide, rfl, rfl⟩
  obtain ⟨k, hk⟩ := x
  simp only
  have h0 : (0 : Int) ≤ ((k : Nat) : Int) := by omega
  have hle := sizes_le l k
  by_cases hlt : k < l.length
  · obtain ⟨⟨k1, n1, s1, t1, l1⟩, hx⟩ : ∃ x, l[k]? = some x := ⟨_, List.getElem?_eq_getElem hlt⟩
    have tl : decide (((k : Nat) : Int) < ((VT.avs l).length : Nat)) = true := by rw [hlen, decide_eq_true_eq]; omega
    have hm := vavs_at hx
    have hmem : VT.mk k1 n1 s1 t1 l1 ∈ l := List.mem_of_getElem? hx
    have hft := sizes_take l k _ hx
    have hle1 := sizes_le l (k + 1)
    have hc := ih _ hmem G (by omega)
    rw [VT.av] at hc
    have hi : IntKind.i64.wrap ((k : Int) + 1) = ((k + 1 : Nat) : Int) := by rw [IntWalk.i64_in _ (by omega)]; omega
    have w1 : IntKind.i64.wrap (((8 + s.length + sizesV (l.take k) : Nat) : Int) + ((sizeV (.mk k1 n1 s1 t1 l1) : Nat) : Int)) = ((8 + s.length + sizesV (l.take (k + 1)) : Nat) : Int) := by rw [IntWalk.i64_in _ (by omega)]; omega
    repeat' (first | ((first | refine Sem.reg tt_ok ?_ | refine Sem.condS ?_ | refine Sem.regL tt_ok ?_ | refine Sem.skip tt_ok ?_ | refine Sem.exit tt_ok ?_ | refine Sem.ret tt_ok ?_ | refine BS_t (by assumption) ?_ | refine BS_f (by assumption) ?_ | refine (nthK_iff _ _).2 ⟨_, (by assumption), ?_⟩ | refine ⟨_, ⟨(by omega), (by assumption)⟩, ?_⟩ | refine And.intro (by first | decide | omega) ?_ | fail); conv => whnf) | refine Sem.seqS ?_ | refine Sem.block ?_ | fail)
    refine hc.on ?_; conv => whnf
    repeat' (first | ((first | refine Sem.reg tt_ok ?_ | refine Sem.condS ?_ | refine Sem.regL tt_ok ?_ | refine Sem.skip tt_ok ?_ | refine Sem.exit tt_ok ?_ | refine Sem.ret tt_ok ?_ | refine BS_t (by assumption) ?_ | refine BS_f (by assumption) ?_ | refine (nthK_iff _ _).2 ⟨_, (by assumption), ?_⟩ | refine ⟨_, ⟨(by omega), (by assumption)⟩, ?_⟩ | refine And.intro (by first | decide | omega) ?_ | fail); conv => whnf) | refine Sem.seqS ?_ | refine Sem.block ?_ | fail)
    refine ⟨⟨k + 1, by omega⟩, by show l.length - (k + 1) < l.length - k; omega, ?_⟩
    refine weak_by [] ?_; (conv => whnf); repeat (first | (refine And.intro rfl ?_; conv => whnf) | fail)
    refine And.intro w1 ?_
    refine And.intro hi ?_
    (conv => whnf); repeat (first | (refine And.intro rfl ?_; conv => whnf) | fail)
    exact ⟨fun i y hy => hy, rfl, by decide, rfl, rfl⟩
  · have hk' : k = l.length := by omega
    subst hk'
    have tl : decide (((l.length : Nat) : Int) < ((VT.avs l).length : Nat)) = false := by rw [hlen, decide_eq_false_iff_not]; omega
    rw [List.take_length]
    repeat' (first | ((first | refine Sem.reg tt_ok ?_ | refine Sem.condS ?_ | refine Sem.regL tt_ok ?_ | refine Sem.skip tt_ok ?_ | refine Sem.exit tt_ok ?_ | refine Sem.ret tt_ok ?_ | refine BS_t (by assumption) ?_ | refine BS_f (by assumption) ?_ | refine (nthK_iff _ _).2 ⟨_, (by assumption), ?_⟩ | refine ⟨_, ⟨(by omega), (by assumption)⟩, ?_⟩ | refine And.intro (by first | decide | omega) ?_ | fail); conv => whnf) | refine Sem.seqS ?_ | refine Sem.block ?_ | fail)
    exact ⟨_, fun _ _ h => h, rfl, rfl⟩
end Go.Proofs.YtgedlbfdhekdgaaDoor
