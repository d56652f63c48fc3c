/- The counters' rows: what is much, and all that is added. -/
import Derived.Test.YtpnlhnhjedopgaaCntA
import Derived.Test.YtpnlhnhjedopgaaNamB
import Derived.Test.YtpnlhnhjedopgaaTxt
set_option maxRecDepth 100000
set_option linter.unusedSimpArgs false
namespace Go.Proofs.Ytpnlhnhjedopgaa
open Go Go.RowKit Go.Proofs

structure CRw where
  name : ByteArray
  n : Int
def CRw.av (x : CRw) : List AV := [.str x.name, .int .i64 x.n]
def muchN : List CRw → Int → Int
  | [], n => n
  | x :: r, n => muchN r (if (1048576 : Int) < n + x.name.size then 1048576 else n + x.name.size)
theorem muchN_snoc : ∀ (l : List CRw) (x : CRw) (n : Int), muchN (l ++ [x]) n = (if (1048576 : Int) < muchN l n + x.name.size then 1048576 else muchN l n + x.name.size)
  | [], _, _ => rfl
  | _ :: r, x, _ => muchN_snoc r x _
theorem muchN_in : ∀ (l : List CRw) (n : Int), 0 ≤ n → n ≤ 1048576 → 0 ≤ muchN l n ∧ muchN l n ≤ 1048576
  | [], _, h0, h1 => ⟨h0, h1⟩
  | x :: r, n, h0, h1 => muchN_in r _ (by split <;> omega) (by split <;> omega)
theorem muchN_le : ∀ (l : List CRw) (n : Int), 0 ≤ n → muchN l n ≤ 10000 → n + ((l.map fun x => x.name.size).sum : Nat) ≤ 10000
  | [], n, _, h => by simpa [muchN] using h
  | x :: r, n, h0, h => by
    unfold muchN at h
    split at h
    · have := muchN_le r 1048576 (by omega) h
      omega
    · have := muchN_le r _ (by omega) h
      simp only [List.map_cons, List.sum_cons]
      omega
theorem much27_ok (l : List CRw) (G : Glob) (hl : l.length ≤ 9223372036854775807) (hs : ∀ x ∈ l, x.name.size ≤ 140737488351232) : CallOk Try.prog TT 25 [.slc 44 (l.map CRw.av)] G (fun v G' => v = .bool (decide ((l.length : Int) > 80) || decide (muchN l 0 > 10000)) ∧ G' = G) := by
  refine call_sem tt_ok Try.func25 rfl (by kernel_rfl) Try.ntmps25 Try.results25 ?_; conv => whnf
  repeat' (first | ((first | refine Sem.reg tt_ok ?_ | refine Sem.condS ?_ | refine Sem.regL tt_ok ?_ | refine Sem.skip tt_ok ?_ | refine Sem.exit tt_ok ?_ | refine Sem.ret tt_ok ?_ | refine BS_t (by assumption) ?_ | refine BS_f (by assumption) ?_ | refine atG (by repeat (first | assumption | exact setG_same _ _ _ | refine Eq.trans (setG_ne _ _ (by first | assumption | exact Ne.symm (by assumption))) ?_)) ?_ | refine (nthK_iff _ _).2 ⟨_, (by assumption), ?_⟩ | refine ⟨_, ⟨(by omega), (by assumption)⟩, ?_⟩ | refine And.intro (by first | decide | omega) ?_ | fail); conv => whnf) | refine Sem.seqS ?_ | refine Sem.block ?_ | fail)
  refine Sem.loop (ι := {k : Nat // k ≤ l.length}) (fun x => ⟨(.slc 44 (l.map CRw.av) :: .top :: .top :: .int .i64 (muchN (l.take x.1) 0) :: .int .i64 (x.1 : Nat) :: .top :: .top :: .top :: .top :: .top :: .top :: .top :: .top :: .top :: .top :: .top :: .top :: .top :: .top :: .top :: .top :: .top :: .top :: .top :: .top :: .top :: .top :: []), [], 0, 0, G⟩) (fun x => l.length - x.1) ⟨0, Nat.zero_le _⟩ ?_ (fun x => ?_)
  · refine weak_by [] ?_; (conv => whnf); repeat (first | (refine And.intro rfl ?_; conv => whnf) | fail)
    exact ⟨fun i x hx => hx, rfl, Nat.zero_le _, rfl, rfl⟩
  obtain ⟨k, hk0⟩ := x
  repeat' (first | ((first | refine Sem.reg tt_ok ?_ | refine Sem.condS ?_ | refine Sem.regL tt_ok ?_ | refine Sem.skip tt_ok ?_ | refine Sem.exit tt_ok ?_ | refine Sem.ret tt_ok ?_ | refine BS_t (by assumption) ?_ | refine BS_f (by assumption) ?_ | refine atG (by repeat (first | assumption | exact setG_same _ _ _ | refine Eq.trans (setG_ne _ _ (by first | assumption | exact Ne.symm (by assumption))) ?_)) ?_ | refine (nthK_iff _ _).2 ⟨_, (by assumption), ?_⟩ | refine ⟨_, ⟨(by omega), (by assumption)⟩, ?_⟩ | refine And.intro (by first | decide | omega) ?_ | fail); conv => whnf) | refine Sem.seqS ?_ | refine Sem.block ?_ | fail)
  refine BS_intro (fun hk => ?_) (fun hk => ?_) <;> conv => whnf
  · have hks : k < l.length := by simp at hk; omega
    clear hk
    obtain ⟨v, hv⟩ : ∃ v, l[k]? = some v := ⟨_, List.getElem?_eq_getElem hks⟩
    have hsm : (l.map CRw.av)[((k : Nat) : Int).toNat]? = some v.av := by rw [Int.toNat_natCast, List.getElem?_map, hv]; rfl
    have hm := muchN_in (l.take k) 0 (by decide) (by decide)
    have hz := hs v (List.mem_of_getElem? hv)
    have ht : l.take (k + 1) = l.take k ++ [v] := by rw [List.take_add_one, hv]; rfl
    repeat' (first | ((first | refine Sem.reg tt_ok ?_ | refine Sem.condS ?_ | refine Sem.regL tt_ok ?_ | refine Sem.skip tt_ok ?_ | refine Sem.exit tt_ok ?_ | refine Sem.ret tt_ok ?_ | refine BS_t (by assumption) ?_ | refine BS_f (by assumption) ?_ | refine atG (by repeat (first | assumption | exact setG_same _ _ _ | refine Eq.trans (setG_ne _ _ (by first | assumption | exact Ne.symm (by assumption))) ?_)) ?_ | refine (nthK_iff _ _).2 ⟨_, (by assumption), ?_⟩ | refine ⟨_, ⟨(by omega), (by assumption)⟩, ?_⟩ | refine And.intro (by first | decide | omega) ?_ | fail); conv => whnf) | refine Sem.seqS ?_ | refine Sem.block ?_ | fail)
    refine ⟨⟨k + 1, by omega⟩, by show l.length - (k + 1) < l.length - k; omega, ?_⟩
    refine weak_by [] ?_; (conv => whnf); repeat (first | (refine And.intro rfl ?_; conv => whnf) | fail)
    have hw : IntKind.i64.wrap ((k : Int) + 1) = ((k + 1 : Nat) : Int) := by rw [IntWalk.i64_in _ (by omega)]; omega
    refine And.intro (by
      show (if (1048576 : Int) < IntKind.i64.wrap (muchN (l.take k) 0 + v.name.size) then (1048576 : Int) else IntKind.i64.wrap (muchN (l.take k) 0 + v.name.size)) = muchN (l.take (k + 1)) 0
      rw [ht, muchN_snoc, IntWalk.i64_in _ (by omega)]) ?_
    (conv => whnf); repeat (first | (refine And.intro rfl ?_; conv => whnf) | fail)
    refine And.intro hw ?_
    (conv => whnf); repeat (first | (refine And.intro rfl ?_; conv => whnf) | fail)
    exact ⟨fun i y hy => hy, rfl, Nat.zero_le _, rfl, rfl⟩
  · have hk' : k = l.length := by simp at hk; omega
    subst hk'
    rw [List.take_length]
    repeat' (first | ((first | refine Sem.reg tt_ok ?_ | refine Sem.condS ?_ | refine Sem.regL tt_ok ?_ | refine Sem.skip tt_ok ?_ | refine Sem.exit tt_ok ?_ | refine Sem.ret tt_ok ?_ | refine BS_t (by assumption) ?_ | refine BS_f (by assumption) ?_ | refine atG (by repeat (first | assumption | exact setG_same _ _ _ | refine Eq.trans (setG_ne _ _ (by first | assumption | exact Ne.symm (by assumption))) ?_)) ?_ | refine (nthK_iff _ _).2 ⟨_, (by assumption), ?_⟩ | refine ⟨_, ⟨(by omega), (by assumption)⟩, ?_⟩ | refine And.intro (by first | decide | omega) ?_ | fail); conv => whnf) | refine Sem.seqS ?_ | refine Sem.block ?_ | fail)
    have hL : (l.map CRw.av).length = l.length := by simp
    refine BS_intro (fun h8 => ?_) (fun h8 => ?_) <;> conv => whnf
    · repeat' (first | ((first | refine Sem.reg tt_ok ?_ | refine Sem.condS ?_ | refine Sem.regL tt_ok ?_ | refine Sem.skip tt_ok ?_ | refine Sem.exit tt_ok ?_ | refine Sem.ret tt_ok ?_ | refine BS_t (by assumption) ?_ | refine BS_f (by assumption) ?_ | refine atG (by repeat (first | assumption | exact setG_same _ _ _ | refine Eq.trans (setG_ne _ _ (by first | assumption | exact Ne.symm (by assumption))) ?_)) ?_ | refine (nthK_iff _ _).2 ⟨_, (by assumption), ?_⟩ | refine ⟨_, ⟨(by omega), (by assumption)⟩, ?_⟩ | refine And.intro (by first | decide | omega) ?_ | fail); conv => whnf) | refine Sem.seqS ?_ | refine Sem.block ?_ | fail)
      rw [hL] at h8
      refine ⟨_, fun _ _ h => h, ?_, rfl⟩
      rw [h8]
      rfl
    · repeat' (first | ((first | refine Sem.reg tt_ok ?_ | refine Sem.condS ?_ | refine Sem.regL tt_ok ?_ | refine Sem.skip tt_ok ?_ | refine Sem.exit tt_ok ?_ | refine Sem.ret tt_ok ?_ | refine BS_t (by assumption) ?_ | refine BS_f (by assumption) ?_ | refine atG (by repeat (first | assumption | exact setG_same _ _ _ | refine Eq.trans (setG_ne _ _ (by first | assumption | exact Ne.symm (by assumption))) ?_)) ?_ | refine (nthK_iff _ _).2 ⟨_, (by assumption), ?_⟩ | refine ⟨_, ⟨(by omega), (by assumption)⟩, ?_⟩ | refine And.intro (by first | decide | omega) ?_ | fail); conv => whnf) | refine Sem.seqS ?_ | refine Sem.block ?_ | fail)
      rw [hL] at h8
      refine ⟨_, fun _ _ h => h, ?_, rfl⟩
      rw [h8]
      rfl
theorem keys_lput' {α : Type} {z k : ByteArray} {x : α} : ∀ (l : List (ByteArray × α)), z = k ∨ z ∈ l.map (·.1) → z ∈ (lput l k x).map (·.1)
  | [], h => by simpa [lput] using h
  | (y, u) :: r, h => by
    by_cases hz : k = y
    · subst hz
      simp only [lput, decide_true, List.map_cons, List.mem_cons] at h ⊢
      rcases h with h | h | h
      · exact .inl h
      · exact .inl h
      · exact .inr h
    · simp only [lput, hz, decide_false, List.map_cons, List.mem_cons] at h ⊢
      rcases h with h | h | h
      · exact .inr (keys_lput' r (.inl h))
      · exact .inl h
      · exact .inr (keys_lput' r (.inr h))
def sumN : List CRw → ByteArray → Int
  | [], _ => 0
  | x :: r, z => (if x.name = z then x.n else 0) + sumN r z
theorem sumN_app (z : ByteArray) : ∀ (l r : List CRw), sumN (l ++ r) z = sumN l z + sumN r z
  | [], r => by simp [sumN]
  | x :: l, r => by simp only [List.cons_append, sumN, sumN_app z l r]; omega
theorem sumN_perm (z : ByteArray) {l r : List CRw} (h : l.Perm r) : sumN l z = sumN r z := by
  induction h with
  | nil => rfl
  | cons x _ ih => simp only [sumN, ih]
  | swap x y l => simp only [sumN]; omega
  | trans _ _ ih1 ih2 => exact ih1.trans ih2
def addA (m : List (ByteArray × Int)) (x : CRw) : List (ByteArray × Int) := lput m x.name (IntKind.i64.wrap (cval m x.name + x.n))
def totC (m : List (ByteArray × Int)) : Nat := (m.map fun e => 24 + e.1.size).sum
/-- what stands in a book to which rows were added -/
structure CInv (m : List (ByteArray × Int)) (l : List CRw) : Prop where
  nd : (m.map (·.1)).Nodup
  keys : ∀ z, z ∈ m.map (·.1) ↔ z ∈ l.map (·.name)
  val : ∀ z, cval m z = IntKind.i64.wrap (sumN l z)
theorem CInv.nil : CInv [] [] := ⟨List.nodup_nil, fun z => by simp, fun z => rfl⟩
theorem CInv.add {m : List (ByteArray × Int)} {l : List CRw} (h : CInv m l) (x : CRw) : CInv (addA m x) (l ++ [x]) := by
  refine ⟨nodup_lput _ _ _ h.nd, fun z => ?_, fun z => ?_⟩
  · rw [List.map_append, List.mem_append, ← h.keys z]
    constructor
    · intro hz
      rcases keys_lput _ hz with rfl | hz
      · exact .inr (by simp)
      · exact .inl hz
    · rintro (hz | hz)
      · exact keys_lput' _ (.inr hz)
      · simp at hz; exact keys_lput' _ (.inl hz)
  · rw [sumN_app]
    by_cases hz : z = x.name
    · subst hz
      have : cval (addA m x) x.name = IntKind.i64.wrap (cval m x.name + x.n) := by unfold cval addA; rw [lget_put_same]; rfl
      rw [this, h.val]
      simp only [sumN, if_true]
      rw [IntKind.wrap_i64, IntKind.wrap_i64, IntKind.wrap_i64]
      omega
    · have : cval (addA m x) z = cval m z := by unfold cval addA; rw [lget_put_ne hz]
      rw [this, h.val]
      have hz' : ¬ x.name = z := fun e => hz e.symm
      simp only [sumN, if_neg hz', Int.add_zero]
theorem CInv.perm {m : List (ByteArray × Int)} {l r : List CRw} (h : CInv m l) (hp : l.Perm r) : CInv m r :=
  ⟨h.nd, fun z => (h.keys z).trans (hp.map _).mem_iff, fun z => by rw [h.val, sumN_perm z hp]⟩
theorem CInv.same {m m' : List (ByteArray × Int)} {l : List CRw} (h : CInv m l) (h' : CInv m' l) : (∀ z, cval m z = cval m' z) ∧ (m.map (·.1)).Perm (m'.map (·.1)) :=
  ⟨fun z => by rw [h.val, h'.val], (List.perm_ext_iff_of_nodup h.nd h'.nd).2 fun z => (h.keys z).trans (h'.keys z).symm⟩
theorem totC_perm {m m' : List (ByteArray × Int)} (h : (m.map (·.1)).Perm (m'.map (·.1))) : totC m = totC m' := by
  have : ∀ (l : List (ByteArray × Int)), totC l = ((l.map (·.1)).map fun s => 24 + s.size).sum := fun l => by simp [totC, List.map_map]; rfl
  rw [this, this]
  exact (h.map _).sum_nat
theorem keyL_perm {α β : Type} {m : List (ByteArray × α)} {m' : List (ByteArray × β)} (h : (m.map (·.1)).Perm (m'.map (·.1))) : keyL m = keyL m' := by
  unfold keyL
  have e1 : (m.map fun x => x.1.data.toList) = (m.map (·.1)).map fun s => s.data.toList := by simp
  have e2 : (m'.map fun x => x.1.data.toList) = (m'.map (·.1)).map fun s => s.data.toList := by simp
  rw [e1, e2]
  exact mergeSort_of_perm (h.map _)
theorem totC_put (k : ByteArray) (v : Int) : ∀ (m : List (ByteArray × Int)), ((totC (lput m k v) : Nat) : Int) = totC m + cgrow m k
  | [] => by simp [totC, lput, cgrow, lget]
  | (z, y) :: r => by
    by_cases hz : k = z
    · subst hz
      simp [totC, lput, cgrow, lget]
    · have := totC_put k v r
      simp only [totC, lput, hz, decide_false, List.map_cons, List.sum_cons, cgrow, lget] at this ⊢
      omega
theorem len_put {α : Type} (k : ByteArray) (v : α) : ∀ (m : List (ByteArray × α)), (lput m k v).length ≤ m.length + 1
  | [] => by simp [lput]
  | (z, y) :: r => by
    by_cases hz : k = z
    · simp [lput, hz]
    · have := len_put k v r
      simp only [lput, hz, decide_false, List.length_cons]
      omega
theorem crows_dz {w : World} {v : Value} {l : List CRw} (hr : Row w v l 2 (fun x => [.string x.name, .int .i64 x.n])) : Dz TT gh0 w (.slc 44 (l.map CRw.av)) v := by
  refine row_dz hr CRw.av rfl fun x hx => ⟨rfl, rfl, fun j c u hc hu => ?_⟩
  match j with
  | 0 => simp [CRw.av] at hc hu; subst hc hu; exact ⟨rfl, .str _⟩
  | 1 => simp [CRw.av] at hc hu; subst hc hu; exact ⟨rfl, .int _ _⟩
  | j + 2 => simp [CRw.av] at hc
end Go.Proofs.Ytpnlhnhjedopgaa
