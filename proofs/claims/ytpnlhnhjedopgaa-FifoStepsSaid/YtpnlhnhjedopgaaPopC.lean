/- The document's layer 28 in the abstract run: Pop, Waits, Names, Size. -/
import Derived.Test.YtpnlhnhjedopgaaPopB
import Derived.Test.YtpnlhnhjedopgaaNm27
set_option maxRecDepth 100000
set_option linter.unusedSimpArgs false
namespace Go.Proofs.Ytpnlhnhjedopgaa
open Go Go.RowKit Go.Proofs

theorem kvrow_in {g : Gh} {w : World} {u : Value} {l : KvL} (h : Dz TT g w (.slc 87 (l.map kvR)) u) : Row w u l 2 kvV := by
  refine dz_row h rfl (by decide) fun x _ => ⟨rfl, fun j c y z hc hy hz => ?_⟩
  match j with
  | 0 => simp only [kvR, kvV, List.getElem?_cons_zero, Option.some.injEq] at hc hy; subst hc hy; cases hz; rfl
  | 1 => simp only [kvR, kvV, List.getElem?_cons_zero, List.getElem?_cons_succ, Option.some.injEq] at hc hy; subst hc hy; cases hz; rfl
  | j + 2 => simp [kvR] at hc
theorem kvrow_out {g : Gh} {w w' : World} {v : Value} {l : KvL} (h : w'.ownsRow w.heap.size 87 2 v l.length (l.flatMap kvV)) : Dz TT (g.still w) w' (.slc 87 (l.map kvR)) v := by
  refine own_dz h rfl (by simp) fun i cells hi => ?_
  rw [List.getElem?_map] at hi
  cases hx : l[i]? with
  | none => rw [hx] at hi; cases hi
  | some x =>
    rw [hx] at hi
    simp only [Option.map_some, Option.some.injEq] at hi
    subst hi
    refine ⟨rfl, fun j c hj => ?_⟩
    have key : ∀ j y, (kvV x)[j]? = some y → (l.flatMap kvV)[i * 2 + j]? = some y := fun j y hy => by
      exact flat_get l i x j y (fun _ _ => rfl) hx hy
    match j with
    | 0 => simp only [kvR, List.getElem?_cons_zero, Option.some.injEq] at hj; subst hj; exact ⟨_, key 0 _ rfl, rfl, .str _⟩
    | 1 => simp only [kvR, List.getElem?_cons_zero, List.getElem?_cons_succ, Option.some.injEq] at hj; subst hj; exact ⟨_, key 1 _ rfl, rfl, .str _⟩
    | j + 2 => simp [kvR] at hj
/-- the first row of a name taken out -/
def popAt : KvL → ByteArray → Option (KvL × ByteArray)
  | [], _ => none
  | x :: r, z => if x.1 = z then some (r, x.2) else (popAt r z).map fun y => (x :: y.1, y.2)
theorem popAt_none : ∀ {l : KvL} {z : ByteArray}, (∀ y ∈ l, y.1 ≠ z) → popAt l z = none
  | [], _, _ => rfl
  | x :: r, z, h => by
    have h1 := h x (by simp)
    have h2 := popAt_none (l := r) (z := z) fun y hy => h y (List.mem_cons_of_mem _ hy)
    simp [popAt, h1, h2]
theorem popAt_some : ∀ {l : KvL} {z : ByteArray} {i : Nat} {x : ByteArray × ByteArray}, l[i]? = some x → x.1 = z → (∀ y ∈ l.take i, y.1 ≠ z) → popAt l z = some (l.take i ++ l.drop (i + 1), x.2)
  | [], _, _, _, h, _, _ => by simp at h
  | y :: r, z, 0, x, h, hz, _ => by
    simp only [List.getElem?_cons_zero, Option.some.injEq] at h
    subst h
    simp [popAt, hz]
  | y :: r, z, i + 1, x, h, hz, hn => by
    have h1 := hn y (by simp)
    have h2 := popAt_some (l := r) (i := i) (x := x) (by simpa using h) hz fun u hu => hn u (by simp [hu])
    simp [popAt, h1, h2]
def popV (l : KvL) (z : ByteArray) : AV := match popAt l z with | some (r, t) => .tup [.slc 87 (r.map kvR), .str t, .bool true] | none => .tup [.slc 87 (l.map kvR), .str ⟨#[]⟩, .bool false]
theorem pop28_ok (l : KvL) (z : ByteArray) (G : Glob) (hl : l.length ≤ 1048576) : CallOk Try.prog TT 57 [.slc 87 (l.map kvR), .str z] G (fun v G' => v = popV l z ∧ G' = G) := by
  refine CallOk.of_up ⟨_, Try.func57, by decide, rfl⟩ fun g us w hu hd => ?_
  obtain ⟨us⟩ := us
  match us, hu with
  | [u0, u1], _ =>
    have hd0 := hd 0 _ _ rfl rfl
    have h0 := kvrow_in hd0
    cases hd 1 _ _ rfl rfl
    refine (pop28_any _ l z w h0 hl).mono fun e w' he => ?_
    rcases he with ⟨i, x, u, h1, h2, h3, rfl, h4, h5⟩ | ⟨h1, rfl, h5⟩
    · refine ⟨_, rfl, h5, ?_⟩
      unfold popV
      rw [popAt_some h1 h2 h3]
      rw [← List.length_append, ← List.flatMap_append] at h4
      have h6 := kvrow_out (g := g) h4
      refine .tup _ _ rfl fun i c u hc hu => ?_
      match i with
      | 0 => simp at hc hu; subst hc hu; simpa using h6
      | 1 => simp at hc hu; subst hc hu; exact .str _
      | 2 => simp at hc hu; subst hc hu; exact .bool _
      | i + 3 => simp at hc
    · refine ⟨_, rfl, h5, ?_⟩
      unfold popV
      rw [popAt_none h1]
      refine .tup _ _ rfl fun i c u hc hu => ?_
      match i with
      | 0 => simp at hc hu; subst hc hu; exact hd0.mono (still_ext h5).dx
      | 1 => simp at hc hu; subst hc hu; exact .str _
      | 2 => simp at hc hu; subst hc hu; exact .bool _
      | i + 3 => simp at hc
def waitN (l : KvL) (z : ByteArray) : Nat := (l.filter fun x => decide (x.1 = z)).length
theorem waitN_le (l : KvL) (z : ByteArray) : waitN l z ≤ l.length := List.length_filter_le _ _
theorem waits28_ok (l : KvL) (z : ByteArray) (G : Glob) (hl : l.length ≤ 1048576) : CallOk Try.prog TT 60 [.slc 87 (l.map kvR), .str z] G (fun v G' => v = .int .i64 (waitN l z : Nat) ∧ G' = G) := by
  refine call_sem tt_ok Try.func60 rfl (by kernel_rfl) Try.ntmps60 Try.results60 ?_; conv => whnf
  repeat' (first | (refine Sem.reg tt_ok ?_; conv => whnf) | refine Sem.seqS ?_ | (refine Sem.condS ?_; conv => whnf) | refine Sem.block ?_ | (refine Sem.regL tt_ok ?_; conv => whnf) | (refine Sem.skip tt_ok ?_; conv => whnf) | (refine Sem.exit tt_ok ?_; conv => whnf) | (refine Sem.ret tt_ok ?_; conv => whnf) | (refine BS_t (by assumption) ?_; conv => whnf) | (refine BS_f (by assumption) ?_; conv => whnf) | (refine atG (by first | assumption | exact setG_same _ _ _ | (refine Eq.trans (setG_ne _ _ (by first | assumption | exact Ne.symm (by assumption))) ?_; first | assumption | exact setG_same _ _ _ | (refine Eq.trans (setG_ne _ _ (by first | assumption | exact Ne.symm (by assumption))) ?_; first | assumption | exact setG_same _ _ _ | (refine Eq.trans (setG_ne _ _ (by first | assumption | exact Ne.symm (by assumption))) ?_; first | assumption | exact setG_same _ _ _)))) ?_; conv => whnf) | (refine (nthK_iff _ _).2 ⟨_, (by assumption), ?_⟩; conv => whnf) | (refine Exists.intro _ (And.intro (And.intro (by omega) (by assumption)) ?_); conv => whnf) | (refine And.intro (by first | decide | omega) ?_; conv => whnf) | fail)
  refine Sem.loop (ι := {k : Nat // k ≤ l.length}) (fun x => ⟨(.slc 87 (l.map kvR) :: .str z :: .top :: .top :: .top :: .int .i64 (waitN (l.take x.1) z : Nat) :: .int .i64 (x.1 : Nat) :: .top :: .top :: .top :: .top :: .top :: .top :: .top :: .top :: .top :: .top :: .top :: .top :: .top :: .top :: .top :: .top :: []), [], 0, 0, G⟩) (fun x => l.length - x.1) ⟨0, Nat.zero_le _⟩ ?_ (fun x => ?_)
  · refine weak_by [] ?_; (conv => whnf); repeat (first | (refine And.intro rfl ?_; conv => whnf) | fail)
    exact ⟨fun i x hx => hx, rfl, Nat.zero_le _, rfl, rfl⟩
  obtain ⟨k, hk0⟩ := x
  repeat' (first | (refine Sem.reg tt_ok ?_; conv => whnf) | refine Sem.seqS ?_ | (refine Sem.condS ?_; conv => whnf) | refine Sem.block ?_ | (refine Sem.regL tt_ok ?_; conv => whnf) | (refine Sem.skip tt_ok ?_; conv => whnf) | (refine Sem.exit tt_ok ?_; conv => whnf) | (refine Sem.ret tt_ok ?_; conv => whnf) | (refine BS_t (by assumption) ?_; conv => whnf) | (refine BS_f (by assumption) ?_; conv => whnf) | (refine atG (by first | assumption | exact setG_same _ _ _ | (refine Eq.trans (setG_ne _ _ (by first | assumption | exact Ne.symm (by assumption))) ?_; first | assumption | exact setG_same _ _ _ | (refine Eq.trans (setG_ne _ _ (by first | assumption | exact Ne.symm (by assumption))) ?_; first | assumption | exact setG_same _ _ _ | (refine Eq.trans (setG_ne _ _ (by first | assumption | exact Ne.symm (by assumption))) ?_; first | assumption | exact setG_same _ _ _)))) ?_; conv => whnf) | (refine (nthK_iff _ _).2 ⟨_, (by assumption), ?_⟩; conv => whnf) | (refine Exists.intro _ (And.intro (And.intro (by omega) (by assumption)) ?_); conv => whnf) | (refine And.intro (by first | decide | omega) ?_; conv => whnf) | fail)
  refine BS_intro (fun hk => ?_) (fun hk => ?_) <;> conv => whnf
  · have hks : k < l.length := by simp at hk; omega
    clear hk
    obtain ⟨v, hv⟩ : ∃ v, l[k]? = some v := ⟨_, List.getElem?_eq_getElem hks⟩
    have hsm : (l.map kvR)[((k : Nat) : Int).toNat]? = some (kvR v) := by rw [Int.toNat_natCast, List.getElem?_map, hv]; rfl
    have ht : l.take (k + 1) = l.take k ++ [v] := by rw [List.take_add_one, hv]; rfl
    have hw : IntKind.i64.wrap ((k : Int) + 1) = ((k + 1 : Nat) : Int) := by rw [IntWalk.i64_in _ (by omega)]; omega
    have hwl := waitN_le (l.take k) z
    rw [List.length_take] at hwl
    obtain ⟨a, b⟩ := v
    repeat' (first | (refine Sem.reg tt_ok ?_; conv => whnf) | refine Sem.seqS ?_ | (refine Sem.condS ?_; conv => whnf) | refine Sem.block ?_ | (refine Sem.regL tt_ok ?_; conv => whnf) | (refine Sem.skip tt_ok ?_; conv => whnf) | (refine Sem.exit tt_ok ?_; conv => whnf) | (refine Sem.ret tt_ok ?_; conv => whnf) | (refine BS_t (by assumption) ?_; conv => whnf) | (refine BS_f (by assumption) ?_; conv => whnf) | (refine atG (by first | assumption | exact setG_same _ _ _ | (refine Eq.trans (setG_ne _ _ (by first | assumption | exact Ne.symm (by assumption))) ?_; first | assumption | exact setG_same _ _ _ | (refine Eq.trans (setG_ne _ _ (by first | assumption | exact Ne.symm (by assumption))) ?_; first | assumption | exact setG_same _ _ _ | (refine Eq.trans (setG_ne _ _ (by first | assumption | exact Ne.symm (by assumption))) ?_; first | assumption | exact setG_same _ _ _)))) ?_; conv => whnf) | (refine (nthK_iff _ _).2 ⟨_, (by assumption), ?_⟩; conv => whnf) | (refine Exists.intro _ (And.intro (And.intro (by omega) (by assumption)) ?_); conv => whnf) | (refine And.intro (by first | decide | omega) ?_; conv => whnf) | fail)
    refine BS_intro (fun he => ?_) (fun he => ?_) <;> conv => whnf
    · have hne : a = z := by simpa [bl_eq] using he
      repeat' (first | (refine Sem.reg tt_ok ?_; conv => whnf) | refine Sem.seqS ?_ | (refine Sem.condS ?_; conv => whnf) | refine Sem.block ?_ | (refine Sem.regL tt_ok ?_; conv => whnf) | (refine Sem.skip tt_ok ?_; conv => whnf) | (refine Sem.exit tt_ok ?_; conv => whnf) | (refine Sem.ret tt_ok ?_; conv => whnf) | (refine BS_t (by assumption) ?_; conv => whnf) | (refine BS_f (by assumption) ?_; conv => whnf) | (refine atG (by first | assumption | exact setG_same _ _ _ | (refine Eq.trans (setG_ne _ _ (by first | assumption | exact Ne.symm (by assumption))) ?_; first | assumption | exact setG_same _ _ _ | (refine Eq.trans (setG_ne _ _ (by first | assumption | exact Ne.symm (by assumption))) ?_; first | assumption | exact setG_same _ _ _ | (refine Eq.trans (setG_ne _ _ (by first | assumption | exact Ne.symm (by assumption))) ?_; first | assumption | exact setG_same _ _ _)))) ?_; conv => whnf) | (refine (nthK_iff _ _).2 ⟨_, (by assumption), ?_⟩; conv => whnf) | (refine Exists.intro _ (And.intro (And.intro (by omega) (by assumption)) ?_); conv => whnf) | (refine And.intro (by first | decide | omega) ?_; conv => whnf) | fail)
      refine ⟨⟨k + 1, by omega⟩, by show l.length - (k + 1) < l.length - k; omega, ?_⟩
      refine weak_by [] ?_; (conv => whnf); repeat (first | (refine And.intro rfl ?_; conv => whnf) | fail)
      refine And.intro (by
        show IntKind.i64.wrap ((waitN (l.take k) z : Nat) + 1) = ((waitN (l.take (k + 1)) z : Nat) : Int)
        rw [ht, IntWalk.i64_in _ (by omega)]
        unfold waitN
        simp [hne]) ?_
      (conv => whnf); repeat (first | (refine And.intro rfl ?_; conv => whnf) | fail)
      refine And.intro hw ?_
      (conv => whnf); repeat (first | (refine And.intro rfl ?_; conv => whnf) | fail)
      exact ⟨fun i y hy => hy, rfl, Nat.zero_le _, rfl, rfl⟩
    · have hne : ¬ a = z := by simpa [bl_eq] using he
      repeat' (first | (refine Sem.reg tt_ok ?_; conv => whnf) | refine Sem.seqS ?_ | (refine Sem.condS ?_; conv => whnf) | refine Sem.block ?_ | (refine Sem.regL tt_ok ?_; conv => whnf) | (refine Sem.skip tt_ok ?_; conv => whnf) | (refine Sem.exit tt_ok ?_; conv => whnf) | (refine Sem.ret tt_ok ?_; conv => whnf) | (refine BS_t (by assumption) ?_; conv => whnf) | (refine BS_f (by assumption) ?_; conv => whnf) | (refine atG (by first | assumption | exact setG_same _ _ _ | (refine Eq.trans (setG_ne _ _ (by first | assumption | exact Ne.symm (by assumption))) ?_; first | assumption | exact setG_same _ _ _ | (refine Eq.trans (setG_ne _ _ (by first | assumption | exact Ne.symm (by assumption))) ?_; first | assumption | exact setG_same _ _ _ | (refine Eq.trans (setG_ne _ _ (by first | assumption | exact Ne.symm (by assumption))) ?_; first | assumption | exact setG_same _ _ _)))) ?_; conv => whnf) | (refine (nthK_iff _ _).2 ⟨_, (by assumption), ?_⟩; conv => whnf) | (refine Exists.intro _ (And.intro (And.intro (by omega) (by assumption)) ?_); conv => whnf) | (refine And.intro (by first | decide | omega) ?_; conv => whnf) | fail)
      refine ⟨⟨k + 1, by omega⟩, by show l.length - (k + 1) < l.length - k; omega, ?_⟩
      refine weak_by [] ?_; (conv => whnf); repeat (first | (refine And.intro rfl ?_; conv => whnf) | fail)
      refine And.intro (by
        show ((waitN (l.take k) z : Nat) : Int) = ((waitN (l.take (k + 1)) z : Nat) : Int)
        rw [ht]
        unfold waitN
        simp [hne]) ?_
      (conv => whnf); repeat (first | (refine And.intro rfl ?_; conv => whnf) | fail)
      refine And.intro hw ?_
      (conv => whnf); repeat (first | (refine And.intro rfl ?_; conv => whnf) | fail)
      exact ⟨fun i y hy => hy, rfl, Nat.zero_le _, rfl, rfl⟩
  · have hk' : k = l.length := by simp at hk; omega
    subst hk'
    rw [List.take_length]
    repeat' (first | (refine Sem.reg tt_ok ?_; conv => whnf) | refine Sem.seqS ?_ | (refine Sem.condS ?_; conv => whnf) | refine Sem.block ?_ | (refine Sem.regL tt_ok ?_; conv => whnf) | (refine Sem.skip tt_ok ?_; conv => whnf) | (refine Sem.exit tt_ok ?_; conv => whnf) | (refine Sem.ret tt_ok ?_; conv => whnf) | (refine BS_t (by assumption) ?_; conv => whnf) | (refine BS_f (by assumption) ?_; conv => whnf) | (refine atG (by first | assumption | exact setG_same _ _ _ | (refine Eq.trans (setG_ne _ _ (by first | assumption | exact Ne.symm (by assumption))) ?_; first | assumption | exact setG_same _ _ _ | (refine Eq.trans (setG_ne _ _ (by first | assumption | exact Ne.symm (by assumption))) ?_; first | assumption | exact setG_same _ _ _ | (refine Eq.trans (setG_ne _ _ (by first | assumption | exact Ne.symm (by assumption))) ?_; first | assumption | exact setG_same _ _ _)))) ?_; conv => whnf) | (refine (nthK_iff _ _).2 ⟨_, (by assumption), ?_⟩; conv => whnf) | (refine Exists.intro _ (And.intro (And.intro (by omega) (by assumption)) ?_); conv => whnf) | (refine And.intro (by first | decide | omega) ?_; conv => whnf) | fail)
    exact ⟨_, fun _ _ h => h, rfl, rfl⟩
theorem names28_ok (l : KvL) (G : Glob) (hl : l.length ≤ 1048576) : CallOk Try.prog TT 62 [.slc 87 (l.map kvR)] G (fun v G' => v = .slc 9 ((namesN (l.map (·.1))).map fun s => [AV.str s]) ∧ G' = G) := by
  refine call_sem tt_ok Try.func62 rfl (by kernel_rfl) Try.ntmps62 Try.results62 ?_; conv => whnf
  repeat' (first | (refine Sem.reg tt_ok ?_; conv => whnf) | refine Sem.seqS ?_ | (refine Sem.condS ?_; conv => whnf) | refine Sem.block ?_ | (refine Sem.regL tt_ok ?_; conv => whnf) | (refine Sem.skip tt_ok ?_; conv => whnf) | (refine Sem.exit tt_ok ?_; conv => whnf) | (refine Sem.ret tt_ok ?_; conv => whnf) | (refine BS_t (by assumption) ?_; conv => whnf) | (refine BS_f (by assumption) ?_; conv => whnf) | (refine atG (by first | assumption | exact setG_same _ _ _ | (refine Eq.trans (setG_ne _ _ (by first | assumption | exact Ne.symm (by assumption))) ?_; first | assumption | exact setG_same _ _ _ | (refine Eq.trans (setG_ne _ _ (by first | assumption | exact Ne.symm (by assumption))) ?_; first | assumption | exact setG_same _ _ _ | (refine Eq.trans (setG_ne _ _ (by first | assumption | exact Ne.symm (by assumption))) ?_; first | assumption | exact setG_same _ _ _)))) ?_; conv => whnf) | (refine (nthK_iff _ _).2 ⟨_, (by assumption), ?_⟩; conv => whnf) | (refine Exists.intro _ (And.intro (And.intro (by omega) (by assumption)) ?_); conv => whnf) | (refine And.intro (by first | decide | omega) ?_; conv => whnf) | fail)
  refine Sem.loop (ι := {k : Nat // k ≤ l.length}) (fun x => ⟨(.slc 87 (l.map kvR) :: .top :: .top :: .own 0 44 (((l.take x.1).map fun y => (⟨y.1, 0⟩ : CRw)).map CRw.av) :: .int .i64 (x.1 : Nat) :: .top :: .top :: .top :: .top :: .top :: .top :: .top :: .top :: .top :: .top :: .top :: .top :: .top :: .top :: .top :: .top :: .top :: []), [], 0, 1, G⟩) (fun x => l.length - x.1) ⟨0, Nat.zero_le _⟩ ?_ (fun x => ?_)
  · refine weak_by [none] ?_; (conv => whnf); repeat (first | (refine And.intro rfl ?_; conv => whnf) | fail)
    exact ⟨fun i x hx => hx, rfl, Nat.zero_le _, rfl, rfl⟩
  obtain ⟨k, hk0⟩ := x
  repeat' (first | (refine Sem.reg tt_ok ?_; conv => whnf) | refine Sem.seqS ?_ | (refine Sem.condS ?_; conv => whnf) | refine Sem.block ?_ | (refine Sem.regL tt_ok ?_; conv => whnf) | (refine Sem.skip tt_ok ?_; conv => whnf) | (refine Sem.exit tt_ok ?_; conv => whnf) | (refine Sem.ret tt_ok ?_; conv => whnf) | (refine BS_t (by assumption) ?_; conv => whnf) | (refine BS_f (by assumption) ?_; conv => whnf) | (refine atG (by first | assumption | exact setG_same _ _ _ | (refine Eq.trans (setG_ne _ _ (by first | assumption | exact Ne.symm (by assumption))) ?_; first | assumption | exact setG_same _ _ _ | (refine Eq.trans (setG_ne _ _ (by first | assumption | exact Ne.symm (by assumption))) ?_; first | assumption | exact setG_same _ _ _ | (refine Eq.trans (setG_ne _ _ (by first | assumption | exact Ne.symm (by assumption))) ?_; first | assumption | exact setG_same _ _ _)))) ?_; conv => whnf) | (refine (nthK_iff _ _).2 ⟨_, (by assumption), ?_⟩; conv => whnf) | (refine Exists.intro _ (And.intro (And.intro (by omega) (by assumption)) ?_); conv => whnf) | (refine And.intro (by first | decide | omega) ?_; conv => whnf) | fail)
  refine BS_intro (fun hk => ?_) (fun hk => ?_) <;> conv => whnf
  · have hks : k < l.length := by simp at hk; omega
    clear hk
    obtain ⟨v, hv⟩ : ∃ v, l[k]? = some v := ⟨_, List.getElem?_eq_getElem hks⟩
    have hsm : (l.map kvR)[((k : Nat) : Int).toNat]? = some (kvR v) := by rw [Int.toNat_natCast, List.getElem?_map, hv]; rfl
    have ht : l.take (k + 1) = l.take k ++ [v] := by rw [List.take_add_one, hv]; rfl
    have hw : IntKind.i64.wrap ((k : Int) + 1) = ((k + 1 : Nat) : Int) := by rw [IntWalk.i64_in _ (by omega)]; omega
    obtain ⟨a, b⟩ := v
    repeat' (first | (refine Sem.reg tt_ok ?_; conv => whnf) | refine Sem.seqS ?_ | (refine Sem.condS ?_; conv => whnf) | refine Sem.block ?_ | (refine Sem.regL tt_ok ?_; conv => whnf) | (refine Sem.skip tt_ok ?_; conv => whnf) | (refine Sem.exit tt_ok ?_; conv => whnf) | (refine Sem.ret tt_ok ?_; conv => whnf) | (refine BS_t (by assumption) ?_; conv => whnf) | (refine BS_f (by assumption) ?_; conv => whnf) | (refine atG (by first | assumption | exact setG_same _ _ _ | (refine Eq.trans (setG_ne _ _ (by first | assumption | exact Ne.symm (by assumption))) ?_; first | assumption | exact setG_same _ _ _ | (refine Eq.trans (setG_ne _ _ (by first | assumption | exact Ne.symm (by assumption))) ?_; first | assumption | exact setG_same _ _ _ | (refine Eq.trans (setG_ne _ _ (by first | assumption | exact Ne.symm (by assumption))) ?_; first | assumption | exact setG_same _ _ _)))) ?_; conv => whnf) | (refine (nthK_iff _ _).2 ⟨_, (by assumption), ?_⟩; conv => whnf) | (refine Exists.intro _ (And.intro (And.intro (by omega) (by assumption)) ?_); conv => whnf) | (refine And.intro (by first | decide | omega) ?_; conv => whnf) | fail)
    refine And.intro (app_le (by simp; omega) (by decide)) ?_; conv => whnf
    repeat' (first | (refine Sem.reg tt_ok ?_; conv => whnf) | refine Sem.seqS ?_ | (refine Sem.condS ?_; conv => whnf) | refine Sem.block ?_ | (refine Sem.regL tt_ok ?_; conv => whnf) | (refine Sem.skip tt_ok ?_; conv => whnf) | (refine Sem.exit tt_ok ?_; conv => whnf) | (refine Sem.ret tt_ok ?_; conv => whnf) | (refine BS_t (by assumption) ?_; conv => whnf) | (refine BS_f (by assumption) ?_; conv => whnf) | (refine atG (by first | assumption | exact setG_same _ _ _ | (refine Eq.trans (setG_ne _ _ (by first | assumption | exact Ne.symm (by assumption))) ?_; first | assumption | exact setG_same _ _ _ | (refine Eq.trans (setG_ne _ _ (by first | assumption | exact Ne.symm (by assumption))) ?_; first | assumption | exact setG_same _ _ _ | (refine Eq.trans (setG_ne _ _ (by first | assumption | exact Ne.symm (by assumption))) ?_; first | assumption | exact setG_same _ _ _)))) ?_; conv => whnf) | (refine (nthK_iff _ _).2 ⟨_, (by assumption), ?_⟩; conv => whnf) | (refine Exists.intro _ (And.intro (And.intro (by omega) (by assumption)) ?_); conv => whnf) | (refine And.intro (by first | decide | omega) ?_; conv => whnf) | fail)
    refine ⟨⟨k + 1, by omega⟩, by show l.length - (k + 1) < l.length - k; omega, ?_⟩
    refine weak_by [some 0] ?_; (conv => whnf); repeat (first | (refine And.intro rfl ?_; conv => whnf) | fail)
    refine And.intro (by
      show _ = (((l.take (k + 1)).map fun y => (⟨y.1, 0⟩ : CRw)).map CRw.av)
      rw [ht, List.map_append, List.map_append]; rfl) ?_
    (conv => whnf); repeat (first | (refine And.intro rfl ?_; conv => whnf) | fail)
    refine And.intro hw ?_
    (conv => whnf); repeat (first | (refine And.intro rfl ?_; conv => whnf) | fail)
    exact ⟨fun i y hy => hy, rfl, Nat.zero_le _, rfl, rfl⟩
  · have hk' : k = l.length := by simp at hk; omega
    subst hk'
    rw [List.take_length]
    have hN := names27_ok (l.map fun y => (⟨y.1, 0⟩ : CRw)) G (by simpa using hl)
    rw [show ((l.map fun y => (⟨y.1, 0⟩ : CRw)).map (·.name)) = l.map (·.1) by rw [List.map_map]; rfl] at hN
    repeat' (first | (refine Sem.reg tt_ok ?_; conv => whnf) | refine Sem.seqS ?_ | (refine Sem.condS ?_; conv => whnf) | refine Sem.block ?_ | (refine Sem.regL tt_ok ?_; conv => whnf) | (refine Sem.skip tt_ok ?_; conv => whnf) | (refine Sem.exit tt_ok ?_; conv => whnf) | (refine Sem.ret tt_ok ?_; conv => whnf) | (refine BS_t (by assumption) ?_; conv => whnf) | (refine BS_f (by assumption) ?_; conv => whnf) | (refine atG (by first | assumption | exact setG_same _ _ _ | (refine Eq.trans (setG_ne _ _ (by first | assumption | exact Ne.symm (by assumption))) ?_; first | assumption | exact setG_same _ _ _ | (refine Eq.trans (setG_ne _ _ (by first | assumption | exact Ne.symm (by assumption))) ?_; first | assumption | exact setG_same _ _ _ | (refine Eq.trans (setG_ne _ _ (by first | assumption | exact Ne.symm (by assumption))) ?_; first | assumption | exact setG_same _ _ _)))) ?_; conv => whnf) | (refine (nthK_iff _ _).2 ⟨_, (by assumption), ?_⟩; conv => whnf) | (refine Exists.intro _ (And.intro (And.intro (by omega) (by assumption)) ?_); conv => whnf) | (refine And.intro (by first | decide | omega) ?_; conv => whnf) | fail)
    refine hN.on ?_; conv => whnf
    repeat' (first | (refine Sem.reg tt_ok ?_; conv => whnf) | refine Sem.seqS ?_ | (refine Sem.condS ?_; conv => whnf) | refine Sem.block ?_ | (refine Sem.regL tt_ok ?_; conv => whnf) | (refine Sem.skip tt_ok ?_; conv => whnf) | (refine Sem.exit tt_ok ?_; conv => whnf) | (refine Sem.ret tt_ok ?_; conv => whnf) | (refine BS_t (by assumption) ?_; conv => whnf) | (refine BS_f (by assumption) ?_; conv => whnf) | (refine atG (by first | assumption | exact setG_same _ _ _ | (refine Eq.trans (setG_ne _ _ (by first | assumption | exact Ne.symm (by assumption))) ?_; first | assumption | exact setG_same _ _ _ | (refine Eq.trans (setG_ne _ _ (by first | assumption | exact Ne.symm (by assumption))) ?_; first | assumption | exact setG_same _ _ _ | (refine Eq.trans (setG_ne _ _ (by first | assumption | exact Ne.symm (by assumption))) ?_; first | assumption | exact setG_same _ _ _)))) ?_; conv => whnf) | (refine (nthK_iff _ _).2 ⟨_, (by assumption), ?_⟩; conv => whnf) | (refine Exists.intro _ (And.intro (And.intro (by omega) (by assumption)) ?_); conv => whnf) | (refine And.intro (by first | decide | omega) ?_; conv => whnf) | fail)
    exact ⟨_, fun _ _ h => h, rfl, rfl⟩
def szA (l : KvL) : Nat := (l.map fun x => 16 + x.2.size).sum
def szN (l : KvL) : Nat := ((namesN (l.map (·.1))).map fun s => 16 + s.size).sum
def sz28 (l : KvL) : Nat := szA l + szN l
theorem size28_ok (l : KvL) (G : Glob) (hl : l.length ≤ 1048576) (hz : sz28 l ≤ 4611686018427387904) : CallOk Try.prog TT 54 [.slc 87 (l.map kvR)] G (fun v G' => v = .int .i64 (sz28 l : Nat) ∧ G' = G) := by
  have hN := names28_ok l G hl
  have hnl := len_namesN (l.map (·.1))
  unfold sz28 szN at hz ⊢
  rw [List.length_map] at hnl
  generalize namesN (l.map (·.1)) = ns at hN hnl hz ⊢
  refine call_sem tt_ok Try.func54 rfl (by kernel_rfl) Try.ntmps54 Try.results54 ?_; conv => whnf
  repeat' (first | (refine Sem.reg tt_ok ?_; conv => whnf) | refine Sem.seqS ?_ | (refine Sem.condS ?_; conv => whnf) | refine Sem.block ?_ | (refine Sem.regL tt_ok ?_; conv => whnf) | (refine Sem.skip tt_ok ?_; conv => whnf) | (refine Sem.exit tt_ok ?_; conv => whnf) | (refine Sem.ret tt_ok ?_; conv => whnf) | (refine BS_t (by assumption) ?_; conv => whnf) | (refine BS_f (by assumption) ?_; conv => whnf) | (refine atG (by first | assumption | exact setG_same _ _ _ | (refine Eq.trans (setG_ne _ _ (by first | assumption | exact Ne.symm (by assumption))) ?_; first | assumption | exact setG_same _ _ _ | (refine Eq.trans (setG_ne _ _ (by first | assumption | exact Ne.symm (by assumption))) ?_; first | assumption | exact setG_same _ _ _ | (refine Eq.trans (setG_ne _ _ (by first | assumption | exact Ne.symm (by assumption))) ?_; first | assumption | exact setG_same _ _ _)))) ?_; conv => whnf) | (refine (nthK_iff _ _).2 ⟨_, (by assumption), ?_⟩; conv => whnf) | (refine Exists.intro _ (And.intro (And.intro (by omega) (by assumption)) ?_); conv => whnf) | (refine And.intro (by first | decide | omega) ?_; conv => whnf) | fail)
  refine Sem.loop (ι := {k : Nat // k ≤ l.length}) (fun x => ⟨(.slc 87 (l.map kvR) :: .top :: .top :: .int .i64 (szA (l.take x.1) : Nat) :: .int .i64 (x.1 : Nat) :: .top :: .top :: .top :: .top :: .top :: .top :: .top :: .top :: .top :: .top :: .top :: .top :: .top :: .top :: .top :: .top :: .top :: .top :: .top :: .top :: .top :: .top :: .top :: .top :: .top :: .top :: .top :: .top :: .top :: .top :: .top :: .top :: .top :: .top :: []), [], 0, 0, G⟩) (fun x => l.length - x.1) ⟨0, Nat.zero_le _⟩ ?_ (fun x => ?_)
  · refine weak_by [] ?_; (conv => whnf); repeat (first | (refine And.intro rfl ?_; conv => whnf) | fail)
    exact ⟨fun i x hx => hx, rfl, Nat.zero_le _, rfl, rfl⟩
  obtain ⟨k, hk0⟩ := x
  repeat' (first | (refine Sem.reg tt_ok ?_; conv => whnf) | refine Sem.seqS ?_ | (refine Sem.condS ?_; conv => whnf) | refine Sem.block ?_ | (refine Sem.regL tt_ok ?_; conv => whnf) | (refine Sem.skip tt_ok ?_; conv => whnf) | (refine Sem.exit tt_ok ?_; conv => whnf) | (refine Sem.ret tt_ok ?_; conv => whnf) | (refine BS_t (by assumption) ?_; conv => whnf) | (refine BS_f (by assumption) ?_; conv => whnf) | (refine atG (by first | assumption | exact setG_same _ _ _ | (refine Eq.trans (setG_ne _ _ (by first | assumption | exact Ne.symm (by assumption))) ?_; first | assumption | exact setG_same _ _ _ | (refine Eq.trans (setG_ne _ _ (by first | assumption | exact Ne.symm (by assumption))) ?_; first | assumption | exact setG_same _ _ _ | (refine Eq.trans (setG_ne _ _ (by first | assumption | exact Ne.symm (by assumption))) ?_; first | assumption | exact setG_same _ _ _)))) ?_; conv => whnf) | (refine (nthK_iff _ _).2 ⟨_, (by assumption), ?_⟩; conv => whnf) | (refine Exists.intro _ (And.intro (And.intro (by omega) (by assumption)) ?_); conv => whnf) | (refine And.intro (by first | decide | omega) ?_; conv => whnf) | fail)
  refine BS_intro (fun hk => ?_) (fun hk => ?_) <;> conv => whnf
  · have hks : k < l.length := by simp at hk; omega
    clear hk
    obtain ⟨v, hv⟩ : ∃ v, l[k]? = some v := ⟨_, List.getElem?_eq_getElem hks⟩
    have hsm : (l.map kvR)[((k : Nat) : Int).toNat]? = some (kvR v) := by rw [Int.toNat_natCast, List.getElem?_map, hv]; rfl
    have ht : l.take (k + 1) = l.take k ++ [v] := by rw [List.take_add_one, hv]; rfl
    have hs1 : szA (l.take (k + 1)) = szA (l.take k) + (16 + v.2.size) := by rw [ht]; simp [szA]
    have hs2 : szA (l.take (k + 1)) ≤ szA l := sum_take (fun x : ByteArray × ByteArray => 16 + x.2.size) l (k + 1)
    have hw : IntKind.i64.wrap ((k : Int) + 1) = ((k + 1 : Nat) : Int) := by rw [IntWalk.i64_in _ (by omega)]; omega
    obtain ⟨a, b⟩ := v
    simp only at hs1
    repeat' (first | (refine Sem.reg tt_ok ?_; conv => whnf) | refine Sem.seqS ?_ | (refine Sem.condS ?_; conv => whnf) | refine Sem.block ?_ | (refine Sem.regL tt_ok ?_; conv => whnf) | (refine Sem.skip tt_ok ?_; conv => whnf) | (refine Sem.exit tt_ok ?_; conv => whnf) | (refine Sem.ret tt_ok ?_; conv => whnf) | (refine BS_t (by assumption) ?_; conv => whnf) | (refine BS_f (by assumption) ?_; conv => whnf) | (refine atG (by first | assumption | exact setG_same _ _ _ | (refine Eq.trans (setG_ne _ _ (by first | assumption | exact Ne.symm (by assumption))) ?_; first | assumption | exact setG_same _ _ _ | (refine Eq.trans (setG_ne _ _ (by first | assumption | exact Ne.symm (by assumption))) ?_; first | assumption | exact setG_same _ _ _ | (refine Eq.trans (setG_ne _ _ (by first | assumption | exact Ne.symm (by assumption))) ?_; first | assumption | exact setG_same _ _ _)))) ?_; conv => whnf) | (refine (nthK_iff _ _).2 ⟨_, (by assumption), ?_⟩; conv => whnf) | (refine Exists.intro _ (And.intro (And.intro (by omega) (by assumption)) ?_); conv => whnf) | (refine And.intro (by first | decide | omega) ?_; conv => whnf) | fail)
    refine ⟨⟨k + 1, by omega⟩, by show l.length - (k + 1) < l.length - k; omega, ?_⟩
    refine weak_by [] ?_; (conv => whnf); repeat (first | (refine And.intro rfl ?_; conv => whnf) | fail)
    refine And.intro (by
      show IntKind.i64.wrap ((szA (l.take k) : Nat) + IntKind.i64.wrap (16 + (b.size : Int))) = ((szA (l.take (k + 1)) : Nat) : Int)
      rw [IntWalk.i64_in (16 + (b.size : Int)) (by omega), IntWalk.i64_in _ (by omega)]
      omega) ?_
    (conv => whnf); repeat (first | (refine And.intro rfl ?_; conv => whnf) | fail)
    refine And.intro hw ?_
    (conv => whnf); repeat (first | (refine And.intro rfl ?_; conv => whnf) | fail)
    exact ⟨fun i y hy => hy, rfl, Nat.zero_le _, rfl, rfl⟩
  · have hk' : k = l.length := by simp at hk; omega
    subst hk'
    rw [List.take_length]
    repeat' (first | (refine Sem.reg tt_ok ?_; conv => whnf) | refine Sem.seqS ?_ | (refine Sem.condS ?_; conv => whnf) | refine Sem.block ?_ | (refine Sem.regL tt_ok ?_; conv => whnf) | (refine Sem.skip tt_ok ?_; conv => whnf) | (refine Sem.exit tt_ok ?_; conv => whnf) | (refine Sem.ret tt_ok ?_; conv => whnf) | (refine BS_t (by assumption) ?_; conv => whnf) | (refine BS_f (by assumption) ?_; conv => whnf) | (refine atG (by first | assumption | exact setG_same _ _ _ | (refine Eq.trans (setG_ne _ _ (by first | assumption | exact Ne.symm (by assumption))) ?_; first | assumption | exact setG_same _ _ _ | (refine Eq.trans (setG_ne _ _ (by first | assumption | exact Ne.symm (by assumption))) ?_; first | assumption | exact setG_same _ _ _ | (refine Eq.trans (setG_ne _ _ (by first | assumption | exact Ne.symm (by assumption))) ?_; first | assumption | exact setG_same _ _ _)))) ?_; conv => whnf) | (refine (nthK_iff _ _).2 ⟨_, (by assumption), ?_⟩; conv => whnf) | (refine Exists.intro _ (And.intro (And.intro (by omega) (by assumption)) ?_); conv => whnf) | (refine And.intro (by first | decide | omega) ?_; conv => whnf) | fail)
    refine hN.on ?_; conv => whnf
    repeat' (first | (refine Sem.reg tt_ok ?_; conv => whnf) | refine Sem.seqS ?_ | (refine Sem.condS ?_; conv => whnf) | refine Sem.block ?_ | (refine Sem.regL tt_ok ?_; conv => whnf) | (refine Sem.skip tt_ok ?_; conv => whnf) | (refine Sem.exit tt_ok ?_; conv => whnf) | (refine Sem.ret tt_ok ?_; conv => whnf) | (refine BS_t (by assumption) ?_; conv => whnf) | (refine BS_f (by assumption) ?_; conv => whnf) | (refine atG (by first | assumption | exact setG_same _ _ _ | (refine Eq.trans (setG_ne _ _ (by first | assumption | exact Ne.symm (by assumption))) ?_; first | assumption | exact setG_same _ _ _ | (refine Eq.trans (setG_ne _ _ (by first | assumption | exact Ne.symm (by assumption))) ?_; first | assumption | exact setG_same _ _ _ | (refine Eq.trans (setG_ne _ _ (by first | assumption | exact Ne.symm (by assumption))) ?_; first | assumption | exact setG_same _ _ _)))) ?_; conv => whnf) | (refine (nthK_iff _ _).2 ⟨_, (by assumption), ?_⟩; conv => whnf) | (refine Exists.intro _ (And.intro (And.intro (by omega) (by assumption)) ?_); conv => whnf) | (refine And.intro (by first | decide | omega) ?_; conv => whnf) | fail)
    refine Sem.loop (ι := {k : Nat // k ≤ ns.length}) (fun x => ⟨(.slc 87 (l.map kvR) :: .top :: .top :: .int .i64 (szA l + ((ns.take x.1).map fun s => 16 + s.size).sum : Nat) :: .top :: .slc 9 (ns.map fun s => [AV.str s]) :: .int .i64 (x.1 : Nat) :: .top :: .top :: .top :: .top :: .top :: .top :: .top :: .top :: .top :: .top :: .top :: .top :: .top :: .top :: .top :: .top :: .top :: .top :: .top :: .top :: .top :: .top :: .top :: .top :: .top :: .top :: .top :: .top :: .top :: .top :: .top :: .top :: []), [], 0, 0, G⟩) (fun x => ns.length - x.1) ⟨0, Nat.zero_le _⟩ ?_ (fun x => ?_)
    · refine weak_by [] ?_; (conv => whnf); repeat (first | (refine And.intro rfl ?_; conv => whnf) | fail)
      exact ⟨fun i x hx => hx, rfl, Nat.zero_le _, rfl, rfl⟩
    obtain ⟨k, hk0⟩ := x
    repeat' (first | (refine Sem.reg tt_ok ?_; conv => whnf) | refine Sem.seqS ?_ | (refine Sem.condS ?_; conv => whnf) | refine Sem.block ?_ | (refine Sem.regL tt_ok ?_; conv => whnf) | (refine Sem.skip tt_ok ?_; conv => whnf) | (refine Sem.exit tt_ok ?_; conv => whnf) | (refine Sem.ret tt_ok ?_; conv => whnf) | (refine BS_t (by assumption) ?_; conv => whnf) | (refine BS_f (by assumption) ?_; conv => whnf) | (refine atG (by first | assumption | exact setG_same _ _ _ | (refine Eq.trans (setG_ne _ _ (by first | assumption | exact Ne.symm (by assumption))) ?_; first | assumption | exact setG_same _ _ _ | (refine Eq.trans (setG_ne _ _ (by first | assumption | exact Ne.symm (by assumption))) ?_; first | assumption | exact setG_same _ _ _ | (refine Eq.trans (setG_ne _ _ (by first | assumption | exact Ne.symm (by assumption))) ?_; first | assumption | exact setG_same _ _ _)))) ?_; conv => whnf) | (refine (nthK_iff _ _).2 ⟨_, (by assumption), ?_⟩; conv => whnf) | (refine Exists.intro _ (And.intro (And.intro (by omega) (by assumption)) ?_); conv => whnf) | (refine And.intro (by first | decide | omega) ?_; conv => whnf) | fail)
    refine BS_intro (fun hk => ?_) (fun hk => ?_) <;> conv => whnf
    · have hks : k < ns.length := by simp at hk; omega
      clear hk
      obtain ⟨v, hv⟩ : ∃ v, ns[k]? = some v := ⟨_, List.getElem?_eq_getElem hks⟩
      have hsm : (ns.map fun s => [AV.str s])[((k : Nat) : Int).toNat]? = some [AV.str v] := by rw [Int.toNat_natCast, List.getElem?_map, hv]; rfl
      have ht : ns.take (k + 1) = ns.take k ++ [v] := by rw [List.take_add_one, hv]; rfl
      have hs1 : ((ns.take (k + 1)).map fun s => 16 + s.size).sum = ((ns.take k).map fun s => 16 + s.size).sum + (16 + v.size) := by rw [ht]; simp
      have hs2 := sum_take (fun s : ByteArray => 16 + s.size) ns (k + 1)
      have hw : IntKind.i64.wrap ((k : Int) + 1) = ((k + 1 : Nat) : Int) := by rw [IntWalk.i64_in _ (by omega)]; omega
      repeat' (first | (refine Sem.reg tt_ok ?_; conv => whnf) | refine Sem.seqS ?_ | (refine Sem.condS ?_; conv => whnf) | refine Sem.block ?_ | (refine Sem.regL tt_ok ?_; conv => whnf) | (refine Sem.skip tt_ok ?_; conv => whnf) | (refine Sem.exit tt_ok ?_; conv => whnf) | (refine Sem.ret tt_ok ?_; conv => whnf) | (refine BS_t (by assumption) ?_; conv => whnf) | (refine BS_f (by assumption) ?_; conv => whnf) | (refine atG (by first | assumption | exact setG_same _ _ _ | (refine Eq.trans (setG_ne _ _ (by first | assumption | exact Ne.symm (by assumption))) ?_; first | assumption | exact setG_same _ _ _ | (refine Eq.trans (setG_ne _ _ (by first | assumption | exact Ne.symm (by assumption))) ?_; first | assumption | exact setG_same _ _ _ | (refine Eq.trans (setG_ne _ _ (by first | assumption | exact Ne.symm (by assumption))) ?_; first | assumption | exact setG_same _ _ _)))) ?_; conv => whnf) | (refine (nthK_iff _ _).2 ⟨_, (by assumption), ?_⟩; conv => whnf) | (refine Exists.intro _ (And.intro (And.intro (by omega) (by assumption)) ?_); conv => whnf) | (refine And.intro (by first | decide | omega) ?_; conv => whnf) | fail)
      refine ⟨⟨k + 1, by omega⟩, by show ns.length - (k + 1) < ns.length - k; omega, ?_⟩
      refine weak_by [] ?_; (conv => whnf); repeat (first | (refine And.intro rfl ?_; conv => whnf) | fail)
      refine And.intro (by
        show IntKind.i64.wrap (((szA l + ((ns.take k).map fun s => 16 + s.size).sum : Nat) : Int) + IntKind.i64.wrap (16 + (v.size : Int))) = ((szA l + ((ns.take (k + 1)).map fun s => 16 + s.size).sum : Nat) : Int)
        rw [IntWalk.i64_in (16 + (v.size : Int)) (by omega), IntWalk.i64_in _ (by omega)]
        omega) ?_
      (conv => whnf); repeat (first | (refine And.intro rfl ?_; conv => whnf) | fail)
      refine And.intro hw ?_
      (conv => whnf); repeat (first | (refine And.intro rfl ?_; conv => whnf) | fail)
      exact ⟨fun i y hy => hy, rfl, Nat.zero_le _, rfl, rfl⟩
    · have hk' : k = ns.length := by simp at hk; omega
      subst hk'
      rw [List.take_length]
      repeat' (first | (refine Sem.reg tt_ok ?_; conv => whnf) | refine Sem.seqS ?_ | (refine Sem.condS ?_; conv => whnf) | refine Sem.block ?_ | (refine Sem.regL tt_ok ?_; conv => whnf) | (refine Sem.skip tt_ok ?_; conv => whnf) | (refine Sem.exit tt_ok ?_; conv => whnf) | (refine Sem.ret tt_ok ?_; conv => whnf) | (refine BS_t (by assumption) ?_; conv => whnf) | (refine BS_f (by assumption) ?_; conv => whnf) | (refine atG (by first | assumption | exact setG_same _ _ _ | (refine Eq.trans (setG_ne _ _ (by first | assumption | exact Ne.symm (by assumption))) ?_; first | assumption | exact setG_same _ _ _ | (refine Eq.trans (setG_ne _ _ (by first | assumption | exact Ne.symm (by assumption))) ?_; first | assumption | exact setG_same _ _ _ | (refine Eq.trans (setG_ne _ _ (by first | assumption | exact Ne.symm (by assumption))) ?_; first | assumption | exact setG_same _ _ _)))) ?_; conv => whnf) | (refine (nthK_iff _ _).2 ⟨_, (by assumption), ?_⟩; conv => whnf) | (refine Exists.intro _ (And.intro (And.intro (by omega) (by assumption)) ?_); conv => whnf) | (refine And.intro (by first | decide | omega) ?_; conv => whnf) | fail)
      exact ⟨_, fun _ _ h => h, rfl, rfl⟩
end Go.Proofs.Ytpnlhnhjedopgaa
