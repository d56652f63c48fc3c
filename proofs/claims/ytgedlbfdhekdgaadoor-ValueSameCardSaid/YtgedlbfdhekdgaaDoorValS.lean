/- value.Same and the document's in the abstract run. -/
import Derived.Test.YtgedlbfdhekdgaaDoorValK
set_option maxRecDepth 100000
set_option linter.unusedSimpArgs false
namespace Go.Proofs.YtgedlbfdhekdgaaDoor
open Go Go.RowKit Go.Proofs

mutual
def sameV : VT → VT → Bool
  | .mk k n s t l, .mk k' n' s' t' l' => decide (k = k') && (decide (n = n') && (decide (s = s') && (decide (t = t') && samesV l l')))
def samesV : List VT → List VT → Bool
  | [], [] => true
  | x :: r, y :: q => sameV x y && samesV r q
  | [], _ :: _ => false
  | _ :: _, [] => false
end
theorem sameV_mk (k n : Int) (s : List UInt8) (t : List Int) (l : List VT) (k' n' : Int) (s' : List UInt8) (t' : List Int) (l' : List VT) : sameV (.mk k n s t l) (.mk k' n' s' t' l') = (decide (k = k') && (decide (n = n') && (decide (s = s') && (decide (t = t') && samesV l l')))) := by rw [sameV]
theorem sames_len : ∀ (l l' : List VT), l.length ≠ l'.length → samesV l l' = false
  | [], [], h => absurd rfl h
  | [], _ :: _, _ => by rw [samesV]
  | _ :: _, [], _ => by rw [samesV]
  | x :: r, y :: q, h => by rw [samesV, sames_len r q (by simpa using h)]; simp
theorem sames_true : ∀ (l l' : List VT), l.length = l'.length → (∀ (i : Nat) (x y : VT), l[i]? = some x → l'[i]? = some y → sameV x y = true) → samesV l l' = true
  | [], [], _, _ => by rw [samesV]
  | [], _ :: _, h, _ => by simp at h
  | _ :: _, [], h, _ => by simp at h
  | x :: r, y :: q, h, hs => by rw [samesV, hs 0 x y rfl rfl, sames_true r q (by simpa using h) fun i a b ha hb => hs (i + 1) a b ha hb]; rfl
theorem sames_false : ∀ (l l' : List VT) (i : Nat) (x y : VT), l[i]? = some x → l'[i]? = some y → sameV x y = false → samesV l l' = false
  | [], _, i, x, y, h, _, _ => by simp at h
  | _ :: _, [], i, x, y, _, h, _ => by simp at h
  | a :: r, b :: q, 0, x, y, h, h', hs => by cases h; cases h'; rw [samesV, hs]; rfl
  | a :: r, b :: q, i + 1, x, y, h, h', hs => by rw [samesV, sames_false r q i x y h h' hs]; simp
theorem same_self : ∀ v : VT, sameV v v = true := VT.ind fun k n s t l ih => by
  rw [sameV_mk, sames_true l l rfl fun i x y hx hy => by rw [hx] at hy; cases hy; exact ih x (List.mem_of_getElem? hx)]
  simp
/-- few tags, all the way down -/
inductive VT.Tg : VT → Prop
  | mk (k n : Int) (s : List UInt8) (t : List Int) (l : List VT) (ht : t.length ≤ 300) (hl : ∀ x ∈ l, VT.Tg x) : VT.Tg (.mk k n s t l)
theorem great_tg : ∀ (v : VT) (d : Nat), greatV v d = false → v.Tg := VT.ind (P := fun v => ∀ d, greatV v d = false → v.Tg) fun k n s t l ih d h => by
  rw [greatV_mk] at h
  split at h
  · cases h
  · rename_i hn
    exact .mk _ _ _ _ _ (by omega) fun x hx => ih x hx _ ((greats_size l _ _ h).2 x hx)
theorem S_tl (s : List UInt8) : (S s).toList = s := by simp [S]
theorem tags_at {t : List Int} {i : Nat} {x : Int} (h : t[i]? = some x) : (t.map tagA)[((i : Nat) : Int).toNat]? = some [.int .i64 x] := by
  rw [Int.toNat_natCast, List.getElem?_map, h]; rfl
structure EI (a b : List Int) where
  k : Nat
  hk : k ≤ a.length
  h : ∀ (i : Nat), i < k → a[i]? = b[i]?
structure SI (a b : List VT) where
  k : Nat
  hk : k ≤ a.length
  h : ∀ (i : Nat) (x y : VT), i < k → a[i]? = some x → b[i]? = some y → sameV x y = true
theorem ints_end {a b : List Int} (hl : a.length = b.length) (h : ∀ i, i < a.length → a[i]? = b[i]?) : decide (a = b) = true := by
  rw [decide_eq_true_eq]
  apply List.ext_getElem? fun i => ?_
  by_cases hi : i < a.length
  · exact h i hi
  · rw [List.getElem?_eq_none (by omega), List.getElem?_eq_none (by omega)]
theorem ints_not {a b : List Int} {i : Nat} {x y : Int} (hx : a[i]? = some x) (hy : b[i]? = some y) (h : x ≠ y) : decide (a = b) = false := by
  rw [decide_eq_false_iff_not]
  rintro rfl
  rw [hx] at hy; cases hy; exact h rfl
theorem eqints_ok (a b : List Int) (ha : a.length ≤ 1000000) (G : Glob) : CallOk Tryd.prog TT 27 [.slc 3 (a.map tagA), .slc 3 (b.map tagA)] G (fun v G' => v = .bool (decide (a = b)) ∧ G' = G) := by
  have la : (a.map tagA).length = a.length := by simp
  have lb : (b.map tagA).length = b.length := by simp
  by_cases hl : a.length = b.length
  · have c0 : ((((a.map tagA).length : Nat) : Int) != (((b.map tagA).length : Nat) : Int)) = false := by rw [la, lb, hl]; simp
    refine call_sem tt_ok Tryd.func27 rfl (by kernel_rfl) Tryd.ntmps27 Tryd.results27 ?_; conv => whnf
    repeat' (first | ((first | refine Sem.reg tt_ok ?_ | refine Sem.condS ?_ | refine Sem.regL tt_ok ?_ | refine Sem.skip tt_ok ?_ | refine Sem.exit tt_ok ?_ | refine Sem.ret tt_ok ?_ | refine BS_t (by assumption) ?_ | refine BS_f (by assumption) ?_ | refine (nthK_iff _ _).2 ⟨_, (by assumption), ?_⟩ | refine ⟨_, ⟨(by omega), (by assumption)⟩, ?_⟩ | refine And.intro (by first | decide | omega) ?_ | fail); conv => whnf) | refine Sem.seqS ?_ | refine Sem.block ?_ | fail)
    refine Sem.loop (ι := EI a b) (fun x => ⟨(.slc 3 (a.map tagA) :: .slc 3 (b.map tagA) :: .top :: .top :: .bool false :: .top :: .top :: .top :: .top :: .top :: .top :: .top :: .int .i64 ((a.map tagA).length : Nat) :: .int .i64 (x.k : Nat) :: .top :: .top :: .top :: .top :: .top :: .top :: .top :: .top :: .top :: .top :: .top :: .top :: []), [], 0, 0, G⟩) (fun x => a.length - x.k) ⟨0, Nat.zero_le _, fun i hi => absurd hi (Nat.not_lt_zero i)⟩ ?_ (fun x => ?_)
    · refine weak_by [] ?_; (conv => whnf); repeat (first | (refine And.intro rfl ?_; conv => whnf) | fail)
      exact ⟨fun i y hy => hy, rfl, by decide, rfl, rfl⟩
    obtain ⟨k, hk, he⟩ := x
    simp only
    have h0 : (0 : Int) ≤ ((k : Nat) : Int) := by omega
    by_cases hlt : k < a.length
    · obtain ⟨x, hx⟩ : ∃ x, a[k]? = some x := ⟨_, List.getElem?_eq_getElem hlt⟩
      obtain ⟨y, hy⟩ : ∃ y, b[k]? = some y := ⟨_, List.getElem?_eq_getElem (by omega)⟩
      have tl : decide (((k : Nat) : Int) < ((a.map tagA).length : Nat)) = true := by rw [la, decide_eq_true_eq]; omega
      have hm := tags_at hx
      have hm2 := tags_at hy
      have hi : IntKind.i64.wrap ((k : Int) + 1) = ((k + 1 : Nat) : Int) := by rw [IntWalk.i64_in _ (by omega)]; omega
      by_cases hxy : x = y
      · have c1 : (x != y) = false := by simp [hxy]
        repeat' (first | ((first | refine Sem.reg tt_ok ?_ | refine Sem.condS ?_ | refine Sem.regL tt_ok ?_ | refine Sem.skip tt_ok ?_ | refine Sem.exit tt_ok ?_ | refine Sem.ret tt_ok ?_ | refine BS_t (by assumption) ?_ | refine BS_f (by assumption) ?_ | refine (nthK_iff _ _).2 ⟨_, (by assumption), ?_⟩ | refine ⟨_, ⟨(by omega), (by assumption)⟩, ?_⟩ | refine And.intro (by first | decide | omega) ?_ | fail); conv => whnf) | refine Sem.seqS ?_ | refine Sem.block ?_ | fail)
        refine draw_sound (eff := []) tt_ok (by kernel_rfl) (by kernel_rfl) ?_; conv => whnf
        repeat' (first | ((first | refine BS_t (by assumption) ?_ | refine BS_f (by assumption) ?_ | refine (nthK_iff _ _).2 ⟨_, (by assumption), ?_⟩ | refine ⟨_, ⟨(by omega), (by assumption)⟩, ?_⟩ | refine And.intro (by first | decide | omega) ?_ | fail); conv => whnf) | fail)
        repeat' (first | ((first | refine Sem.reg tt_ok ?_ | refine Sem.condS ?_ | refine Sem.regL tt_ok ?_ | refine Sem.skip tt_ok ?_ | refine Sem.exit tt_ok ?_ | refine Sem.ret tt_ok ?_ | refine BS_t (by assumption) ?_ | refine BS_f (by assumption) ?_ | refine (nthK_iff _ _).2 ⟨_, (by assumption), ?_⟩ | refine ⟨_, ⟨(by omega), (by assumption)⟩, ?_⟩ | refine And.intro (by first | decide | omega) ?_ | fail); conv => whnf) | refine Sem.seqS ?_ | refine Sem.block ?_ | fail)
        refine ⟨⟨k + 1, by omega, fun i hi => by
          by_cases h : i = k
          · rw [h, hx, hy, hxy]
          · exact he i (by omega)⟩, by show a.length - (k + 1) < a.length - k; omega, ?_⟩
        refine weak_by [] ?_; (conv => whnf); repeat (first | (refine And.intro rfl ?_; conv => whnf) | fail)
        refine And.intro hi ?_
        (conv => whnf); repeat (first | (refine And.intro rfl ?_; conv => whnf) | fail)
        exact ⟨fun i y hy => hy, rfl, by decide, rfl, rfl⟩
      · have c1 : (x != y) = true := by simp [hxy]
        rw [ints_not hx hy hxy]
        repeat' (first | ((first | refine Sem.reg tt_ok ?_ | refine Sem.condS ?_ | refine Sem.regL tt_ok ?_ | refine Sem.skip tt_ok ?_ | refine Sem.exit tt_ok ?_ | refine Sem.ret tt_ok ?_ | refine BS_t (by assumption) ?_ | refine BS_f (by assumption) ?_ | refine (nthK_iff _ _).2 ⟨_, (by assumption), ?_⟩ | refine ⟨_, ⟨(by omega), (by assumption)⟩, ?_⟩ | refine And.intro (by first | decide | omega) ?_ | fail); conv => whnf) | refine Sem.seqS ?_ | refine Sem.block ?_ | fail)
        refine draw_sound (eff := []) tt_ok (by kernel_rfl) (by kernel_rfl) ?_; conv => whnf
        repeat' (first | ((first | refine BS_t (by assumption) ?_ | refine BS_f (by assumption) ?_ | refine (nthK_iff _ _).2 ⟨_, (by assumption), ?_⟩ | refine ⟨_, ⟨(by omega), (by assumption)⟩, ?_⟩ | refine And.intro (by first | decide | omega) ?_ | fail); conv => whnf) | fail)
        repeat' (first | ((first | refine Sem.reg tt_ok ?_ | refine Sem.condS ?_ | refine Sem.regL tt_ok ?_ | refine Sem.skip tt_ok ?_ | refine Sem.exit tt_ok ?_ | refine Sem.ret tt_ok ?_ | refine BS_t (by assumption) ?_ | refine BS_f (by assumption) ?_ | refine (nthK_iff _ _).2 ⟨_, (by assumption), ?_⟩ | refine ⟨_, ⟨(by omega), (by assumption)⟩, ?_⟩ | refine And.intro (by first | decide | omega) ?_ | fail); conv => whnf) | refine Sem.seqS ?_ | refine Sem.block ?_ | fail)
        exact ⟨_, fun _ _ h => h, rfl, rfl⟩
    · have hk' : k = a.length := by omega
      subst hk'
      have tl : decide (((a.length : Nat) : Int) < ((a.map tagA).length : Nat)) = false := by rw [la, decide_eq_false_iff_not]; omega
      rw [ints_end hl he]
      repeat' (first | ((first | refine Sem.reg tt_ok ?_ | refine Sem.condS ?_ | refine Sem.regL tt_ok ?_ | refine Sem.skip tt_ok ?_ | refine Sem.exit tt_ok ?_ | refine Sem.ret tt_ok ?_ | refine BS_t (by assumption) ?_ | refine BS_f (by assumption) ?_ | refine (nthK_iff _ _).2 ⟨_, (by assumption), ?_⟩ | refine ⟨_, ⟨(by omega), (by assumption)⟩, ?_⟩ | refine And.intro (by first | decide | omega) ?_ | fail); conv => whnf) | refine Sem.seqS ?_ | refine Sem.block ?_ | fail)
      exact ⟨_, fun _ _ h => h, rfl, rfl⟩
  · have c0 : ((((a.map tagA).length : Nat) : Int) != (((b.map tagA).length : Nat) : Int)) = true := by rw [la, lb]; simp; omega
    have c1 : decide (a = b) = false := by rw [decide_eq_false_iff_not]; rintro rfl; exact hl rfl
    rw [c1]
    refine call_sem tt_ok Tryd.func27 rfl (by kernel_rfl) Tryd.ntmps27 Tryd.results27 ?_; conv => whnf
    repeat' (first | ((first | refine Sem.reg tt_ok ?_ | refine Sem.condS ?_ | refine Sem.regL tt_ok ?_ | refine Sem.skip tt_ok ?_ | refine Sem.exit tt_ok ?_ | refine Sem.ret tt_ok ?_ | refine BS_t (by assumption) ?_ | refine BS_f (by assumption) ?_ | refine (nthK_iff _ _).2 ⟨_, (by assumption), ?_⟩ | refine ⟨_, ⟨(by omega), (by assumption)⟩, ?_⟩ | refine And.intro (by first | decide | omega) ?_ | fail); conv => whnf) | refine Sem.seqS ?_ | refine Sem.block ?_ | fail)
    exact ⟨_, fun _ _ h => h, rfl, rfl⟩
theorem refints_ok (a b : List Int) (ha : a.length ≤ 1000000) (G : Glob) : CallOk Tryd.prog TT 29 [.slc 3 (a.map tagA), .slc 3 (b.map tagA)] G (fun v G' => v = .bool (decide (a = b)) ∧ G' = G) := by
  have la : (a.map tagA).length = a.length := by simp
  have lb : (b.map tagA).length = b.length := by simp
  by_cases hl : a.length = b.length
  · have c0 : ((((a.map tagA).length : Nat) : Int) != (((b.map tagA).length : Nat) : Int)) = false := by rw [la, lb, hl]; simp
    refine call_sem tt_ok Tryd.func29 rfl (by kernel_rfl) Tryd.ntmps29 Tryd.results29 ?_; conv => whnf
    repeat' (first | ((first | refine Sem.reg tt_ok ?_ | refine Sem.condS ?_ | refine Sem.regL tt_ok ?_ | refine Sem.skip tt_ok ?_ | refine Sem.exit tt_ok ?_ | refine Sem.ret tt_ok ?_ | refine BS_t (by assumption) ?_ | refine BS_f (by assumption) ?_ | refine (nthK_iff _ _).2 ⟨_, (by assumption), ?_⟩ | refine ⟨_, ⟨(by omega), (by assumption)⟩, ?_⟩ | refine And.intro (by first | decide | omega) ?_ | fail); conv => whnf) | refine Sem.seqS ?_ | refine Sem.block ?_ | fail)
    refine Sem.loop (ι := EI a b) (fun x => ⟨(.slc 3 (a.map tagA) :: .slc 3 (b.map tagA) :: .top :: .top :: .top :: .int .i64 (x.k : Nat) :: .top :: .top :: .top :: .top :: .top :: .top :: .top :: .top :: .top :: .top :: .top :: .top :: .top :: .top :: .top :: .top :: .top :: .top :: .top :: .top :: []), [], 0, 0, G⟩) (fun x => a.length - x.k) ⟨0, Nat.zero_le _, fun i hi => absurd hi (Nat.not_lt_zero i)⟩ ?_ (fun x => ?_)
    · refine weak_by [] ?_; (conv => whnf); repeat (first | (refine And.intro rfl ?_; conv => whnf) | fail)
      exact ⟨fun i y hy => hy, rfl, by decide, rfl, rfl⟩
    obtain ⟨k, hk, he⟩ := x
    simp only
    have h0 : (0 : Int) ≤ ((k : Nat) : Int) := by omega
    by_cases hlt : k < a.length
    · obtain ⟨x, hx⟩ : ∃ x, a[k]? = some x := ⟨_, List.getElem?_eq_getElem hlt⟩
      obtain ⟨y, hy⟩ : ∃ y, b[k]? = some y := ⟨_, List.getElem?_eq_getElem (by omega)⟩
      have tl : decide (((k : Nat) : Int) < ((a.map tagA).length : Nat)) = true := by rw [la, decide_eq_true_eq]; omega
      have hm := tags_at hx
      have hm2 := tags_at hy
      have hi : IntKind.i64.wrap ((k : Int) + 1) = ((k + 1 : Nat) : Int) := by rw [IntWalk.i64_in _ (by omega)]; omega
      by_cases hxy : x = y
      · have c1 : (x != y) = false := by simp [hxy]
        repeat' (first | ((first | refine Sem.reg tt_ok ?_ | refine Sem.condS ?_ | refine Sem.regL tt_ok ?_ | refine Sem.skip tt_ok ?_ | refine Sem.exit tt_ok ?_ | refine Sem.ret tt_ok ?_ | refine BS_t (by assumption) ?_ | refine BS_f (by assumption) ?_ | refine (nthK_iff _ _).2 ⟨_, (by assumption), ?_⟩ | refine ⟨_, ⟨(by omega), (by assumption)⟩, ?_⟩ | refine And.intro (by first | decide | omega) ?_ | fail); conv => whnf) | refine Sem.seqS ?_ | refine Sem.block ?_ | fail)
        refine draw_sound (eff := []) tt_ok (by kernel_rfl) (by kernel_rfl) ?_; conv => whnf
        repeat' (first | ((first | refine BS_t (by assumption) ?_ | refine BS_f (by assumption) ?_ | refine (nthK_iff _ _).2 ⟨_, (by assumption), ?_⟩ | refine ⟨_, ⟨(by omega), (by assumption)⟩, ?_⟩ | refine And.intro (by first | decide | omega) ?_ | fail); conv => whnf) | fail)
        repeat' (first | ((first | refine Sem.reg tt_ok ?_ | refine Sem.condS ?_ | refine Sem.regL tt_ok ?_ | refine Sem.skip tt_ok ?_ | refine Sem.exit tt_ok ?_ | refine Sem.ret tt_ok ?_ | refine BS_t (by assumption) ?_ | refine BS_f (by assumption) ?_ | refine (nthK_iff _ _).2 ⟨_, (by assumption), ?_⟩ | refine ⟨_, ⟨(by omega), (by assumption)⟩, ?_⟩ | refine And.intro (by first | decide | omega) ?_ | fail); conv => whnf) | refine Sem.seqS ?_ | refine Sem.block ?_ | fail)
        refine ⟨⟨k + 1, by omega, fun i hi => by
          by_cases h : i = k
          · rw [h, hx, hy, hxy]
          · exact he i (by omega)⟩, by show a.length - (k + 1) < a.length - k; omega, ?_⟩
        refine weak_by [] ?_; (conv => whnf); repeat (first | (refine And.intro rfl ?_; conv => whnf) | fail)
        refine And.intro hi ?_
        (conv => whnf); repeat (first | (refine And.intro rfl ?_; conv => whnf) | fail)
        exact ⟨fun i y hy => hy, rfl, by decide, rfl, rfl⟩
      · have c1 : (x != y) = true := by simp [hxy]
        rw [ints_not hx hy hxy]
        repeat' (first | ((first | refine Sem.reg tt_ok ?_ | refine Sem.condS ?_ | refine Sem.regL tt_ok ?_ | refine Sem.skip tt_ok ?_ | refine Sem.exit tt_ok ?_ | refine Sem.ret tt_ok ?_ | refine BS_t (by assumption) ?_ | refine BS_f (by assumption) ?_ | refine (nthK_iff _ _).2 ⟨_, (by assumption), ?_⟩ | refine ⟨_, ⟨(by omega), (by assumption)⟩, ?_⟩ | refine And.intro (by first | decide | omega) ?_ | fail); conv => whnf) | refine Sem.seqS ?_ | refine Sem.block ?_ | fail)
        refine draw_sound (eff := []) tt_ok (by kernel_rfl) (by kernel_rfl) ?_; conv => whnf
        repeat' (first | ((first | refine BS_t (by assumption) ?_ | refine BS_f (by assumption) ?_ | refine (nthK_iff _ _).2 ⟨_, (by assumption), ?_⟩ | refine ⟨_, ⟨(by omega), (by assumption)⟩, ?_⟩ | refine And.intro (by first | decide | omega) ?_ | fail); conv => whnf) | fail)
        repeat' (first | ((first | refine Sem.reg tt_ok ?_ | refine Sem.condS ?_ | refine Sem.regL tt_ok ?_ | refine Sem.skip tt_ok ?_ | refine Sem.exit tt_ok ?_ | refine Sem.ret tt_ok ?_ | refine BS_t (by assumption) ?_ | refine BS_f (by assumption) ?_ | refine (nthK_iff _ _).2 ⟨_, (by assumption), ?_⟩ | refine ⟨_, ⟨(by omega), (by assumption)⟩, ?_⟩ | refine And.intro (by first | decide | omega) ?_ | fail); conv => whnf) | refine Sem.seqS ?_ | refine Sem.block ?_ | fail)
        exact ⟨_, fun _ _ h => h, rfl, rfl⟩
    · have hk' : k = a.length := by omega
      subst hk'
      have tl : decide (((a.length : Nat) : Int) < ((a.map tagA).length : Nat)) = false := by rw [la, decide_eq_false_iff_not]; omega
      rw [ints_end hl he]
      repeat' (first | ((first | refine Sem.reg tt_ok ?_ | refine Sem.condS ?_ | refine Sem.regL tt_ok ?_ | refine Sem.skip tt_ok ?_ | refine Sem.exit tt_ok ?_ | refine Sem.ret tt_ok ?_ | refine BS_t (by assumption) ?_ | refine BS_f (by assumption) ?_ | refine (nthK_iff _ _).2 ⟨_, (by assumption), ?_⟩ | refine ⟨_, ⟨(by omega), (by assumption)⟩, ?_⟩ | refine And.intro (by first | decide | omega) ?_ | fail); conv => whnf) | refine Sem.seqS ?_ | refine Sem.block ?_ | fail)
      exact ⟨_, fun _ _ h => h, rfl, rfl⟩
  · have c0 : ((((a.map tagA).length : Nat) : Int) != (((b.map tagA).length : Nat) : Int)) = true := by rw [la, lb]; simp; omega
    have c1 : decide (a = b) = false := by rw [decide_eq_false_iff_not]; rintro rfl; exact hl rfl
    rw [c1]
    refine call_sem tt_ok Tryd.func29 rfl (by kernel_rfl) Tryd.ntmps29 Tryd.results29 ?_; conv => whnf
    repeat' (first | ((first | refine Sem.reg tt_ok ?_ | refine Sem.condS ?_ | refine Sem.regL tt_ok ?_ | refine Sem.skip tt_ok ?_ | refine Sem.exit tt_ok ?_ | refine Sem.ret tt_ok ?_ | refine BS_t (by assumption) ?_ | refine BS_f (by assumption) ?_ | refine (nthK_iff _ _).2 ⟨_, (by assumption), ?_⟩ | refine ⟨_, ⟨(by omega), (by assumption)⟩, ?_⟩ | refine And.intro (by first | decide | omega) ?_ | fail); conv => whnf) | refine Sem.seqS ?_ | refine Sem.block ?_ | fail)
    exact ⟨_, fun _ _ h => h, rfl, rfl⟩
theorem eqf_ok (n : FuncId) (l l' : List VT) (hl0 : l.length ≤ 1000000) (G : Glob) (ih : ∀ x ∈ l, ∀ y, CallOk Tryd.prog TT n [.agg x.av, .agg y.av] G (fun v G' => v = .bool (sameV x y) ∧ G' = G)) :
    CallOk Tryd.prog TT 28 [.slc 25 (VT.avs l), .slc 25 (VT.avs l'), .fn (.func n) [] []] G (fun v G' => v = .bool (samesV l l') ∧ G' = G) := by
  have la := vavs_len l
  have lb := vavs_len l'
  by_cases hl : l.length = l'.length
  · have c0 : ((((VT.avs l).length : Nat) : Int) != (((VT.avs l').length : Nat) : Int)) = false := by rw [la, lb, hl]; simp
    refine call_sem tt_ok Tryd.func28 rfl (by kernel_rfl) Tryd.ntmps28 Tryd.results28 ?_; conv => whnf
    repeat' (first | ((first | refine Sem.reg tt_ok ?_ | refine Sem.condS ?_ | refine Sem.regL tt_ok ?_ | refine Sem.skip tt_ok ?_ | refine Sem.exit tt_ok ?_ | refine Sem.ret tt_ok ?_ | refine BS_t (by assumption) ?_ | refine BS_f (by assumption) ?_ | refine (nthK_iff _ _).2 ⟨_, (by assumption), ?_⟩ | refine ⟨_, ⟨(by omega), (by assumption)⟩, ?_⟩ | refine And.intro (by first | decide | omega) ?_ | fail); conv => whnf) | refine Sem.seqS ?_ | refine Sem.block ?_ | fail)
    refine Sem.loop (ι := SI l l') (fun x => ⟨(.top :: .slc 25 (VT.avs l') :: .fn (.func n) [] [] :: .top :: .top :: .top :: .bool false :: .top :: .top :: .top :: .top :: .top :: .top :: .top :: .top :: .slc 25 (VT.avs l) :: .int .i64 ((VT.avs l).length : Nat) :: .int .i64 (x.k : Nat) :: .top :: .top :: .top :: .top :: .top :: .top :: .top :: .top :: .top :: .top :: .top :: .top :: .top :: .top :: []), [], 0, 0, G⟩) (fun x => l.length - x.k) ⟨0, Nat.zero_le _, fun i x y hi => absurd hi (Nat.not_lt_zero i)⟩ ?_ (fun x => ?_)
    · refine weak_by [] ?_; (conv => whnf); repeat (first | (refine And.intro rfl ?_; conv => whnf) | fail)
      exact ⟨fun i y hy => hy, rfl, by decide, rfl, rfl⟩
    obtain ⟨k, hk, he⟩ := x
    simp only
    have h0 : (0 : Int) ≤ ((k : Nat) : Int) := by omega
    by_cases hlt : k < l.length
    · obtain ⟨⟨k1, n1, s1, t1, l1⟩, hx⟩ : ∃ x, l[k]? = some x := ⟨_, List.getElem?_eq_getElem hlt⟩
      obtain ⟨⟨k2, n2, s2, t2, l2⟩, hy⟩ : ∃ y, l'[k]? = some y := ⟨_, List.getElem?_eq_getElem (by omega)⟩
      have tl : decide (((k : Nat) : Int) < ((VT.avs l).length : Nat)) = true := by rw [la, decide_eq_true_eq]; omega
      have hm := vavs_at hx
      have hm2 := vavs_at hy
      have hi : IntKind.i64.wrap ((k : Int) + 1) = ((k + 1 : Nat) : Int) := by rw [IntWalk.i64_in _ (by omega)]; omega
      have hc := ih _ (List.mem_of_getElem? hx) (.mk k2 n2 s2 t2 l2)
      rw [VT.av, VT.av] at hc
      cases hxy : sameV (.mk k1 n1 s1 t1 l1) (.mk k2 n2 s2 t2 l2) with
      | true =>
        rw [hxy] at hc
        repeat' (first | ((first | refine Sem.reg tt_ok ?_ | refine Sem.condS ?_ | refine Sem.regL tt_ok ?_ | refine Sem.skip tt_ok ?_ | refine Sem.exit tt_ok ?_ | refine Sem.ret tt_ok ?_ | refine BS_t (by assumption) ?_ | refine BS_f (by assumption) ?_ | refine (nthK_iff _ _).2 ⟨_, (by assumption), ?_⟩ | refine ⟨_, ⟨(by omega), (by assumption)⟩, ?_⟩ | refine And.intro (by first | decide | omega) ?_ | fail); conv => whnf) | refine Sem.seqS ?_ | refine Sem.block ?_ | fail)
        refine hc.on ?_; conv => whnf
        repeat' (first | ((first | refine Sem.reg tt_ok ?_ | refine Sem.condS ?_ | refine Sem.regL tt_ok ?_ | refine Sem.skip tt_ok ?_ | refine Sem.exit tt_ok ?_ | refine Sem.ret tt_ok ?_ | refine BS_t (by assumption) ?_ | refine BS_f (by assumption) ?_ | refine (nthK_iff _ _).2 ⟨_, (by assumption), ?_⟩ | refine ⟨_, ⟨(by omega), (by assumption)⟩, ?_⟩ | refine And.intro (by first | decide | omega) ?_ | fail); conv => whnf) | refine Sem.seqS ?_ | refine Sem.block ?_ | fail)
        refine ⟨⟨k + 1, by omega, fun i x y hi hx' hy' => by
          by_cases h : i = k
          · subst h
            rw [hx] at hx'; rw [hy] at hy'; cases hx'; cases hy'; exact hxy
          · exact he i x y (by omega) hx' hy'⟩, by show l.length - (k + 1) < l.length - k; omega, ?_⟩
        refine weak_by [] ?_; (conv => whnf); repeat (first | (refine And.intro rfl ?_; conv => whnf) | fail)
        refine And.intro hi ?_
        (conv => whnf); repeat (first | (refine And.intro rfl ?_; conv => whnf) | fail)
        exact ⟨fun i y hy => hy, rfl, by decide, rfl, rfl⟩
      | false =>
        rw [hxy] at hc
        rw [sames_false l l' k _ _ hx hy hxy]
        repeat' (first | ((first | refine Sem.reg tt_ok ?_ | refine Sem.condS ?_ | refine Sem.regL tt_ok ?_ | refine Sem.skip tt_ok ?_ | refine Sem.exit tt_ok ?_ | refine Sem.ret tt_ok ?_ | refine BS_t (by assumption) ?_ | refine BS_f (by assumption) ?_ | refine (nthK_iff _ _).2 ⟨_, (by assumption), ?_⟩ | refine ⟨_, ⟨(by omega), (by assumption)⟩, ?_⟩ | refine And.intro (by first | decide | omega) ?_ | fail); conv => whnf) | refine Sem.seqS ?_ | refine Sem.block ?_ | fail)
        refine hc.on ?_; conv => whnf
        repeat' (first | ((first | refine Sem.reg tt_ok ?_ | refine Sem.condS ?_ | refine Sem.regL tt_ok ?_ | refine Sem.skip tt_ok ?_ | refine Sem.exit tt_ok ?_ | refine Sem.ret tt_ok ?_ | refine BS_t (by assumption) ?_ | refine BS_f (by assumption) ?_ | refine (nthK_iff _ _).2 ⟨_, (by assumption), ?_⟩ | refine ⟨_, ⟨(by omega), (by assumption)⟩, ?_⟩ | refine And.intro (by first | decide | omega) ?_ | fail); conv => whnf) | refine Sem.seqS ?_ | refine Sem.block ?_ | fail)
        exact ⟨_, fun _ _ h => h, rfl, rfl⟩
    · have hk' : k = l.length := by omega
      subst hk'
      have tl : decide (((l.length : Nat) : Int) < ((VT.avs l).length : Nat)) = false := by rw [la, decide_eq_false_iff_not]; omega
      rw [sames_true l l' hl fun i x y hx hy => he i x y (List.getElem?_eq_some_iff.1 hx).1 hx hy]
      repeat' (first | ((first | refine Sem.reg tt_ok ?_ | refine Sem.condS ?_ | refine Sem.regL tt_ok ?_ | refine Sem.skip tt_ok ?_ | refine Sem.exit tt_ok ?_ | refine Sem.ret tt_ok ?_ | refine BS_t (by assumption) ?_ | refine BS_f (by assumption) ?_ | refine (nthK_iff _ _).2 ⟨_, (by assumption), ?_⟩ | refine ⟨_, ⟨(by omega), (by assumption)⟩, ?_⟩ | refine And.intro (by first | decide | omega) ?_ | fail); conv => whnf) | refine Sem.seqS ?_ | refine Sem.block ?_ | fail)
      exact ⟨_, fun _ _ h => h, rfl, rfl⟩
  · have c0 : ((((VT.avs l).length : Nat) : Int) != (((VT.avs l').length : Nat) : Int)) = true := by rw [la, lb]; simp; omega
    rw [sames_len l l' hl]
    refine call_sem tt_ok Tryd.func28 rfl (by kernel_rfl) Tryd.ntmps28 Tryd.results28 ?_; conv => whnf
    repeat' (first | ((first | refine Sem.reg tt_ok ?_ | refine Sem.condS ?_ | refine Sem.regL tt_ok ?_ | refine Sem.skip tt_ok ?_ | refine Sem.exit tt_ok ?_ | refine Sem.ret tt_ok ?_ | refine BS_t (by assumption) ?_ | refine BS_f (by assumption) ?_ | refine (nthK_iff _ _).2 ⟨_, (by assumption), ?_⟩ | refine ⟨_, ⟨(by omega), (by assumption)⟩, ?_⟩ | refine And.intro (by first | decide | omega) ?_ | fail); conv => whnf) | refine Sem.seqS ?_ | refine Sem.block ?_ | fail)
    exact ⟨_, fun _ _ h => h, rfl, rfl⟩
def VSameOk (a : VT) : Prop := ∀ (b : VT) (G : Glob), a.Tg → sizeV a ≤ 1000000 → CallOk Tryd.prog TT 9 [.agg a.av, .agg b.av] G (fun v G' => v = .bool (sameV a b) ∧ G' = G)
theorem vsame_ok : ∀ a, VSameOk a := VT.ind fun k n s t l ih b G ht hl => by
  obtain ⟨k', n', s', t', l'⟩ := b
  cases ht with
  | mk _ _ _ _ _ ht htl =>
  rw [sizeV_mk] at hl
  have hn := sizes_len l
  have hq := eqints_ok t t' (by omega) G
  have hf := eqf_ok 9 l l' (by omega) G fun x hx y => ih x hx y G (htl x hx) (by
    obtain ⟨i, hi⟩ := List.getElem?_of_mem hx
    have := sizes_take l i x hi
    have := sizes_le l (i + 1)
    omega)
  rw [VT.av, VT.av, sameV_mk]
  by_cases h1 : k = k'
  case neg =>
    have c1 : (k == k') = false := by simpa using h1
    rw [decide_eq_false h1, Bool.false_and]
    clear hq hf ih
    refine call_sem tt_ok Tryd.func9 rfl (by kernel_rfl) Tryd.ntmps9 Tryd.results9 ?_; conv => whnf
    repeat' (first | ((first | refine Sem.reg tt_ok ?_ | refine Sem.condS ?_ | refine Sem.regL tt_ok ?_ | refine Sem.skip tt_ok ?_ | refine Sem.exit tt_ok ?_ | refine Sem.ret tt_ok ?_ | refine BS_t (by assumption) ?_ | refine BS_f (by assumption) ?_ | refine (nthK_iff _ _).2 ⟨_, (by assumption), ?_⟩ | refine ⟨_, ⟨(by omega), (by assumption)⟩, ?_⟩ | refine And.intro (by first | decide | omega) ?_ | fail); conv => whnf) | refine Sem.seqS ?_ | refine Sem.block ?_ | fail)
    exact ⟨_, fun _ _ h => h, rfl, rfl⟩
  have c1 : (k == k') = true := by simpa using h1
  rw [decide_eq_true h1, Bool.true_and]
  by_cases h2 : n = n'
  case neg =>
    have c2 : (n == n') = false := by simpa using h2
    rw [decide_eq_false h2, Bool.false_and]
    clear hq hf ih
    refine call_sem tt_ok Tryd.func9 rfl (by kernel_rfl) Tryd.ntmps9 Tryd.results9 ?_; conv => whnf
    repeat' (first | ((first | refine Sem.reg tt_ok ?_ | refine Sem.condS ?_ | refine Sem.regL tt_ok ?_ | refine Sem.skip tt_ok ?_ | refine Sem.exit tt_ok ?_ | refine Sem.ret tt_ok ?_ | refine BS_t (by assumption) ?_ | refine BS_f (by assumption) ?_ | refine (nthK_iff _ _).2 ⟨_, (by assumption), ?_⟩ | refine ⟨_, ⟨(by omega), (by assumption)⟩, ?_⟩ | refine And.intro (by first | decide | omega) ?_ | fail); conv => whnf) | refine Sem.seqS ?_ | refine Sem.block ?_ | fail)
    exact ⟨_, fun _ _ h => h, rfl, rfl⟩
  have c2 : (n == n') = true := by simpa using h2
  rw [decide_eq_true h2, Bool.true_and]
  by_cases h3 : s = s'
  case neg =>
    have c3 : ((S s).toList == (S s').toList) = false := by rw [S_tl, S_tl]; simpa using h3
    rw [decide_eq_false h3, Bool.false_and]
    clear hq hf ih
    refine call_sem tt_ok Tryd.func9 rfl (by kernel_rfl) Tryd.ntmps9 Tryd.results9 ?_; conv => whnf
    repeat' (first | ((first | refine Sem.reg tt_ok ?_ | refine Sem.condS ?_ | refine Sem.regL tt_ok ?_ | refine Sem.skip tt_ok ?_ | refine Sem.exit tt_ok ?_ | refine Sem.ret tt_ok ?_ | refine BS_t (by assumption) ?_ | refine BS_f (by assumption) ?_ | refine (nthK_iff _ _).2 ⟨_, (by assumption), ?_⟩ | refine ⟨_, ⟨(by omega), (by assumption)⟩, ?_⟩ | refine And.intro (by first | decide | omega) ?_ | fail); conv => whnf) | refine Sem.seqS ?_ | refine Sem.block ?_ | fail)
    exact ⟨_, fun _ _ h => h, rfl, rfl⟩
  have c3 : ((S s).toList == (S s').toList) = true := by rw [S_tl, S_tl]; simpa using h3
  rw [decide_eq_true h3, Bool.true_and]
  cases h4 : decide (t = t') with
  | false =>
    rw [h4] at hq
    rw [Bool.false_and]
    clear hf ih
    refine call_sem tt_ok Tryd.func9 rfl (by kernel_rfl) Tryd.ntmps9 Tryd.results9 ?_; conv => whnf
    repeat' (first | ((first | refine Sem.reg tt_ok ?_ | refine Sem.condS ?_ | refine Sem.regL tt_ok ?_ | refine Sem.skip tt_ok ?_ | refine Sem.exit tt_ok ?_ | refine Sem.ret tt_ok ?_ | refine BS_t (by assumption) ?_ | refine BS_f (by assumption) ?_ | refine (nthK_iff _ _).2 ⟨_, (by assumption), ?_⟩ | refine ⟨_, ⟨(by omega), (by assumption)⟩, ?_⟩ | refine And.intro (by first | decide | omega) ?_ | fail); conv => whnf) | refine Sem.seqS ?_ | refine Sem.block ?_ | fail)
    refine hq.on ?_; conv => whnf
    repeat' (first | ((first | refine Sem.reg tt_ok ?_ | refine Sem.condS ?_ | refine Sem.regL tt_ok ?_ | refine Sem.skip tt_ok ?_ | refine Sem.exit tt_ok ?_ | refine Sem.ret tt_ok ?_ | refine BS_t (by assumption) ?_ | refine BS_f (by assumption) ?_ | refine (nthK_iff _ _).2 ⟨_, (by assumption), ?_⟩ | refine ⟨_, ⟨(by omega), (by assumption)⟩, ?_⟩ | refine And.intro (by first | decide | omega) ?_ | fail); conv => whnf) | refine Sem.seqS ?_ | refine Sem.block ?_ | fail)
    exact ⟨_, fun _ _ h => h, rfl, rfl⟩
  | true =>
    rw [h4] at hq
    rw [Bool.true_and]
    clear ih
    refine call_sem tt_ok Tryd.func9 rfl (by kernel_rfl) Tryd.ntmps9 Tryd.results9 ?_; conv => whnf
    repeat' (first | ((first | refine Sem.reg tt_ok ?_ | refine Sem.condS ?_ | refine Sem.regL tt_ok ?_ | refine Sem.skip tt_ok ?_ | refine Sem.exit tt_ok ?_ | refine Sem.ret tt_ok ?_ | refine BS_t (by assumption) ?_ | refine BS_f (by assumption) ?_ | refine (nthK_iff _ _).2 ⟨_, (by assumption), ?_⟩ | refine ⟨_, ⟨(by omega), (by assumption)⟩, ?_⟩ | refine And.intro (by first | decide | omega) ?_ | fail); conv => whnf) | refine Sem.seqS ?_ | refine Sem.block ?_ | fail)
    refine hq.on ?_; conv => whnf
    repeat' (first | ((first | refine Sem.reg tt_ok ?_ | refine Sem.condS ?_ | refine Sem.regL tt_ok ?_ | refine Sem.skip tt_ok ?_ | refine Sem.exit tt_ok ?_ | refine Sem.ret tt_ok ?_ | refine BS_t (by assumption) ?_ | refine BS_f (by assumption) ?_ | refine (nthK_iff _ _).2 ⟨_, (by assumption), ?_⟩ | refine ⟨_, ⟨(by omega), (by assumption)⟩, ?_⟩ | refine And.intro (by first | decide | omega) ?_ | fail); conv => whnf) | refine Sem.seqS ?_ | refine Sem.block ?_ | fail)
    refine hf.on ?_; conv => whnf
    repeat' (first | ((first | refine Sem.reg tt_ok ?_ | refine Sem.condS ?_ | refine Sem.regL tt_ok ?_ | refine Sem.skip tt_ok ?_ | refine Sem.exit tt_ok ?_ | refine Sem.ret tt_ok ?_ | refine BS_t (by assumption) ?_ | refine BS_f (by assumption) ?_ | refine (nthK_iff _ _).2 ⟨_, (by assumption), ?_⟩ | refine ⟨_, ⟨(by omega), (by assumption)⟩, ?_⟩ | refine And.intro (by first | decide | omega) ?_ | fail); conv => whnf) | refine Sem.seqS ?_ | refine Sem.block ?_ | fail)
    exact ⟨_, fun _ _ h => h, rfl, rfl⟩
def RSameOk (a : VT) : Prop := ∀ (b : VT) (G : Glob), a.Tg → sizeV a ≤ 1000000 → CallOk Tryd.prog TT 10 [.agg a.av, .agg b.av] G (fun v G' => v = .bool (sameV a b) ∧ G' = G)
theorem rsame_ok : ∀ a, RSameOk a := VT.ind fun kd nm s t l ih b G ht hl => by
  obtain ⟨k', n', s', t', l'⟩ := b
  cases ht with
  | mk _ _ _ _ _ ht htl =>
  rw [sizeV_mk] at hl
  have hn := sizes_len l
  have hq := refints_ok t t' (by omega) G
  have la := vavs_len l
  have lb := vavs_len l'
  rw [VT.av, VT.av, sameV_mk]
  by_cases h1 : kd = k'
  case neg =>
    have c1 : (kd != k') = true := by simpa using h1
    rw [decide_eq_false h1, Bool.false_and]
    clear hq ih
    refine call_sem tt_ok Tryd.func10 rfl (by kernel_rfl) Tryd.ntmps10 Tryd.results10 ?_; conv => whnf
    repeat' (first | ((first | refine Sem.reg tt_ok ?_ | refine Sem.condS ?_ | refine Sem.regL tt_ok ?_ | refine Sem.skip tt_ok ?_ | refine Sem.exit tt_ok ?_ | refine Sem.ret tt_ok ?_ | refine BS_t (by assumption) ?_ | refine BS_f (by assumption) ?_ | refine (nthK_iff _ _).2 ⟨_, (by assumption), ?_⟩ | refine ⟨_, ⟨(by omega), (by assumption)⟩, ?_⟩ | refine And.intro (by first | decide | omega) ?_ | fail); conv => whnf) | refine Sem.seqS ?_ | refine Sem.block ?_ | fail)
    exact ⟨_, fun _ _ h => h, rfl, rfl⟩
  have c1 : (kd != k') = false := by simpa using h1
  rw [decide_eq_true h1, Bool.true_and]
  by_cases h2 : nm = n'
  case neg =>
    have c2 : (nm != n') = true := by simpa using h2
    rw [decide_eq_false h2, Bool.false_and]
    clear hq ih
    refine call_sem tt_ok Tryd.func10 rfl (by kernel_rfl) Tryd.ntmps10 Tryd.results10 ?_; conv => whnf
    repeat' (first | ((first | refine Sem.reg tt_ok ?_ | refine Sem.condS ?_ | refine Sem.regL tt_ok ?_ | refine Sem.skip tt_ok ?_ | refine Sem.exit tt_ok ?_ | refine Sem.ret tt_ok ?_ | refine BS_t (by assumption) ?_ | refine BS_f (by assumption) ?_ | refine (nthK_iff _ _).2 ⟨_, (by assumption), ?_⟩ | refine ⟨_, ⟨(by omega), (by assumption)⟩, ?_⟩ | refine And.intro (by first | decide | omega) ?_ | fail); conv => whnf) | refine Sem.seqS ?_ | refine Sem.block ?_ | fail)
    exact ⟨_, fun _ _ h => h, rfl, rfl⟩
  have c2 : (nm != n') = false := by simpa using h2
  rw [decide_eq_true h2, Bool.true_and]
  by_cases h3 : s = s'
  case neg =>
    have c3 : (!((S s).toList == (S s').toList)) = true := by rw [S_tl, S_tl]; simpa using h3
    rw [decide_eq_false h3, Bool.false_and]
    clear hq ih
    refine call_sem tt_ok Tryd.func10 rfl (by kernel_rfl) Tryd.ntmps10 Tryd.results10 ?_; conv => whnf
    repeat' (first | ((first | refine Sem.reg tt_ok ?_ | refine Sem.condS ?_ | refine Sem.regL tt_ok ?_ | refine Sem.skip tt_ok ?_ | refine Sem.exit tt_ok ?_ | refine Sem.ret tt_ok ?_ | refine BS_t (by assumption) ?_ | refine BS_f (by assumption) ?_ | refine (nthK_iff _ _).2 ⟨_, (by assumption), ?_⟩ | refine ⟨_, ⟨(by omega), (by assumption)⟩, ?_⟩ | refine And.intro (by first | decide | omega) ?_ | fail); conv => whnf) | refine Sem.seqS ?_ | refine Sem.block ?_ | fail)
    exact ⟨_, fun _ _ h => h, rfl, rfl⟩
  have c3 : (!((S s).toList == (S s').toList)) = false := by rw [S_tl, S_tl]; simpa using h3
  rw [decide_eq_true h3, Bool.true_and]
  cases h4 : decide (t = t') with
  | false =>
    rw [h4] at hq
    rw [Bool.false_and]
    clear ih
    refine call_sem tt_ok Tryd.func10 rfl (by kernel_rfl) Tryd.ntmps10 Tryd.results10 ?_; conv => whnf
    repeat' (first | ((first | refine Sem.reg tt_ok ?_ | refine Sem.condS ?_ | refine Sem.regL tt_ok ?_ | refine Sem.skip tt_ok ?_ | refine Sem.exit tt_ok ?_ | refine Sem.ret tt_ok ?_ | refine BS_t (by assumption) ?_ | refine BS_f (by assumption) ?_ | refine (nthK_iff _ _).2 ⟨_, (by assumption), ?_⟩ | refine ⟨_, ⟨(by omega), (by assumption)⟩, ?_⟩ | refine And.intro (by first | decide | omega) ?_ | fail); conv => whnf) | refine Sem.seqS ?_ | refine Sem.block ?_ | fail)
    refine hq.on ?_; conv => whnf
    repeat' (first | ((first | refine Sem.reg tt_ok ?_ | refine Sem.condS ?_ | refine Sem.regL tt_ok ?_ | refine Sem.skip tt_ok ?_ | refine Sem.exit tt_ok ?_ | refine Sem.ret tt_ok ?_ | refine BS_t (by assumption) ?_ | refine BS_f (by assumption) ?_ | refine (nthK_iff _ _).2 ⟨_, (by assumption), ?_⟩ | refine ⟨_, ⟨(by omega), (by assumption)⟩, ?_⟩ | refine And.intro (by first | decide | omega) ?_ | fail); conv => whnf) | refine Sem.seqS ?_ | refine Sem.block ?_ | fail)
    exact ⟨_, fun _ _ h => h, rfl, rfl⟩
  | true =>
    rw [h4] at hq
    rw [Bool.true_and]
    by_cases hll : l.length = l'.length
    case neg =>
      have c0 : ((((VT.avs l).length : Nat) : Int) != (((VT.avs l').length : Nat) : Int)) = true := by rw [la, lb]; simp; omega
      rw [sames_len l l' hll]
      clear ih
      refine call_sem tt_ok Tryd.func10 rfl (by kernel_rfl) Tryd.ntmps10 Tryd.results10 ?_; conv => whnf
      repeat' (first | ((first | refine Sem.reg tt_ok ?_ | refine Sem.condS ?_ | refine Sem.regL tt_ok ?_ | refine Sem.skip tt_ok ?_ | refine Sem.exit tt_ok ?_ | refine Sem.ret tt_ok ?_ | refine BS_t (by assumption) ?_ | refine BS_f (by assumption) ?_ | refine (nthK_iff _ _).2 ⟨_, (by assumption), ?_⟩ | refine ⟨_, ⟨(by omega), (by assumption)⟩, ?_⟩ | refine And.intro (by first | decide | omega) ?_ | fail); conv => whnf) | refine Sem.seqS ?_ | refine Sem.block ?_ | fail)
      refine hq.on ?_; conv => whnf
      repeat' (first | ((first | refine Sem.reg tt_ok ?_ | refine Sem.condS ?_ | refine Sem.regL tt_ok ?_ | refine Sem.skip tt_ok ?_ | refine Sem.exit tt_ok ?_ | refine Sem.ret tt_ok ?_ | refine BS_t (by assumption) ?_ | refine BS_f (by assumption) ?_ | refine (nthK_iff _ _).2 ⟨_, (by assumption), ?_⟩ | refine ⟨_, ⟨(by omega), (by assumption)⟩, ?_⟩ | refine And.intro (by first | decide | omega) ?_ | fail); conv => whnf) | refine Sem.seqS ?_ | refine Sem.block ?_ | fail)
      exact ⟨_, fun _ _ h => h, rfl, rfl⟩
    have c0 : ((((VT.avs l).length : Nat) : Int) != (((VT.avs l').length : Nat) : Int)) = false := by rw [la, lb, hll]; simp
    refine call_sem tt_ok Tryd.func10 rfl (by kernel_rfl) Tryd.ntmps10 Tryd.results10 ?_; conv => whnf
    repeat' (first | ((first | refine Sem.reg tt_ok ?_ | refine Sem.condS ?_ | refine Sem.regL tt_ok ?_ | refine Sem.skip tt_ok ?_ | refine Sem.exit tt_ok ?_ | refine Sem.ret tt_ok ?_ | refine BS_t (by assumption) ?_ | refine BS_f (by assumption) ?_ | refine (nthK_iff _ _).2 ⟨_, (by assumption), ?_⟩ | refine ⟨_, ⟨(by omega), (by assumption)⟩, ?_⟩ | refine And.intro (by first | decide | omega) ?_ | fail); conv => whnf) | refine Sem.seqS ?_ | refine Sem.block ?_ | fail)
    refine hq.on ?_; conv => whnf
    repeat' (first | ((first | refine Sem.reg tt_ok ?_ | refine Sem.condS ?_ | refine Sem.regL tt_ok ?_ | refine Sem.skip tt_ok ?_ | refine Sem.exit tt_ok ?_ | refine Sem.ret tt_ok ?_ | refine BS_t (by assumption) ?_ | refine BS_f (by assumption) ?_ | refine (nthK_iff _ _).2 ⟨_, (by assumption), ?_⟩ | refine ⟨_, ⟨(by omega), (by assumption)⟩, ?_⟩ | refine And.intro (by first | decide | omega) ?_ | fail); conv => whnf) | refine Sem.seqS ?_ | refine Sem.block ?_ | fail)
    clear hq c1 c2 c3 h1 h2 h3 h4 c0
    refine Sem.loop (ι := SI l l') (fun x => ⟨(.top :: .top :: .lptr 0 0 :: .lptr 1 0 :: .top :: .int .i64 (x.k : Nat) :: .top :: .top :: .top :: .top :: .top :: .top :: .top :: .top :: .top :: .top :: .top :: .top :: .top :: .top :: .top :: .top :: .top :: .top :: .top :: .top :: .top :: .top :: .top :: .top :: .top :: .top :: .top :: .top :: .top :: .top :: .top :: .top :: .top :: .top :: .top :: .top :: .top :: .top :: .top :: .top :: .top :: .top :: .top :: .top :: .top :: .top :: .top :: .top :: .top :: .top :: .top :: .top :: .top :: .top :: .top :: []), [.live none [.int .i64 kd, .int .i64 nm, .str (S s), .slc 3 (t.map tagA), .slc 25 (VT.avs l)], .live none [.int .i64 k', .int .i64 n', .str (S s'), .slc 3 (t'.map tagA), .slc 25 (VT.avs l')]], 2, 0, G⟩) (fun x => l.length - x.k) ⟨0, Nat.zero_le _, fun i x y hi => absurd hi (Nat.not_lt_zero i)⟩ ?_ (fun x => ?_)
    · refine weak_by [] ?_; (conv => whnf); repeat (first | (refine And.intro rfl ?_; conv => whnf) | fail)
      exact ⟨fun i y hy => hy, rfl, by decide, rfl, rfl⟩
    obtain ⟨k, hk, he⟩ := x
    simp only
    have h0 : (0 : Int) ≤ ((k : Nat) : Int) := by omega
    by_cases hlt : k < l.length
    · obtain ⟨⟨k1, n1, s1, t1, l1⟩, hx⟩ : ∃ x, l[k]? = some x := ⟨_, List.getElem?_eq_getElem hlt⟩
      obtain ⟨⟨k2, n2, s2, t2, l2⟩, hy⟩ : ∃ y, l'[k]? = some y := ⟨_, List.getElem?_eq_getElem (by omega)⟩
      have tl : decide (((k : Nat) : Int) < ((VT.avs l).length : Nat)) = true := by rw [la, decide_eq_true_eq]; omega
      have hm := vavs_at hx
      have hm2 := vavs_at hy
      have hi : IntKind.i64.wrap ((k : Int) + 1) = ((k + 1 : Nat) : Int) := by rw [IntWalk.i64_in _ (by omega)]; omega
      have hmem := List.mem_of_getElem? hx
      have hst := sizes_take l k _ hx
      have hsl := sizes_le l (k + 1)
      have hc := ih _ hmem (.mk k2 n2 s2 t2 l2) G (htl _ hmem) (by omega)
      rw [VT.av, VT.av] at hc
      clear ih
      cases hxy : sameV (.mk k1 n1 s1 t1 l1) (.mk k2 n2 s2 t2 l2) with
      | true =>
        rw [hxy] at hc
        repeat' (first | ((first | refine Sem.reg tt_ok ?_ | refine Sem.condS ?_ | refine Sem.regL tt_ok ?_ | refine Sem.skip tt_ok ?_ | refine Sem.exit tt_ok ?_ | refine Sem.ret tt_ok ?_ | refine BS_t (by assumption) ?_ | refine BS_f (by assumption) ?_ | refine (nthK_iff _ _).2 ⟨_, (by assumption), ?_⟩ | refine ⟨_, ⟨(by omega), (by assumption)⟩, ?_⟩ | refine And.intro (by first | decide | omega) ?_ | fail); conv => whnf) | refine Sem.seqS ?_ | refine Sem.block ?_ | fail)
        refine draw_sound (eff := []) tt_ok (by kernel_rfl) (by kernel_rfl) ?_; conv => whnf
        repeat' (first | ((first | refine BS_t (by assumption) ?_ | refine BS_f (by assumption) ?_ | refine (nthK_iff _ _).2 ⟨_, (by assumption), ?_⟩ | refine ⟨_, ⟨(by omega), (by assumption)⟩, ?_⟩ | refine And.intro (by first | decide | omega) ?_ | fail); conv => whnf) | fail)
        refine ⟨_, _, hc, ?_⟩; (conv => whnf); refine And.intro rfl ?_; conv => whnf
        repeat' (first | ((first | refine BS_t (by assumption) ?_ | refine BS_f (by assumption) ?_ | refine (nthK_iff _ _).2 ⟨_, (by assumption), ?_⟩ | refine ⟨_, ⟨(by omega), (by assumption)⟩, ?_⟩ | refine And.intro (by first | decide | omega) ?_ | fail); conv => whnf) | fail)
        repeat' (first | ((first | refine Sem.reg tt_ok ?_ | refine Sem.condS ?_ | refine Sem.regL tt_ok ?_ | refine Sem.skip tt_ok ?_ | refine Sem.exit tt_ok ?_ | refine Sem.ret tt_ok ?_ | refine BS_t (by assumption) ?_ | refine BS_f (by assumption) ?_ | refine (nthK_iff _ _).2 ⟨_, (by assumption), ?_⟩ | refine ⟨_, ⟨(by omega), (by assumption)⟩, ?_⟩ | refine And.intro (by first | decide | omega) ?_ | fail); conv => whnf) | refine Sem.seqS ?_ | refine Sem.block ?_ | fail)
        refine ⟨⟨k + 1, by omega, fun i x y hi hx' hy' => by
          by_cases h : i = k
          · subst h
            rw [hx] at hx'; rw [hy] at hy'; cases hx'; cases hy'; exact hxy
          · exact he i x y (by omega) hx' hy'⟩, by show l.length - (k + 1) < l.length - k; omega, ?_⟩
        refine weak_by [] ?_; (conv => whnf); repeat (first | (refine And.intro rfl ?_; conv => whnf) | fail)
        refine And.intro hi ?_
        (conv => whnf); repeat (first | (refine And.intro rfl ?_; conv => whnf) | fail)
        exact ⟨fun i y hy => hy, rfl, by decide, rfl, rfl⟩
      | false =>
        rw [hxy] at hc
        rw [sames_false l l' k _ _ hx hy hxy]
        repeat' (first | ((first | refine Sem.reg tt_ok ?_ | refine Sem.condS ?_ | refine Sem.regL tt_ok ?_ | refine Sem.skip tt_ok ?_ | refine Sem.exit tt_ok ?_ | refine Sem.ret tt_ok ?_ | refine BS_t (by assumption) ?_ | refine BS_f (by assumption) ?_ | refine (nthK_iff _ _).2 ⟨_, (by assumption), ?_⟩ | refine ⟨_, ⟨(by omega), (by assumption)⟩, ?_⟩ | refine And.intro (by first | decide | omega) ?_ | fail); conv => whnf) | refine Sem.seqS ?_ | refine Sem.block ?_ | fail)
        refine draw_sound (eff := []) tt_ok (by kernel_rfl) (by kernel_rfl) ?_; conv => whnf
        repeat' (first | ((first | refine BS_t (by assumption) ?_ | refine BS_f (by assumption) ?_ | refine (nthK_iff _ _).2 ⟨_, (by assumption), ?_⟩ | refine ⟨_, ⟨(by omega), (by assumption)⟩, ?_⟩ | refine And.intro (by first | decide | omega) ?_ | fail); conv => whnf) | fail)
        refine ⟨_, _, hc, ?_⟩; (conv => whnf); refine And.intro rfl ?_; conv => whnf
        repeat' (first | ((first | refine BS_t (by assumption) ?_ | refine BS_f (by assumption) ?_ | refine (nthK_iff _ _).2 ⟨_, (by assumption), ?_⟩ | refine ⟨_, ⟨(by omega), (by assumption)⟩, ?_⟩ | refine And.intro (by first | decide | omega) ?_ | fail); conv => whnf) | fail)
        repeat' (first | ((first | refine Sem.reg tt_ok ?_ | refine Sem.condS ?_ | refine Sem.regL tt_ok ?_ | refine Sem.skip tt_ok ?_ | refine Sem.exit tt_ok ?_ | refine Sem.ret tt_ok ?_ | refine BS_t (by assumption) ?_ | refine BS_f (by assumption) ?_ | refine (nthK_iff _ _).2 ⟨_, (by assumption), ?_⟩ | refine ⟨_, ⟨(by omega), (by assumption)⟩, ?_⟩ | refine And.intro (by first | decide | omega) ?_ | fail); conv => whnf) | refine Sem.seqS ?_ | refine Sem.block ?_ | fail)
        exact ⟨_, fun _ _ h => h, rfl, rfl⟩
    · have hk' : k = l.length := by omega
      subst hk'
      have tl : decide (((l.length : Nat) : Int) < ((VT.avs l).length : Nat)) = false := by rw [la, decide_eq_false_iff_not]; omega
      rw [sames_true l l' hll fun i x y hx hy => he i x y (List.getElem?_eq_some_iff.1 hx).1 hx hy]
      repeat' (first | ((first | refine Sem.reg tt_ok ?_ | refine Sem.condS ?_ | refine Sem.regL tt_ok ?_ | refine Sem.skip tt_ok ?_ | refine Sem.exit tt_ok ?_ | refine Sem.ret tt_ok ?_ | refine BS_t (by assumption) ?_ | refine BS_f (by assumption) ?_ | refine (nthK_iff _ _).2 ⟨_, (by assumption), ?_⟩ | refine ⟨_, ⟨(by omega), (by assumption)⟩, ?_⟩ | refine And.intro (by first | decide | omega) ?_ | fail); conv => whnf) | refine Sem.seqS ?_ | refine Sem.block ?_ | fail)
      exact ⟨_, fun _ _ h => h, rfl, rfl⟩
end Go.Proofs.YtgedlbfdhekdgaaDoor
