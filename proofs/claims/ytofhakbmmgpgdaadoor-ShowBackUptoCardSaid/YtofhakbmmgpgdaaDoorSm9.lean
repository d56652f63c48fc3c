/- The document's Same of declarations, where they are the same. -/
import Derived.Test.YtofhakbmmgpgdaaDoorGj
set_option maxRecDepth 100000
set_option linter.unusedSimpArgs false
namespace Go.Proofs.YtofhakbmmgpgdaaDoor
open Go Go.RowKit Go.Proofs Go.Shelf

/-- a slice's elements; a slice that is not there has none -/
def IsOf (e : TypeId) (v : AV) (l : List (List AV)) : Prop := (v = .nils ∧ l = []) ∨ v = .slc e l
inductive SameTy : List AV → List AV → Prop
  | mk (k : Int) (s : List UInt8) (o1 o2 : AV) (l1 l2 : List (List AV)) (h1 : IsOf 81 o1 l1) (h2 : IsOf 81 o2 l2) (hl : l1.length = l2.length) (hn : l1.length ≤ 1048576) (h : ∀ (i : Nat) (a b : List AV), l1[i]? = some a → l2[i]? = some b → SameTy a b) :
    SameTy [.int .i64 k, .str (S s), o1] [.int .i64 k, .str (S s), o2]
theorem SameTy.cells {a b : List AV} (h : SameTy a b) : ∃ k s o1 o2, a = [.int .i64 k, .str (S s), o1] ∧ b = [.int .i64 k, .str (S s), o2] ∧ (o1 = .nils ∨ ∃ l, o1 = .slc 81 l) ∧ (o2 = .nils ∨ ∃ l, o2 = .slc 81 l) := by
  cases h with
  | mk k s o1 o2 l1 l2 h1 h2 _ _ _ =>
    refine ⟨k, s, o1, o2, rfl, rfl, ?_, ?_⟩
    · rcases h1 with ⟨h, _⟩ | h
      · exact .inl h
      · exact .inr ⟨_, h⟩
    · rcases h2 with ⟨h, _⟩ | h
      · exact .inl h
      · exact .inr ⟨_, h⟩
theorem sametype_ok {a b : List AV} (h : SameTy a b) : ∀ G : Glob, CallOk Tryd.prog TT 95 [.agg a, .agg b] G (fun v G' => v = .bool true ∧ G' = G) := by
  induction h with
  | mk k s o1 o2 l1 l2 h1 h2 hl hn hs ih =>
    intro G
    have e0 : (k != k) = false := by simp
    have e1 : (!((S s).toList == (S s).toList)) = false := by simp
    -- no element: both may be missing
    rcases h1 with ⟨h1, h1'⟩ | h1 <;> rcases h2 with ⟨h2, h2'⟩ | h2 <;> (try subst h1') <;> (try subst h2') <;> subst h1 <;> subst h2
    · refine call_sem tt_ok Tryd.func95 rfl (by kernel_rfl) Tryd.ntmps95 Tryd.results95 ?_; conv => whnf
      repeat' (first | ((first | refine Sem.reg tt_ok ?_ | refine Sem.condS ?_ | refine Sem.regL tt_ok ?_ | refine Sem.skip tt_ok ?_ | refine Sem.exit tt_ok ?_ | refine Sem.ret tt_ok ?_ | refine BS_t (by assumption) ?_ | refine BS_f (by assumption) ?_ | refine (nthK_iff _ _).2 ⟨_, (by assumption), ?_⟩ | refine ⟨_, ⟨(by omega), (by assumption)⟩, ?_⟩ | refine And.intro (by first | decide | omega) ?_ | fail); conv => whnf) | refine Sem.seqS ?_ | refine Sem.block ?_ | fail)
      refine Sem.loop (ι := Unit) (fun _ => ⟨(.top :: .top :: .lptr 0 0 :: .lptr 1 0 :: .top :: .int .i64 0 :: .top :: .top :: .top :: .top :: .top :: .top :: .top :: .top :: .top :: .top :: .top :: .top :: .top :: .top :: .top :: .top :: .top :: .top :: .top :: .top :: .top :: .top :: .top :: .top :: .top :: .top :: .top :: .top :: .top :: .top :: .top :: .top :: .top :: .top :: .top :: .top :: .top :: .top :: .top :: .top :: []), [.live none [.int .i64 k, .str (S s), .nils], .live none [.int .i64 k, .str (S s), .nils]], 2, 0, G⟩) (fun _ => 0) () ?_ (fun _ => ?_)
      · refine weak_by [] ?_; (conv => whnf); repeat (first | (refine And.intro rfl ?_; conv => whnf) | fail)
        exact ⟨fun i y hy => hy, rfl, by decide, rfl, rfl⟩
      repeat' (first | ((first | refine Sem.reg tt_ok ?_ | refine Sem.condS ?_ | refine Sem.regL tt_ok ?_ | refine Sem.skip tt_ok ?_ | refine Sem.exit tt_ok ?_ | refine Sem.ret tt_ok ?_ | refine BS_t (by assumption) ?_ | refine BS_f (by assumption) ?_ | refine (nthK_iff _ _).2 ⟨_, (by assumption), ?_⟩ | refine ⟨_, ⟨(by omega), (by assumption)⟩, ?_⟩ | refine And.intro (by first | decide | omega) ?_ | fail); conv => whnf) | refine Sem.seqS ?_ | refine Sem.block ?_ | fail)
      exact ⟨_, fun _ _ h => h, rfl, rfl⟩
    · have hl2 : l2 = [] := List.length_eq_zero_iff.1 hl.symm
      subst hl2
      refine call_sem tt_ok Tryd.func95 rfl (by kernel_rfl) Tryd.ntmps95 Tryd.results95 ?_; conv => whnf
      repeat' (first | ((first | refine Sem.reg tt_ok ?_ | refine Sem.condS ?_ | refine Sem.regL tt_ok ?_ | refine Sem.skip tt_ok ?_ | refine Sem.exit tt_ok ?_ | refine Sem.ret tt_ok ?_ | refine BS_t (by assumption) ?_ | refine BS_f (by assumption) ?_ | refine (nthK_iff _ _).2 ⟨_, (by assumption), ?_⟩ | refine ⟨_, ⟨(by omega), (by assumption)⟩, ?_⟩ | refine And.intro (by first | decide | omega) ?_ | fail); conv => whnf) | refine Sem.seqS ?_ | refine Sem.block ?_ | fail)
      refine Sem.loop (ι := Unit) (fun _ => ⟨(.top :: .top :: .lptr 0 0 :: .lptr 1 0 :: .top :: .int .i64 0 :: .top :: .top :: .top :: .top :: .top :: .top :: .top :: .top :: .top :: .top :: .top :: .top :: .top :: .top :: .top :: .top :: .top :: .top :: .top :: .top :: .top :: .top :: .top :: .top :: .top :: .top :: .top :: .top :: .top :: .top :: .top :: .top :: .top :: .top :: .top :: .top :: .top :: .top :: .top :: .top :: []), [.live none [.int .i64 k, .str (S s), .nils], .live none [.int .i64 k, .str (S s), .slc 81 []]], 2, 0, G⟩) (fun _ => 0) () ?_ (fun _ => ?_)
      · refine weak_by [] ?_; (conv => whnf); repeat (first | (refine And.intro rfl ?_; conv => whnf) | fail)
        exact ⟨fun i y hy => hy, rfl, by decide, rfl, rfl⟩
      repeat' (first | ((first | refine Sem.reg tt_ok ?_ | refine Sem.condS ?_ | refine Sem.regL tt_ok ?_ | refine Sem.skip tt_ok ?_ | refine Sem.exit tt_ok ?_ | refine Sem.ret tt_ok ?_ | refine BS_t (by assumption) ?_ | refine BS_f (by assumption) ?_ | refine (nthK_iff _ _).2 ⟨_, (by assumption), ?_⟩ | refine ⟨_, ⟨(by omega), (by assumption)⟩, ?_⟩ | refine And.intro (by first | decide | omega) ?_ | fail); conv => whnf) | refine Sem.seqS ?_ | refine Sem.block ?_ | fail)
      exact ⟨_, fun _ _ h => h, rfl, rfl⟩
    · have hl2 : l1 = [] := List.length_eq_zero_iff.1 hl
      subst hl2
      refine call_sem tt_ok Tryd.func95 rfl (by kernel_rfl) Tryd.ntmps95 Tryd.results95 ?_; conv => whnf
      repeat' (first | ((first | refine Sem.reg tt_ok ?_ | refine Sem.condS ?_ | refine Sem.regL tt_ok ?_ | refine Sem.skip tt_ok ?_ | refine Sem.exit tt_ok ?_ | refine Sem.ret tt_ok ?_ | refine BS_t (by assumption) ?_ | refine BS_f (by assumption) ?_ | refine (nthK_iff _ _).2 ⟨_, (by assumption), ?_⟩ | refine ⟨_, ⟨(by omega), (by assumption)⟩, ?_⟩ | refine And.intro (by first | decide | omega) ?_ | fail); conv => whnf) | refine Sem.seqS ?_ | refine Sem.block ?_ | fail)
      refine Sem.loop (ι := Unit) (fun _ => ⟨(.top :: .top :: .lptr 0 0 :: .lptr 1 0 :: .top :: .int .i64 0 :: .top :: .top :: .top :: .top :: .top :: .top :: .top :: .top :: .top :: .top :: .top :: .top :: .top :: .top :: .top :: .top :: .top :: .top :: .top :: .top :: .top :: .top :: .top :: .top :: .top :: .top :: .top :: .top :: .top :: .top :: .top :: .top :: .top :: .top :: .top :: .top :: .top :: .top :: .top :: .top :: []), [.live none [.int .i64 k, .str (S s), .slc 81 []], .live none [.int .i64 k, .str (S s), .nils]], 2, 0, G⟩) (fun _ => 0) () ?_ (fun _ => ?_)
      · refine weak_by [] ?_; (conv => whnf); repeat (first | (refine And.intro rfl ?_; conv => whnf) | fail)
        exact ⟨fun i y hy => hy, rfl, by decide, rfl, rfl⟩
      repeat' (first | ((first | refine Sem.reg tt_ok ?_ | refine Sem.condS ?_ | refine Sem.regL tt_ok ?_ | refine Sem.skip tt_ok ?_ | refine Sem.exit tt_ok ?_ | refine Sem.ret tt_ok ?_ | refine BS_t (by assumption) ?_ | refine BS_f (by assumption) ?_ | refine (nthK_iff _ _).2 ⟨_, (by assumption), ?_⟩ | refine ⟨_, ⟨(by omega), (by assumption)⟩, ?_⟩ | refine And.intro (by first | decide | omega) ?_ | fail); conv => whnf) | refine Sem.seqS ?_ | refine Sem.block ?_ | fail)
      exact ⟨_, fun _ _ h => h, rfl, rfl⟩
    · have e2 : (((l1.length : Int)) != ((l2.length : Int))) = false := by simp [hl]
      refine call_sem tt_ok Tryd.func95 rfl (by kernel_rfl) Tryd.ntmps95 Tryd.results95 ?_; conv => whnf
      repeat' (first | ((first | refine Sem.reg tt_ok ?_ | refine Sem.condS ?_ | refine Sem.regL tt_ok ?_ | refine Sem.skip tt_ok ?_ | refine Sem.exit tt_ok ?_ | refine Sem.ret tt_ok ?_ | refine BS_t (by assumption) ?_ | refine BS_f (by assumption) ?_ | refine (nthK_iff _ _).2 ⟨_, (by assumption), ?_⟩ | refine ⟨_, ⟨(by omega), (by assumption)⟩, ?_⟩ | refine And.intro (by first | decide | omega) ?_ | fail); conv => whnf) | refine Sem.seqS ?_ | refine Sem.block ?_ | fail)
      refine Sem.loop (ι := {k : Nat // k ≤ l1.length}) (fun x => ⟨(.top :: .top :: .lptr 0 0 :: .lptr 1 0 :: .top :: .int .i64 (x.1 : Nat) :: .top :: .top :: .top :: .top :: .top :: .top :: .top :: .top :: .top :: .top :: .top :: .top :: .top :: .top :: .top :: .top :: .top :: .top :: .top :: .top :: .top :: .top :: .top :: .top :: .top :: .top :: .top :: .top :: .top :: .top :: .top :: .top :: .top :: .top :: .top :: .top :: .top :: .top :: .top :: .top :: []), [.live none [.int .i64 k, .str (S s), .slc 81 l1], .live none [.int .i64 k, .str (S s), .slc 81 l2]], 2, 0, G⟩) (fun x => l1.length - x.1) ⟨0, Nat.zero_le _⟩ ?_ (fun x => ?_)
      · refine weak_by [] ?_; (conv => whnf); repeat (first | (refine And.intro rfl ?_; conv => whnf) | fail)
        exact ⟨fun i y hy => hy, rfl, by decide, rfl, rfl⟩
      obtain ⟨i, hi⟩ := x
      simp only
      by_cases hlt : i < l1.length
      · have t1 : decide (((i : Nat) : Int) < (l1.length : Nat)) = true := by simp; omega
        obtain ⟨x, hx⟩ : ∃ x, l1[i]? = some x := ⟨_, List.getElem?_eq_getElem hlt⟩
        obtain ⟨y, hy⟩ : ∃ y, l2[i]? = some y := ⟨_, List.getElem?_eq_getElem (by omega)⟩
        have hx' : l1[((i : Nat) : Int).toNat]? = some x := by rw [Int.toNat_natCast]; exact hx
        have hy' : l2[((i : Nat) : Int).toNat]? = some y := by rw [Int.toNat_natCast]; exact hy
        have h0 : (0 : Int) ≤ ((i : Nat) : Int) := by omega
        have hc := ih i x y hx hy G
        have hw : IntKind.i64.wrap ((i : Int) + 1) = ((i + 1 : Nat) : Int) := by rw [IntWalk.i64_in _ (by omega)]; omega
        obtain ⟨k', s', o1, o2, rfl, rfl, q1, q2⟩ := (hs i x y hx hy).cells
        rcases q1 with rfl | ⟨p1, rfl⟩ <;> rcases q2 with rfl | ⟨p2, rfl⟩
        all_goals
          repeat' (first | ((first | refine Sem.reg tt_ok ?_ | refine Sem.condS ?_ | refine Sem.regL tt_ok ?_ | refine Sem.skip tt_ok ?_ | refine Sem.exit tt_ok ?_ | refine Sem.ret tt_ok ?_ | refine BS_t (by assumption) ?_ | refine BS_f (by assumption) ?_ | refine (nthK_iff _ _).2 ⟨_, (by assumption), ?_⟩ | refine ⟨_, ⟨(by omega), (by assumption)⟩, ?_⟩ | refine And.intro (by first | decide | omega) ?_ | fail); conv => whnf) | refine Sem.seqS ?_ | refine Sem.block ?_ | fail)
          refine draw_sound (eff := []) tt_ok (by kernel_rfl) (by kernel_rfl) ?_; conv => whnf
          repeat' (first | ((first | refine BS_t (by assumption) ?_ | refine BS_f (by assumption) ?_ | refine (nthK_iff _ _).2 ⟨_, (by assumption), ?_⟩ | refine ⟨_, ⟨(by omega), (by assumption)⟩, ?_⟩ | refine And.intro (by first | decide | omega) ?_ | fail); conv => whnf) | fail)
          refine ⟨_, _, hc, ?_⟩; (conv => whnf); refine And.intro rfl ?_; conv => whnf
          repeat' (first | ((first | refine BS_t (by assumption) ?_ | refine BS_f (by assumption) ?_ | refine (nthK_iff _ _).2 ⟨_, (by assumption), ?_⟩ | refine ⟨_, ⟨(by omega), (by assumption)⟩, ?_⟩ | refine And.intro (by first | decide | omega) ?_ | fail); conv => whnf) | fail)
          repeat' (first | ((first | refine Sem.reg tt_ok ?_ | refine Sem.condS ?_ | refine Sem.regL tt_ok ?_ | refine Sem.skip tt_ok ?_ | refine Sem.exit tt_ok ?_ | refine Sem.ret tt_ok ?_ | refine BS_t (by assumption) ?_ | refine BS_f (by assumption) ?_ | refine (nthK_iff _ _).2 ⟨_, (by assumption), ?_⟩ | refine ⟨_, ⟨(by omega), (by assumption)⟩, ?_⟩ | refine And.intro (by first | decide | omega) ?_ | fail); conv => whnf) | refine Sem.seqS ?_ | refine Sem.block ?_ | fail)
          refine ⟨⟨i + 1, by omega⟩, by show l1.length - (i + 1) < l1.length - i; omega, ?_⟩
          refine weak_by [] ?_; (conv => whnf); repeat (first | (refine And.intro rfl ?_; conv => whnf) | fail)
          refine And.intro hw ?_
          (conv => whnf); repeat (first | (refine And.intro rfl ?_; conv => whnf) | fail)
          exact ⟨fun i y hy => hy, rfl, by decide, rfl, rfl⟩
      · have t1 : decide (((i : Nat) : Int) < (l1.length : Nat)) = false := by simp; omega
        repeat' (first | ((first | refine Sem.reg tt_ok ?_ | refine Sem.condS ?_ | refine Sem.regL tt_ok ?_ | refine Sem.skip tt_ok ?_ | refine Sem.exit tt_ok ?_ | refine Sem.ret tt_ok ?_ | refine BS_t (by assumption) ?_ | refine BS_f (by assumption) ?_ | refine (nthK_iff _ _).2 ⟨_, (by assumption), ?_⟩ | refine ⟨_, ⟨(by omega), (by assumption)⟩, ?_⟩ | refine And.intro (by first | decide | omega) ?_ | fail); conv => whnf) | refine Sem.seqS ?_ | refine Sem.block ?_ | fail)
        exact ⟨_, fun _ _ h => h, rfl, rfl⟩
theorem Ty.same : ∀ t : Ty, SameTy t.av t.av
  | .leaf k => .mk (k : Nat) [] .nils .nils [] [] (.inl ⟨rfl, rfl⟩) (.inl ⟨rfl, rfl⟩) rfl (by simp) (fun i a b h => by simp at h)
  | .named s => .mk 6 s .nils .nils [] [] (.inl ⟨rfl, rfl⟩) (.inl ⟨rfl, rfl⟩) rfl (by simp) (fun i a b h => by simp at h)
  | .list t => .mk 7 [] _ _ [t.av] [t.av] (.inr rfl) (.inr rfl) rfl (by simp) (fun i a b h1 h2 => by
      match i with
      | 0 => simp at h1 h2; subst h1 h2; exact t.same
      | i + 1 => simp at h1)
  | .opt t => .mk 9 [] _ _ [t.av] [t.av] (.inr rfl) (.inr rfl) rfl (by simp) (fun i a b h1 h2 => by
      match i with
      | 0 => simp at h1 h2; subst h1 h2; exact t.same
      | i + 1 => simp at h1)
  | .map k v => .mk 8 [] _ _ [k.av, v.av] [k.av, v.av] (.inr rfl) (.inr rfl) rfl (by simp) (fun i a b h1 h2 => by
      match i with
      | 0 => simp at h1 h2; subst h1 h2; exact k.same
      | 1 => simp at h1 h2; subst h1 h2; exact v.same
      | i + 2 => simp at h1)
/-- the same field, the same method, the same declaration but for its place -/
def SameF (a b : List AV) : Prop := ∃ (tag : Int) (nm : List UInt8) (t1 t2 : List AV), a = .int .i64 tag :: .str (S nm) :: t1 ∧ b = .int .i64 tag :: .str (S nm) :: t2 ∧ SameTy t1 t2
def SameM (a b : List AV) : Prop := ∃ (tag : Int) (x y z : List UInt8) (w : Bool), a = [.int .i64 tag, .str (S x), .str (S y), .str (S z), .bool w] ∧ b = a
structure SameD (a b : List AV) (f1 f2 m1 m2 : List (List AV)) (k : Int) (nm : List UInt8) (fa fb ma mb : AV) (pa pb : Int) : Prop where
  ea : a = [.int .i64 k, .str (S nm), fa, ma, .int .i64 pa]
  eb : b = [.int .i64 k, .str (S nm), fb, mb, .int .i64 pb]
  fa : IsOf 83 fa f1
  fb : IsOf 83 fb f2
  ma : IsOf 123 ma m1
  mb : IsOf 123 mb m2
  fl : f1.length = f2.length
  ml : m1.length = m2.length
  fn : f1.length ≤ 1048576
  mn : m1.length ≤ 1048576
  fs : ∀ (i : Nat) (a b : List AV), f1[i]? = some a → f2[i]? = some b → SameF a b
  ms : ∀ (i : Nat) (a b : List AV), m1[i]? = some a → m2[i]? = some b → SameM a b
/-- a slice that is not there reads as an empty one -/
theorem IsOf.cases {e : TypeId} {v : AV} {l : List (List AV)} (h : IsOf e v l) : (v = .nils ∧ l = []) ∨ v = .slc e l := h
end Go.Proofs.YtofhakbmmgpgdaaDoor
