/- The document's Same of rows of declarations, where they are the same. -/
import Derived.Test.YtofhakbmmgpgdaaDoorSm9b
import Derived.Test.YtofhakbmmgpgdaaDoorGj
set_option maxRecDepth 100000
set_option linter.unusedSimpArgs false
namespace Go.Proofs.YtofhakbmmgpgdaaDoor
open Go Go.RowKit Go.Proofs Go.Shelf

/-- what a slice's elements are, told less well -/
theorem slc_to {T : TypeId → TR} {g : Gh} {w : World} {e : TypeId} {els els' : List (List AV)} {u : Value} (hl : els'.length = els.length)
    (h : ∀ (i : Nat) (a a' : List AV), els[i]? = some a → els'[i]? = some a' → a'.length = a.length ∧ ∀ (j : Nat) (c c' : AV) (x : Value), a[j]? = some c → a'[j]? = some c' → Dz T g w c x → Dz T g w c' x) (hz : Dz T g w (.slc e els) u) : Dz T g w (.slc e els') u := by
  cases hz with
  | slc e els p cap F hc hm hs hp hd =>
    have back : ∀ (i : Nat) (a' : List AV), els'[i]? = some a' → ∃ a, els[i]? = some a := fun i a' h' => ⟨_, List.getElem?_eq_getElem (by have := (List.getElem?_eq_some_iff.1 h').1; omega)⟩
    rw [← hl]
    refine .slc e els' p cap F (by omega) hm (fun a' ha' => ?_) (fun h0 => ?_) (fun i a' ha' j c' hc' => ?_)
    · obtain ⟨i, hi⟩ := List.getElem?_of_mem ha'
      obtain ⟨a, ha⟩ := back i a' hi
      rw [(h i a a' ha hi).1]; exact hs a (List.mem_of_getElem? ha)
    · obtain ⟨b, off, h1, h2⟩ := hp (by omega)
      refine ⟨b, off, h1, fun i a' ha' j hj => ?_⟩
      obtain ⟨a, ha⟩ := back i a' ha'
      exact h2 i a ha j hj
    · obtain ⟨a, ha⟩ := back i a' ha'
      obtain ⟨q1, q2⟩ := h i a a' ha ha'
      have hja : a[j]? = some (a[j]'(by have := (List.getElem?_eq_some_iff.1 hc').1; omega)) := List.getElem?_eq_getElem _
      exact q2 j _ c' _ hja hc' (hd i a ha j _ hja)
/-- what the rows have in common -/
structure SameC (a b : List AV) (k : Int) (nm : List UInt8) (f1 f2 m1 m2 : List (List AV)) (pa pb : Int) : Prop where
  ea : a = dcC k nm f1 m1 pa
  eb : b = dcC k nm f2 m2 pb
  fl : f1.length = f2.length
  ml : m1.length = m2.length
  fn : f1.length ≤ 1048576
  mn : m1.length ≤ 1048576
  fs : ∀ (i : Nat) (a b : List AV), f1[i]? = some a → f2[i]? = some b → SameF a b
  ms : ∀ (i : Nat) (a b : List AV), m1[i]? = some a → m2[i]? = some b → SameM a b
theorem same09_ok {A B : List (List AV)} (hl : A.length = B.length) (hn : A.length ≤ 1048576) (hs : ∀ (i : Nat) (a b : List AV), A[i]? = some a → B[i]? = some b → ∃ k nm f1 f2 m1 m2 pa pb, SameC a b k nm f1 f2 m1 m2 pa pb) (G : Glob) :
    CallOk Tryd.prog TT 28 [.slc 77 A, .slc 77 B, .bool false] G (fun v G' => v = .bool true ∧ G' = G) := by
  have e0 : (((A.length : Int)) != ((B.length : Int))) = false := by simp [hl]
  refine call_sem tt_ok Tryd.func28 rfl (by kernel_rfl) Tryd.ntmps28 Tryd.results28 ?_; conv => whnf
  repeat' (first | ((first | refine Sem.reg tt_ok ?_ | refine Sem.condS ?_ | refine Sem.regL tt_ok ?_ | refine Sem.skip tt_ok ?_ | refine Sem.exit tt_ok ?_ | refine Sem.ret tt_ok ?_ | refine BS_t (by assumption) ?_ | refine BS_f (by assumption) ?_ | refine (nthK_iff _ _).2 ⟨_, (by assumption), ?_⟩ | refine ⟨_, ⟨(by omega), (by assumption)⟩, ?_⟩ | refine And.intro (by first | decide | omega) ?_ | fail); conv => whnf) | refine Sem.seqS ?_ | refine Sem.block ?_ | fail)
  refine Sem.loop (ι := {k : Nat // k ≤ A.length}) (fun x => ⟨(.slc 77 A :: .slc 77 B :: .bool false :: .top :: .top :: .top :: .top :: .int .i64 (x.1 : Nat) :: .top :: .top :: .top :: .top :: .top :: .top :: .top :: .top :: .top :: .top :: .top :: .top :: .top :: .top :: .top :: .top :: .top :: .top :: .top :: .top :: .top :: .top :: .top :: .top :: .top :: .top :: .top :: .top :: .top :: .top :: .top :: .top :: .top :: .top :: .top :: .top :: .top :: []), [], 0, 0, G⟩) (fun x => A.length - x.1) ⟨0, Nat.zero_le _⟩ ?_ (fun x => ?_)
  · refine weak_by [] ?_; (conv => whnf); repeat (first | (refine And.intro rfl ?_; conv => whnf) | fail)
    exact ⟨fun i y hy => hy, rfl, by decide, rfl, rfl⟩
  obtain ⟨i, hi⟩ := x
  simp only
  by_cases hlt : i < A.length
  · have t1 : decide (((i : Nat) : Int) < (A.length : Nat)) = true := by simp; omega
    obtain ⟨x, hx⟩ : ∃ x, A[i]? = some x := ⟨_, List.getElem?_eq_getElem hlt⟩
    obtain ⟨y, hy⟩ : ∃ y, B[i]? = some y := ⟨_, List.getElem?_eq_getElem (by omega)⟩
    have hx' : A[((i : Nat) : Int).toNat]? = some x := by rw [Int.toNat_natCast]; exact hx
    have hy' : B[((i : Nat) : Int).toNat]? = some y := by rw [Int.toNat_natCast]; exact hy
    have h0 : (0 : Int) ≤ ((i : Nat) : Int) := by omega
    have hw : IntKind.i64.wrap ((i : Int) + 1) = ((i + 1 : Nat) : Int) := by rw [IntWalk.i64_in _ (by omega)]; omega
    obtain ⟨k, nm, f1, f2, m1, m2, pa, pb, sc⟩ := hs i x y hx hy
    have hc := samedecl_ok (k := k) (nm := nm) (pa := pa) (pb := pb) sc.fl sc.ml sc.fn sc.mn sc.fs sc.ms G
    obtain ⟨rfl, rfl, _, _, _, _, _, _⟩ := sc
    unfold dcC at *
    repeat' (first | ((first | refine Sem.reg tt_ok ?_ | refine Sem.condS ?_ | refine Sem.regL tt_ok ?_ | refine Sem.skip tt_ok ?_ | refine Sem.exit tt_ok ?_ | refine Sem.ret tt_ok ?_ | refine BS_t (by assumption) ?_ | refine BS_f (by assumption) ?_ | refine (nthK_iff _ _).2 ⟨_, (by assumption), ?_⟩ | refine ⟨_, ⟨(by omega), (by assumption)⟩, ?_⟩ | refine And.intro (by first | decide | omega) ?_ | fail); conv => whnf) | refine Sem.seqS ?_ | refine Sem.block ?_ | fail)
    refine draw_sound (eff := []) tt_ok (by kernel_rfl) (by kernel_rfl) ?_; conv => whnf
    repeat' (first | ((first | refine BS_t (by assumption) ?_ | refine BS_f (by assumption) ?_ | refine (nthK_iff _ _).2 ⟨_, (by assumption), ?_⟩ | refine ⟨_, ⟨(by omega), (by assumption)⟩, ?_⟩ | refine And.intro (by first | decide | omega) ?_ | fail); conv => whnf) | fail)
    refine ⟨_, _, hc, ?_⟩; (conv => whnf); refine And.intro rfl ?_; conv => whnf
    repeat' (first | ((first | refine BS_t (by assumption) ?_ | refine BS_f (by assumption) ?_ | refine (nthK_iff _ _).2 ⟨_, (by assumption), ?_⟩ | refine ⟨_, ⟨(by omega), (by assumption)⟩, ?_⟩ | refine And.intro (by first | decide | omega) ?_ | fail); conv => whnf) | fail)
    repeat' (first | ((first | refine Sem.reg tt_ok ?_ | refine Sem.condS ?_ | refine Sem.regL tt_ok ?_ | refine Sem.skip tt_ok ?_ | refine Sem.exit tt_ok ?_ | refine Sem.ret tt_ok ?_ | refine BS_t (by assumption) ?_ | refine BS_f (by assumption) ?_ | refine (nthK_iff _ _).2 ⟨_, (by assumption), ?_⟩ | refine ⟨_, ⟨(by omega), (by assumption)⟩, ?_⟩ | refine And.intro (by first | decide | omega) ?_ | fail); conv => whnf) | refine Sem.seqS ?_ | refine Sem.block ?_ | fail)
    refine ⟨⟨i + 1, by omega⟩, by show A.length - (i + 1) < A.length - i; omega, ?_⟩
    refine weak_by [] ?_; (conv => whnf); repeat (first | (refine And.intro rfl ?_; conv => whnf) | fail)
    refine And.intro hw ?_
    (conv => whnf); repeat (first | (refine And.intro rfl ?_; conv => whnf) | fail)
    exact ⟨fun i y hy => hy, rfl, by decide, rfl, rfl⟩
  have t1 : decide (((i : Nat) : Int) < (A.length : Nat)) = false := by simp; omega
  repeat' (first | ((first | refine Sem.reg tt_ok ?_ | refine Sem.condS ?_ | refine Sem.regL tt_ok ?_ | refine Sem.skip tt_ok ?_ | refine Sem.exit tt_ok ?_ | refine Sem.ret tt_ok ?_ | refine BS_t (by assumption) ?_ | refine BS_f (by assumption) ?_ | refine (nthK_iff _ _).2 ⟨_, (by assumption), ?_⟩ | refine ⟨_, ⟨(by omega), (by assumption)⟩, ?_⟩ | refine And.intro (by first | decide | omega) ?_ | fail); conv => whnf) | refine Sem.seqS ?_ | refine Sem.block ?_ | fail)
  exact ⟨_, fun _ _ h => h, rfl, rfl⟩
/-- a declaration, both its slices being there -/
def Dc.nav (d : Dc) : List AV := dcC (d.kind : Nat) d.name (if d.kind = 4 then [] else d.fields.map Fd.av) (if d.kind = 4 then d.methods.map Md.av else []) (d.at_ : Nat)
theorem dc_to {T : TypeId → TR} {g : Gh} {w : World} {ds : List Dc} {u : Value} (h : Dz T g w (.slc 77 (ds.map Dc.av)) u) : Dz T g w (.slc 77 (ds.map Dc.nav)) u := by
  refine slc_to (by simp) (fun i a a' ha ha' => ?_) h
  rw [List.getElem?_map] at ha ha'
  cases hd : ds[i]? with
  | none => rw [hd] at ha; cases ha
  | some d =>
    rw [hd] at ha ha'
    simp only [Option.map_some, Option.some.injEq] at ha ha'
    subst ha ha'
    unfold Dc.av Dc.nav dcC
    by_cases k4 : d.kind = 4
    · simp only [if_pos k4]
      refine ⟨rfl, fun j c c' x hc hc' hz => ?_⟩
      match j with
      | 0 => cases hc; cases hc'; exact hz
      | 1 => cases hc; cases hc'; exact hz
      | 2 => cases hc; cases hc'; exact nils_dz _ hz
      | 3 => cases hc; cases hc'; exact hz
      | 4 => cases hc; cases hc'; exact hz
      | j + 5 => simp at hc
    · simp only [if_neg k4]
      refine ⟨rfl, fun j c c' x hc hc' hz => ?_⟩
      match j with
      | 0 => cases hc; cases hc'; exact hz
      | 1 => cases hc; cases hc'; exact hz
      | 2 => cases hc; cases hc'; exact hz
      | 3 => cases hc; cases hc'; exact nils_dz _ hz
      | 4 => cases hc; cases hc'; exact hz
      | j + 5 => simp at hc
end Go.Proofs.YtofhakbmmgpgdaaDoor
