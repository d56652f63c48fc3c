/- 'ParseJoins': whatever two texts: the declarations of both, a line's end between, are those of the two, but for places, if these are not too many, nor too long: the law hands back true. Conditions: none. -/
import Derived.Test.YtofhakbmmgpgdaaPrsH
import Derived.Test.YtofhakbmmgpgdaaJoiC
import Derived.Test.YtofhakbmmgpgdaaSm9c
set_option maxRecDepth 100000
set_option linter.unusedSimpArgs false
namespace Go.Proofs.Ytofhakbmmgpgdaa
open Go Go.RowKit Go.Proofs Go.ChangeShapes Go.WideShapes Go.ChangeAt Go.Shelf
open Go.ChangeMaps (open_string shut_string)

theorem rows_len {α : Type} (L : List Tok) (row : PS → α × PS) : ∀ (f n : Nat) (p : PS), (rowsP L row f n p).1.length ≤ f
  | 0, n, p => Nat.le_refl _
  | f + 1, n, p => by
    rw [rowsP]
    split
    · exact Nat.zero_le _
    · split
      · exact Nat.zero_le _
      · generalize (if n = 16 ∧ (cur L p).kind ≠ 4 then failP L p 3 else p) = q
        have h1 := rows_len L row f (n + 1) (needP L (row q).2 [59])
        have h2 := rows_len L row f (n + 1) q
        show (if q.err = 0 then ((row q).1 :: (rowsP L row f (n + 1) (needP L (row q).2 [59])).1, (rowsP L row f (n + 1) (needP L (row q).2 [59])).2) else rowsP L row f (n + 1) q).1.length ≤ f + 1
        split
        · simp only [List.length_cons]; omega
        · omega
theorem decl_len (L : List Tok) (p : PS) : (declP L p).1.fields.length ≤ 18 ∧ (declP L p).1.methods.length ≤ 18 := by
  unfold declP
  simp only
  split
  · exact ⟨Nat.zero_le _, rows_len L _ 18 0 _⟩
  · exact ⟨rows_len L _ 18 0 _, Nat.zero_le _⟩
theorem decls_rows (L : List Tok) : ∀ (f n : Nat) (p : PS), ∀ d ∈ (declsP L f n p).1, d.fields.length ≤ 18 ∧ d.methods.length ≤ 18
  | 0, n, p, d, h => by cases h
  | f + 1, n, p, d, h => by
    rw [declsP] at h
    split at h
    · cases h
    · split at h
      · cases h
      · rcases List.mem_cons.1 h with rfl | h
        · exact decl_len L p
        · exact decls_rows L f _ _ d h
theorem parse_rows (s : List UInt8) : ∀ d ∈ (parseT s).1, d.fields.length ≤ 18 ∧ d.methods.length ≤ 18 := fun d h => by
  unfold parseT at h
  simp only at h
  split at h
  · cases h
  · split at h
    · cases h
    · exact decls_rows _ _ _ _ d h
theorem parse_len (s : List UInt8) : (parseT s).1.length ≤ 16 := by
  unfold parseT
  simp only
  split
  · exact Nat.zero_le _
  · split
    · exact Nat.zero_le _
    · have := decls_len (tokT s).1 17 0 ⟨0, 0, 0⟩ (by omega); omega
theorem like_at : ∀ {a b : List Dc}, LikeDs a b → ∀ (i : Nat) (x y : Dc), a[i]? = some x → b[i]? = some y → likeD x y
  | x' :: a, y' :: b, h, 0, x, y, hx, hy => by cases hx; cases hy; exact h.1
  | x' :: a, y' :: b, h, i + 1, x, y, hx, hy => like_at h.2 i x y hx hy
theorem fd_same (l : List Fd) : ∀ (i : Nat) (a b : List AV), (l.map Fd.av)[i]? = some a → (l.map Fd.av)[i]? = some b → SameF a b := fun i a b ha hb => by
  rw [ha] at hb; cases hb
  rw [List.getElem?_map] at ha
  cases h : l[i]? with
  | none => rw [h] at ha; cases ha
  | some f =>
    rw [h] at ha; cases ha
    exact ⟨_, _, _, _, rfl, rfl, f.ty.same⟩
theorem md_same (l : List Md) : ∀ (i : Nat) (a b : List AV), (l.map Md.av)[i]? = some a → (l.map Md.av)[i]? = some b → SameM a b := fun i a b ha hb => by
  rw [ha] at hb; cases hb
  rw [List.getElem?_map] at ha
  cases h : l[i]? with
  | none => rw [h] at ha; cases ha
  | some f => rw [h] at ha; cases ha; exact ⟨_, _, _, _, _, rfl, rfl⟩
theorem dc_same {x y : Dc} (h : likeD x y) (hf : y.fields.length ≤ 18) (hm : y.methods.length ≤ 18) : ∃ k nm f1 f2 m1 m2 pa pb, SameC x.nav y.nav k nm f1 f2 m1 m2 pa pb := by
  obtain ⟨h1, h2, h3, h4⟩ := h
  unfold Dc.nav
  rw [h1, h2, h3, h4]
  by_cases k4 : y.kind = 4
  · simp only [if_pos k4]
    exact ⟨_, _, _, _, _, _, _, _, rfl, rfl, rfl, rfl, by simp, by simp; omega, fun i a b h => by simp at h, md_same _⟩
  · simp only [if_neg k4]
    exact ⟨_, _, _, _, _, _, _, _, rfl, rfl, rfl, rfl, by simp; omega, by simp, fd_same _, fun i a b h => by simp at h⟩
theorem same_like {z l : List Dc} (h : LikeDs z l) (hl : l.length ≤ 1000) (hr : ∀ d ∈ l, d.fields.length ≤ 18 ∧ d.methods.length ≤ 18) (G : Glob) :
    CallOk Try.prog TT 9 [.slc 36 (z.map Dc.av), .slc 36 (l.map Dc.av), .bool false] G (fun v G' => v = .bool true ∧ G' = G) := by
  have hlen := h.len
  refine (same09_ok (A := z.map Dc.nav) (B := l.map Dc.nav) (by simp [hlen]) (by simp; omega) (fun i a b ha hb => ?_) G).args rfl fun i a ha => ?_
  · rw [List.getElem?_map] at ha hb
    cases hx : z[i]? with
    | none => rw [hx] at ha; cases ha
    | some x =>
      cases hy : l[i]? with
      | none => rw [hy] at hb; cases hb
      | some y =>
        rw [hx] at ha; rw [hy] at hb
        cases ha; cases hb
        have := hr y (List.mem_of_getElem? hy)
        exact dc_same (like_at h i x y hx hy) this.1 this.2
  · match i with
    | 0 => cases ha; exact ⟨_, rfl, fun g w u h => dc_to h⟩
    | 1 => cases ha; exact ⟨_, rfl, fun g w u h => dc_to h⟩
    | 2 => cases ha; exact ⟨_, rfl, fun g w u h => h⟩
    | i + 3 => simp at ha
theorem parseJoins_ok (a b : List UInt8) (ha : a.length ≤ 1000000000000000) (hb : b.length ≤ 1000000000000000) {G : Glob} (hM : MaxOk G) : CallOk Try.prog TT 4 [.str (S a), .str (S b)] G (fun v G' => v = .bool true ∧ G' = G) := by
  have hx := parse_is_ok a G hM
  have hy := parse_is_ok b G hM
  have hz := parse_is_ok (a ++ 10 :: b) G hM
  have haw := awake09_ok hM
  have hsa := S_size a
  have hsb := S_size b
  have e10 : (S a ++ ByteArray.mk #[10]) ++ S b = S (a ++ 10 :: b) := by
    rw [show ByteArray.mk #[10] = S [10] from rfl, S_append, S_append]; simp
  have bx := @parse_bad a
  have by_ := @parse_bad b
  have hj := @parse_join a b
  have rx := parse_rows a
  have ry := parse_rows b
  have lx := parse_len a
  have ly := parse_len b
  generalize parseT a = x at *
  generalize parseT b = y at *
  generalize parseT (a ++ 10 :: b) = z at *
  obtain ⟨X, ex, px⟩ := x
  obtain ⟨Y, ey, py⟩ := y
  obtain ⟨Z, ez, pz⟩ := z
  unfold parseV at *
  simp only at *
  by_cases hex : ex = 0
  · subst hex
    by_cases hey : ey = 0
    · subst hey
      obtain ⟨j1, j2⟩ := hj rfl rfl
      have w1 : IntKind.i64.wrap (((S a).size : Int) + ((S b).size : Int)) = ((a.length + b.length : Nat) : Int) := by rw [IntWalk.i64_in _ (by omega)]; omega
      have w2 : IntKind.i64.wrap (((a.length + b.length : Nat) : Int) + 1) = ((a.length + b.length + 1 : Nat) : Int) := by rw [IntWalk.i64_in _ (by omega)]; omega
      have w3 : IntKind.i64.wrap (((X.map Dc.av).length : Int) + ((Y.map Dc.av).length : Int)) = ((X.length + Y.length : Nat) : Int) := by rw [List.length_map, List.length_map, IntWalk.i64_in _ (by omega)]; omega
      have hms : IntKind.i64.max = 9223372036854775807 := rfl
      have c0 : ∀ (h1 : 1024 < a.length + b.length + 1), decide (IntKind.i64.wrap (IntKind.i64.wrap (((S a).size : Int) + ((S b).size : Int)) + 1) > 1024) = true := fun h1 => by rw [w1, w2]; simp; omega
      have c0' : ∀ (h1 : ¬ 1024 < a.length + b.length + 1), decide (IntKind.i64.wrap (IntKind.i64.wrap (((S a).size : Int) + ((S b).size : Int)) + 1) > 1024) = false := fun h1 => by rw [w1, w2]; simp; omega
      have c1 : ∀ (h1 : 16 < X.length + Y.length), decide (IntKind.i64.wrap (((X.map Dc.av).length : Int) + ((Y.map Dc.av).length : Int)) > 16) = true := fun h1 => by rw [w3]; simp; omega
      have c1' : ∀ (h1 : ¬ 16 < X.length + Y.length), decide (IntKind.i64.wrap (((X.map Dc.av).length : Int) + ((Y.map Dc.av).length : Int)) > 16) = false := fun h1 => by rw [w3]; simp; omega
      refine call_sem tt_ok Try.func4 rfl (by kernel_rfl) Try.ntmps4 Try.results4 ?_; conv => whnf
      repeat' (first | ((first | refine Sem.reg tt_ok ?_ | refine Sem.condS ?_ | refine Sem.regL tt_ok ?_ | refine Sem.skip tt_ok ?_ | refine Sem.exit tt_ok ?_ | refine Sem.ret tt_ok ?_ | refine BS_t (by assumption) ?_ | refine BS_f (by assumption) ?_ | refine atG (by repeat (first | assumption | exact setG_same _ _ _ | refine Eq.trans (setG_ne _ _ (by first | assumption | exact Ne.symm (by assumption))) ?_)) ?_ | refine (nthK_iff _ _).2 ⟨_, (by assumption), ?_⟩ | refine ⟨_, ⟨(by omega), (by assumption)⟩, ?_⟩ | refine And.intro (by first | decide | omega) ?_ | fail); conv => whnf) | refine Sem.seqS ?_ | refine Sem.block ?_ | fail)
      refine hx.on ?_; conv => whnf
      repeat' (first | ((first | refine Sem.reg tt_ok ?_ | refine Sem.condS ?_ | refine Sem.regL tt_ok ?_ | refine Sem.skip tt_ok ?_ | refine Sem.exit tt_ok ?_ | refine Sem.ret tt_ok ?_ | refine BS_t (by assumption) ?_ | refine BS_f (by assumption) ?_ | refine atG (by repeat (first | assumption | exact setG_same _ _ _ | refine Eq.trans (setG_ne _ _ (by first | assumption | exact Ne.symm (by assumption))) ?_)) ?_ | refine (nthK_iff _ _).2 ⟨_, (by assumption), ?_⟩ | refine ⟨_, ⟨(by omega), (by assumption)⟩, ?_⟩ | refine And.intro (by first | decide | omega) ?_ | fail); conv => whnf) | refine Sem.seqS ?_ | refine Sem.block ?_ | fail)
      refine hy.on ?_; conv => whnf
      repeat' (first | ((first | refine Sem.reg tt_ok ?_ | refine Sem.condS ?_ | refine Sem.regL tt_ok ?_ | refine Sem.skip tt_ok ?_ | refine Sem.exit tt_ok ?_ | refine Sem.ret tt_ok ?_ | refine BS_t (by assumption) ?_ | refine BS_f (by assumption) ?_ | refine atG (by repeat (first | assumption | exact setG_same _ _ _ | refine Eq.trans (setG_ne _ _ (by first | assumption | exact Ne.symm (by assumption))) ?_)) ?_ | refine (nthK_iff _ _).2 ⟨_, (by assumption), ?_⟩ | refine ⟨_, ⟨(by omega), (by assumption)⟩, ?_⟩ | refine And.intro (by first | decide | omega) ?_ | fail); conv => whnf) | refine Sem.seqS ?_ | refine Sem.block ?_ | fail)
      refine And.intro (by show (((S a).size + 1 : Nat) : Int) ≤ IntKind.i64.max; omega) ?_
      conv => whnf
      refine And.intro (by rw [ByteArray.size_append]; show (((S a).size + 1 + (S b).size : Nat) : Int) ≤ IntKind.i64.max; omega) ?_
      conv => whnf
      rw [e10]
      refine hz.on ?_; conv => whnf
      repeat' (first | ((first | refine Sem.reg tt_ok ?_ | refine Sem.condS ?_ | refine Sem.regL tt_ok ?_ | refine Sem.skip tt_ok ?_ | refine Sem.exit tt_ok ?_ | refine Sem.ret tt_ok ?_ | refine BS_t (by assumption) ?_ | refine BS_f (by assumption) ?_ | refine atG (by repeat (first | assumption | exact setG_same _ _ _ | refine Eq.trans (setG_ne _ _ (by first | assumption | exact Ne.symm (by assumption))) ?_)) ?_ | refine (nthK_iff _ _).2 ⟨_, (by assumption), ?_⟩ | refine ⟨_, ⟨(by omega), (by assumption)⟩, ?_⟩ | refine And.intro (by first | decide | omega) ?_ | fail); conv => whnf) | refine Sem.seqS ?_ | refine Sem.block ?_ | fail)
      by_cases h1 : 1024 < a.length + b.length + 1
      · have t1 := c0 h1
        have h3 := j1 (.inl h1)
        subst h3
        repeat' (first | ((first | refine Sem.reg tt_ok ?_ | refine Sem.condS ?_ | refine Sem.regL tt_ok ?_ | refine Sem.skip tt_ok ?_ | refine Sem.exit tt_ok ?_ | refine Sem.ret tt_ok ?_ | refine BS_t (by assumption) ?_ | refine BS_f (by assumption) ?_ | refine atG (by repeat (first | assumption | exact setG_same _ _ _ | refine Eq.trans (setG_ne _ _ (by first | assumption | exact Ne.symm (by assumption))) ?_)) ?_ | refine (nthK_iff _ _).2 ⟨_, (by assumption), ?_⟩ | refine ⟨_, ⟨(by omega), (by assumption)⟩, ?_⟩ | refine And.intro (by first | decide | omega) ?_ | fail); conv => whnf) | refine Sem.seqS ?_ | refine Sem.block ?_ | fail)
        refine haw.on ?_; conv => whnf
        repeat' (first | ((first | refine Sem.reg tt_ok ?_ | refine Sem.condS ?_ | refine Sem.regL tt_ok ?_ | refine Sem.skip tt_ok ?_ | refine Sem.exit tt_ok ?_ | refine Sem.ret tt_ok ?_ | refine BS_t (by assumption) ?_ | refine BS_f (by assumption) ?_ | refine atG (by repeat (first | assumption | exact setG_same _ _ _ | refine Eq.trans (setG_ne _ _ (by first | assumption | exact Ne.symm (by assumption))) ?_)) ?_ | refine (nthK_iff _ _).2 ⟨_, (by assumption), ?_⟩ | refine ⟨_, ⟨(by omega), (by assumption)⟩, ?_⟩ | refine And.intro (by first | decide | omega) ?_ | fail); conv => whnf) | refine Sem.seqS ?_ | refine Sem.block ?_ | fail)
        exact ⟨_, fun _ _ h => h, rfl, rfl⟩
      have t1 := c0' h1
      by_cases h2 : 16 < X.length + Y.length
      · have t2 := c1 h2
        have h3 := j1 (.inr h2)
        subst h3
        repeat' (first | ((first | refine Sem.reg tt_ok ?_ | refine Sem.condS ?_ | refine Sem.regL tt_ok ?_ | refine Sem.skip tt_ok ?_ | refine Sem.exit tt_ok ?_ | refine Sem.ret tt_ok ?_ | refine BS_t (by assumption) ?_ | refine BS_f (by assumption) ?_ | refine atG (by repeat (first | assumption | exact setG_same _ _ _ | refine Eq.trans (setG_ne _ _ (by first | assumption | exact Ne.symm (by assumption))) ?_)) ?_ | refine (nthK_iff _ _).2 ⟨_, (by assumption), ?_⟩ | refine ⟨_, ⟨(by omega), (by assumption)⟩, ?_⟩ | refine And.intro (by first | decide | omega) ?_ | fail); conv => whnf) | refine Sem.seqS ?_ | refine Sem.block ?_ | fail)
        refine haw.on ?_; conv => whnf
        repeat' (first | ((first | refine Sem.reg tt_ok ?_ | refine Sem.condS ?_ | refine Sem.regL tt_ok ?_ | refine Sem.skip tt_ok ?_ | refine Sem.exit tt_ok ?_ | refine Sem.ret tt_ok ?_ | refine BS_t (by assumption) ?_ | refine BS_f (by assumption) ?_ | refine atG (by repeat (first | assumption | exact setG_same _ _ _ | refine Eq.trans (setG_ne _ _ (by first | assumption | exact Ne.symm (by assumption))) ?_)) ?_ | refine (nthK_iff _ _).2 ⟨_, (by assumption), ?_⟩ | refine ⟨_, ⟨(by omega), (by assumption)⟩, ?_⟩ | refine And.intro (by first | decide | omega) ?_ | fail); conv => whnf) | refine Sem.seqS ?_ | refine Sem.block ?_ | fail)
        exact ⟨_, fun _ _ h => h, rfl, rfl⟩
      have t2 := c1' h2
      obtain ⟨ds, h3, hlike⟩ := j2 (by omega) (by omega)
      cases h3
      have hsame := same_like hlike (by simp; omega) (fun d hd => by
        rcases List.mem_append.1 hd with h | h
        · exact rx d h
        · exact ry d h) G
      rw [List.map_append] at hsame
      repeat' (first | ((first | refine Sem.reg tt_ok ?_ | refine Sem.condS ?_ | refine Sem.regL tt_ok ?_ | refine Sem.skip tt_ok ?_ | refine Sem.exit tt_ok ?_ | refine Sem.ret tt_ok ?_ | refine BS_t (by assumption) ?_ | refine BS_f (by assumption) ?_ | refine atG (by repeat (first | assumption | exact setG_same _ _ _ | refine Eq.trans (setG_ne _ _ (by first | assumption | exact Ne.symm (by assumption))) ?_)) ?_ | refine (nthK_iff _ _).2 ⟨_, (by assumption), ?_⟩ | refine ⟨_, ⟨(by omega), (by assumption)⟩, ?_⟩ | refine And.intro (by first | decide | omega) ?_ | fail); conv => whnf) | refine Sem.seqS ?_ | refine Sem.block ?_ | fail)
      refine And.intro (app_le (by simp; omega) (by decide)) ?_; conv => whnf
      repeat' (first | ((first | refine Sem.reg tt_ok ?_ | refine Sem.condS ?_ | refine Sem.regL tt_ok ?_ | refine Sem.skip tt_ok ?_ | refine Sem.exit tt_ok ?_ | refine Sem.ret tt_ok ?_ | refine BS_t (by assumption) ?_ | refine BS_f (by assumption) ?_ | refine atG (by repeat (first | assumption | exact setG_same _ _ _ | refine Eq.trans (setG_ne _ _ (by first | assumption | exact Ne.symm (by assumption))) ?_)) ?_ | refine (nthK_iff _ _).2 ⟨_, (by assumption), ?_⟩ | refine ⟨_, ⟨(by omega), (by assumption)⟩, ?_⟩ | refine And.intro (by first | decide | omega) ?_ | fail); conv => whnf) | refine Sem.seqS ?_ | refine Sem.block ?_ | fail)
      refine And.intro (app_le (by simp; omega) (by decide)) ?_; conv => whnf
      repeat' (first | ((first | refine Sem.reg tt_ok ?_ | refine Sem.condS ?_ | refine Sem.regL tt_ok ?_ | refine Sem.skip tt_ok ?_ | refine Sem.exit tt_ok ?_ | refine Sem.ret tt_ok ?_ | refine BS_t (by assumption) ?_ | refine BS_f (by assumption) ?_ | refine atG (by repeat (first | assumption | exact setG_same _ _ _ | refine Eq.trans (setG_ne _ _ (by first | assumption | exact Ne.symm (by assumption))) ?_)) ?_ | refine (nthK_iff _ _).2 ⟨_, (by assumption), ?_⟩ | refine ⟨_, ⟨(by omega), (by assumption)⟩, ?_⟩ | refine And.intro (by first | decide | omega) ?_ | fail); conv => whnf) | refine Sem.seqS ?_ | refine Sem.block ?_ | fail)
      refine hsame.on ?_; conv => whnf
      repeat' (first | ((first | refine Sem.reg tt_ok ?_ | refine Sem.condS ?_ | refine Sem.regL tt_ok ?_ | refine Sem.skip tt_ok ?_ | refine Sem.exit tt_ok ?_ | refine Sem.ret tt_ok ?_ | refine BS_t (by assumption) ?_ | refine BS_f (by assumption) ?_ | refine atG (by repeat (first | assumption | exact setG_same _ _ _ | refine Eq.trans (setG_ne _ _ (by first | assumption | exact Ne.symm (by assumption))) ?_)) ?_ | refine (nthK_iff _ _).2 ⟨_, (by assumption), ?_⟩ | refine ⟨_, ⟨(by omega), (by assumption)⟩, ?_⟩ | refine And.intro (by first | decide | omega) ?_ | fail); conv => whnf) | refine Sem.seqS ?_ | refine Sem.block ?_ | fail)
      refine haw.on ?_; conv => whnf
      repeat' (first | ((first | refine Sem.reg tt_ok ?_ | refine Sem.condS ?_ | refine Sem.regL tt_ok ?_ | refine Sem.skip tt_ok ?_ | refine Sem.exit tt_ok ?_ | refine Sem.ret tt_ok ?_ | refine BS_t (by assumption) ?_ | refine BS_f (by assumption) ?_ | refine atG (by repeat (first | assumption | exact setG_same _ _ _ | refine Eq.trans (setG_ne _ _ (by first | assumption | exact Ne.symm (by assumption))) ?_)) ?_ | refine (nthK_iff _ _).2 ⟨_, (by assumption), ?_⟩ | refine ⟨_, ⟨(by omega), (by assumption)⟩, ?_⟩ | refine And.intro (by first | decide | omega) ?_ | fail); conv => whnf) | refine Sem.seqS ?_ | refine Sem.block ?_ | fail)
      exact ⟨_, fun _ _ h => h, rfl, rfl⟩
    · have hy0 := by_ hey
      subst hy0
      have t1 : (((ey : Nat) : Int) != 0) = true := by simpa using hey
      have t2 : (((ey : Nat) : Int) == 0) = false := by simpa using hey
      refine call_sem tt_ok Try.func4 rfl (by kernel_rfl) Try.ntmps4 Try.results4 ?_; conv => whnf
      repeat' (first | ((first | refine Sem.reg tt_ok ?_ | refine Sem.condS ?_ | refine Sem.regL tt_ok ?_ | refine Sem.skip tt_ok ?_ | refine Sem.exit tt_ok ?_ | refine Sem.ret tt_ok ?_ | refine BS_t (by assumption) ?_ | refine BS_f (by assumption) ?_ | refine atG (by repeat (first | assumption | exact setG_same _ _ _ | refine Eq.trans (setG_ne _ _ (by first | assumption | exact Ne.symm (by assumption))) ?_)) ?_ | refine (nthK_iff _ _).2 ⟨_, (by assumption), ?_⟩ | refine ⟨_, ⟨(by omega), (by assumption)⟩, ?_⟩ | refine And.intro (by first | decide | omega) ?_ | fail); conv => whnf) | refine Sem.seqS ?_ | refine Sem.block ?_ | fail)
      refine hx.on ?_; conv => whnf
      repeat' (first | ((first | refine Sem.reg tt_ok ?_ | refine Sem.condS ?_ | refine Sem.regL tt_ok ?_ | refine Sem.skip tt_ok ?_ | refine Sem.exit tt_ok ?_ | refine Sem.ret tt_ok ?_ | refine BS_t (by assumption) ?_ | refine BS_f (by assumption) ?_ | refine atG (by repeat (first | assumption | exact setG_same _ _ _ | refine Eq.trans (setG_ne _ _ (by first | assumption | exact Ne.symm (by assumption))) ?_)) ?_ | refine (nthK_iff _ _).2 ⟨_, (by assumption), ?_⟩ | refine ⟨_, ⟨(by omega), (by assumption)⟩, ?_⟩ | refine And.intro (by first | decide | omega) ?_ | fail); conv => whnf) | refine Sem.seqS ?_ | refine Sem.block ?_ | fail)
      refine hy.on ?_; conv => whnf
      repeat' (first | ((first | refine Sem.reg tt_ok ?_ | refine Sem.condS ?_ | refine Sem.regL tt_ok ?_ | refine Sem.skip tt_ok ?_ | refine Sem.exit tt_ok ?_ | refine Sem.ret tt_ok ?_ | refine BS_t (by assumption) ?_ | refine BS_f (by assumption) ?_ | refine atG (by repeat (first | assumption | exact setG_same _ _ _ | refine Eq.trans (setG_ne _ _ (by first | assumption | exact Ne.symm (by assumption))) ?_)) ?_ | refine (nthK_iff _ _).2 ⟨_, (by assumption), ?_⟩ | refine ⟨_, ⟨(by omega), (by assumption)⟩, ?_⟩ | refine And.intro (by first | decide | omega) ?_ | fail); conv => whnf) | refine Sem.seqS ?_ | refine Sem.block ?_ | fail)
      refine haw.on ?_; conv => whnf
      repeat' (first | ((first | refine Sem.reg tt_ok ?_ | refine Sem.condS ?_ | refine Sem.regL tt_ok ?_ | refine Sem.skip tt_ok ?_ | refine Sem.exit tt_ok ?_ | refine Sem.ret tt_ok ?_ | refine BS_t (by assumption) ?_ | refine BS_f (by assumption) ?_ | refine atG (by repeat (first | assumption | exact setG_same _ _ _ | refine Eq.trans (setG_ne _ _ (by first | assumption | exact Ne.symm (by assumption))) ?_)) ?_ | refine (nthK_iff _ _).2 ⟨_, (by assumption), ?_⟩ | refine ⟨_, ⟨(by omega), (by assumption)⟩, ?_⟩ | refine And.intro (by first | decide | omega) ?_ | fail); conv => whnf) | refine Sem.seqS ?_ | refine Sem.block ?_ | fail)
      exact ⟨_, fun _ _ h => h, rfl, rfl⟩
  · have hx0 := bx hex
    subst hx0
    have t1 : (((ex : Nat) : Int) != 0) = true := by simpa using hex
    have t2 : (((ex : Nat) : Int) == 0) = false := by simpa using hex
    by_cases hey : ey = 0
    · subst hey
      refine call_sem tt_ok Try.func4 rfl (by kernel_rfl) Try.ntmps4 Try.results4 ?_; conv => whnf
      repeat' (first | ((first | refine Sem.reg tt_ok ?_ | refine Sem.condS ?_ | refine Sem.regL tt_ok ?_ | refine Sem.skip tt_ok ?_ | refine Sem.exit tt_ok ?_ | refine Sem.ret tt_ok ?_ | refine BS_t (by assumption) ?_ | refine BS_f (by assumption) ?_ | refine atG (by repeat (first | assumption | exact setG_same _ _ _ | refine Eq.trans (setG_ne _ _ (by first | assumption | exact Ne.symm (by assumption))) ?_)) ?_ | refine (nthK_iff _ _).2 ⟨_, (by assumption), ?_⟩ | refine ⟨_, ⟨(by omega), (by assumption)⟩, ?_⟩ | refine And.intro (by first | decide | omega) ?_ | fail); conv => whnf) | refine Sem.seqS ?_ | refine Sem.block ?_ | fail)
      refine hx.on ?_; conv => whnf
      repeat' (first | ((first | refine Sem.reg tt_ok ?_ | refine Sem.condS ?_ | refine Sem.regL tt_ok ?_ | refine Sem.skip tt_ok ?_ | refine Sem.exit tt_ok ?_ | refine Sem.ret tt_ok ?_ | refine BS_t (by assumption) ?_ | refine BS_f (by assumption) ?_ | refine atG (by repeat (first | assumption | exact setG_same _ _ _ | refine Eq.trans (setG_ne _ _ (by first | assumption | exact Ne.symm (by assumption))) ?_)) ?_ | refine (nthK_iff _ _).2 ⟨_, (by assumption), ?_⟩ | refine ⟨_, ⟨(by omega), (by assumption)⟩, ?_⟩ | refine And.intro (by first | decide | omega) ?_ | fail); conv => whnf) | refine Sem.seqS ?_ | refine Sem.block ?_ | fail)
      refine hy.on ?_; conv => whnf
      repeat' (first | ((first | refine Sem.reg tt_ok ?_ | refine Sem.condS ?_ | refine Sem.regL tt_ok ?_ | refine Sem.skip tt_ok ?_ | refine Sem.exit tt_ok ?_ | refine Sem.ret tt_ok ?_ | refine BS_t (by assumption) ?_ | refine BS_f (by assumption) ?_ | refine atG (by repeat (first | assumption | exact setG_same _ _ _ | refine Eq.trans (setG_ne _ _ (by first | assumption | exact Ne.symm (by assumption))) ?_)) ?_ | refine (nthK_iff _ _).2 ⟨_, (by assumption), ?_⟩ | refine ⟨_, ⟨(by omega), (by assumption)⟩, ?_⟩ | refine And.intro (by first | decide | omega) ?_ | fail); conv => whnf) | refine Sem.seqS ?_ | refine Sem.block ?_ | fail)
      refine haw.on ?_; conv => whnf
      repeat' (first | ((first | refine Sem.reg tt_ok ?_ | refine Sem.condS ?_ | refine Sem.regL tt_ok ?_ | refine Sem.skip tt_ok ?_ | refine Sem.exit tt_ok ?_ | refine Sem.ret tt_ok ?_ | refine BS_t (by assumption) ?_ | refine BS_f (by assumption) ?_ | refine atG (by repeat (first | assumption | exact setG_same _ _ _ | refine Eq.trans (setG_ne _ _ (by first | assumption | exact Ne.symm (by assumption))) ?_)) ?_ | refine (nthK_iff _ _).2 ⟨_, (by assumption), ?_⟩ | refine ⟨_, ⟨(by omega), (by assumption)⟩, ?_⟩ | refine And.intro (by first | decide | omega) ?_ | fail); conv => whnf) | refine Sem.seqS ?_ | refine Sem.block ?_ | fail)
      exact ⟨_, fun _ _ h => h, rfl, rfl⟩
    · have hy0 := by_ hey
      subst hy0
      have t3 : (((ey : Nat) : Int) != 0) = true := by simpa using hey
      have t4 : (((ey : Nat) : Int) == 0) = false := by simpa using hey
      refine call_sem tt_ok Try.func4 rfl (by kernel_rfl) Try.ntmps4 Try.results4 ?_; conv => whnf
      repeat' (first | ((first | refine Sem.reg tt_ok ?_ | refine Sem.condS ?_ | refine Sem.regL tt_ok ?_ | refine Sem.skip tt_ok ?_ | refine Sem.exit tt_ok ?_ | refine Sem.ret tt_ok ?_ | refine BS_t (by assumption) ?_ | refine BS_f (by assumption) ?_ | refine atG (by repeat (first | assumption | exact setG_same _ _ _ | refine Eq.trans (setG_ne _ _ (by first | assumption | exact Ne.symm (by assumption))) ?_)) ?_ | refine (nthK_iff _ _).2 ⟨_, (by assumption), ?_⟩ | refine ⟨_, ⟨(by omega), (by assumption)⟩, ?_⟩ | refine And.intro (by first | decide | omega) ?_ | fail); conv => whnf) | refine Sem.seqS ?_ | refine Sem.block ?_ | fail)
      refine hx.on ?_; conv => whnf
      repeat' (first | ((first | refine Sem.reg tt_ok ?_ | refine Sem.condS ?_ | refine Sem.regL tt_ok ?_ | refine Sem.skip tt_ok ?_ | refine Sem.exit tt_ok ?_ | refine Sem.ret tt_ok ?_ | refine BS_t (by assumption) ?_ | refine BS_f (by assumption) ?_ | refine atG (by repeat (first | assumption | exact setG_same _ _ _ | refine Eq.trans (setG_ne _ _ (by first | assumption | exact Ne.symm (by assumption))) ?_)) ?_ | refine (nthK_iff _ _).2 ⟨_, (by assumption), ?_⟩ | refine ⟨_, ⟨(by omega), (by assumption)⟩, ?_⟩ | refine And.intro (by first | decide | omega) ?_ | fail); conv => whnf) | refine Sem.seqS ?_ | refine Sem.block ?_ | fail)
      refine hy.on ?_; conv => whnf
      repeat' (first | ((first | refine Sem.reg tt_ok ?_ | refine Sem.condS ?_ | refine Sem.regL tt_ok ?_ | refine Sem.skip tt_ok ?_ | refine Sem.exit tt_ok ?_ | refine Sem.ret tt_ok ?_ | refine BS_t (by assumption) ?_ | refine BS_f (by assumption) ?_ | refine atG (by repeat (first | assumption | exact setG_same _ _ _ | refine Eq.trans (setG_ne _ _ (by first | assumption | exact Ne.symm (by assumption))) ?_)) ?_ | refine (nthK_iff _ _).2 ⟨_, (by assumption), ?_⟩ | refine ⟨_, ⟨(by omega), (by assumption)⟩, ?_⟩ | refine And.intro (by first | decide | omega) ?_ | fail); conv => whnf) | refine Sem.seqS ?_ | refine Sem.block ?_ | fail)
      refine haw.on ?_; conv => whnf
      repeat' (first | ((first | refine Sem.reg tt_ok ?_ | refine Sem.condS ?_ | refine Sem.regL tt_ok ?_ | refine Sem.skip tt_ok ?_ | refine Sem.exit tt_ok ?_ | refine Sem.ret tt_ok ?_ | refine BS_t (by assumption) ?_ | refine BS_f (by assumption) ?_ | refine atG (by repeat (first | assumption | exact setG_same _ _ _ | refine Eq.trans (setG_ne _ _ (by first | assumption | exact Ne.symm (by assumption))) ?_)) ?_ | refine (nthK_iff _ _).2 ⟨_, (by assumption), ?_⟩ | refine ⟨_, ⟨(by omega), (by assumption)⟩, ?_⟩ | refine And.intro (by first | decide | omega) ?_ | fail); conv => whnf) | refine Sem.seqS ?_ | refine Sem.block ?_ | fail)
      exact ⟨_, fun _ _ h => h, rfl, rfl⟩
theorem parseJoins_walk (a : ByteArray) (ha : a.size ≤ 140737488351232) (b : ByteArray) (hb : b.size ≤ 140737488351232) (w : World) (hsh : w.ShapedOpen Try.prog) : Calls Try.prog 4 #[.string a, .string b] w (Gives w (.bool true)) := by
  obtain ⟨m, hm⟩ := max_cell hsh
  obtain ⟨o, ho⟩ : ∃ o, w.heap[lays144_ren.g 1]? = some o := by
    cases h : w.heap[lays144_ren.g 1]? with
    | none => simp [World.cell?, h] at hm
    | some o => exact ⟨o, rfl⟩
  refine law_pin (parseJoins_ok a.data.toList b.data.toList (by have : a.data.toList.length = a.size := (by simp); omega) (by have : b.data.toList.length = b.size := (by simp); omega) (max_pin ho ⟨m, hm⟩)) (fun v G h => ⟨h.1, by rw [h.2]; exact globP_0 _ _⟩) ho rfl fun i a u ha hu => ?_
  match i with
  | 0 => simp [S_of] at ha hu; subst ha hu; exact .str _
  | 1 => simp [S_of] at ha hu; subst ha hu; exact .str _
  | i + 2 => simp at ha
set_option linter.unusedVariables false in
set_option maxRecDepth 100000 in
theorem parseJoins_contract (H : Type) (enc : TypeId × Value → H) (W : World) (base : Nat) (args : Array Value) (ds gs : List (DataW H)) (before : List MemPlace)
    (hval : ∀ (j : Nat) t v, Try.f4.params[j]? = some t → args[j]? = some v → Value.okWide Try.prog W .any base t v)
    (hW : DataW.Whole enc Try.prog Try.f4.params.toList Rows.parseJoinsSpec.vars false W args.toList ds gs before)
    (hsz : (DataW.weightsEach Try.prog (Try.f4.params.toList ++ (Rows.parseJoinsSpec).plain.varTypes Try.prog) (ds ++ gs)).all (· ≤ reachBytes) = true) (hsh : W.ShapedOpen Try.prog) :
    Calls Try.prog 4 args W fun e W' => ∃ v, e = .returned v ∧ Rows.parseJoinsSpec.post enc Try.prog Try.f4 false true false false W args v W' := by
  have hW' := hW
  obtain ⟨p, q, hA0, hV, rfl, hfz, hnd⟩ := hW
  have hA : DataW.TrodAll enc Try.prog W 0 (fun _ => true) true Try.f4.params.toList args.toList ds p := hA0
  rw [Try.params4] at hA hval hsz
  obtain ⟨v0, vs0, d0, ds0, p0, q0, hargs, rfl, rfl, h0, r0⟩ := trodAll_cons hA
  obtain ⟨v1, vs1, d1, ds1, p1, q1, rfl, rfl, rfl, h1, r1⟩ := trodAll_cons r0
  obtain ⟨rfl, rfl, rfl⟩ := trodAll_nil r1
  obtain rfl : args = #[v0, v1] := by cases args; simp_all
  obtain ⟨rfl, rfl⟩ := trodVars_none hV
  clear hA0
  obtain ⟨a0, rfl, rfl, rfl, w0⟩ := open_string Try.underlying9 (hval 0 9 v0 rfl rfl) h0
  obtain ⟨a1, rfl, rfl, rfl, w1⟩ := open_string Try.underlying9 (hval 1 9 v1 rfl rfl) h1
  have z0 : a0.size ≤ 140737488351232 := by have := sized_string hsz (j := 0) (t := 9) rfl rfl; simpa [reachBytes] using this
  have z1 : a1.size ≤ 140737488351232 := by have := sized_string hsz (j := 1) (t := 9) rfl rfl; simpa [reachBytes] using this
  refine (parseJoins_walk a0 z0 a1 z1 W hsh).mono fun e W' ⟨he, hu⟩ => ?_
  subst he
  exact ⟨_, rfl, post_true laidOut (by kernel_rfl) Try.underlying4 rfl rfl hW' rfl hu⟩

theorem parseJoins_closed : joinedFacts Try.prog 4 Try.f4 Rows.parseJoinsSpec Rows.parseJoinsRow = true := by
  unfold joinedFacts
  rw [fact_mayEnter, fact_lifted, fact_make]
  kernel_rfl

set_option maxRecDepth 100000 in
theorem parseJoins_lifted (os : Os) (started : os.Started) (H : Type) (enc : TypeId × Value → H) :
    ReturnsInHanded {} Try.checked os 4 .any (Rows.parseJoinsSpec.pre6 enc Try.prog Try.f4 Rows.parseJoinsRow.domain false) (Rows.parseJoinsSpec.post enc Try.prog Try.f4 false true false false) := by
  refine returnsInHanded_of_change_shaped (C := Try.checked) own started (by kernel_rfl) Try.func4
    (ChangeSpec.witness6 (enc := enc) (C := Try.checked) false ⟨#[], #[.string ⟨#[]⟩, .string ⟨#[]⟩], []⟩ 8 (by kernel_rfl) (by kernel_rfl) (by kernel_rfl) (by kernel_rfl)) ?_
  intro W base args ds gs before hval hW _ hsz hsh _
  exact parseJoins_contract H enc W base args ds gs before hval hW hsz hsh

theorem parseJoins_holds : Rows.ParseJoinsSaid :=
  OpenClaim.holds_of_wide 4 Try.f4 rfl rfl rfl rfl rfl rfl rfl ⟨rfl, rfl, rfl, rfl, rfl⟩ rfl rfl rfl rfl rfl (by kernel_rfl) Try.func4 parseJoins_closed
    (of_decide_eq_true (by kernel_rfl)) (by unfold Func.isWrapper; rw [if_neg (by decide +kernel)]; exact ⟨rfl, rfl⟩)
    (fun os started H enc _ => parseJoins_lifted os started H enc)
end Go.Proofs.Ytofhakbmmgpgdaa
