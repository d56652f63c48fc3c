/- 'ShowBack', bounded: whatever declarations: what is told is parsed as it was, but for places, if it is not too long: the law hands back true. Conditions: none but the card's own (the listed variables hold what the program's text lays; the reading's bulk is at most 1048576). -/
import Derived.Test.YtofhakbmmgpgdaaDoorShoF
import Derived.Test.YtofhakbmmgpgdaaDoorShoG
import Derived.Test.YtofhakbmmgpgdaaDoorShoV
import Derived.Test.YtofhakbmmgpgdaaDoorGj
import Derived.Test.YtofhakbmmgpgdaaDoorCard
import Derived.Deep.DeepHandedRow
import Derived.Deep.DeepWitnessRowRef
set_option maxRecDepth 100000
set_option linter.unusedSimpArgs false
namespace Go.Proofs.YtofhakbmmgpgdaaDoor
open Go Go.RowKit Go.Proofs Go.ChangeShapes Go.WideShapes Go.ChangeAt Go.Shelf
open Go.ChangeMaps (open_string shut_string)

theorem parse_far {s : List UInt8} (h : 1024 < s.length) : parseT s = ([], 3, 0) := by
  have e : tokT s = ([], 3, 0) := if_pos h
  unfold parseT
  simp only
  rw [e]
  rfl
theorem gt_same : ∀ t : Ty, SameTy t.gt.av t.gt.av
  | .leaf k => by
    rw [Ty.gt, GT.av, GT.avs]
    exact .mk (k : Nat) [] _ _ [] [] (.inr rfl) (.inr rfl) rfl (by simp) (fun i a b h => by simp at h)
  | .named s => by
    rw [Ty.gt, GT.av, GT.avs]
    exact .mk 6 s _ _ [] [] (.inr rfl) (.inr rfl) rfl (by simp) (fun i a b h => by simp at h)
  | .list t => by
    rw [Ty.gt, GT.av, GT.avs, GT.avs]
    exact .mk 7 [] _ _ [t.gt.av] [t.gt.av] (.inr rfl) (.inr rfl) rfl (by simp) (fun i a b h1 h2 => by
      match i with
      | 0 => simp at h1 h2; subst h1 h2; exact gt_same t
      | i + 1 => simp at h1)
  | .opt t => by
    rw [Ty.gt, GT.av, GT.avs, GT.avs]
    exact .mk 9 [] _ _ [t.gt.av] [t.gt.av] (.inr rfl) (.inr rfl) rfl (by simp) (fun i a b h1 h2 => by
      match i with
      | 0 => simp at h1 h2; subst h1 h2; exact gt_same t
      | i + 1 => simp at h1)
  | .map k v => by
    rw [Ty.gt, GT.av, GT.avs, GT.avs, GT.avs]
    exact .mk 8 [] _ _ [k.gt.av, v.gt.av] [k.gt.av, v.gt.av] (.inr rfl) (.inr rfl) rfl (by simp) (fun i a b h1 h2 => by
      match i with
      | 0 => simp at h1 h2; subst h1 h2; exact gt_same k
      | 1 => simp at h1 h2; subst h1 h2; exact gt_same v
      | i + 2 => simp at h1)
theorem gd_same {x y : GD} {d : Dc} (hd : DcOk d) (hx : likeG x d.gd) (hy : likeG y d.gd) : ∃ k nm f1 f2 m1 m2 pa pb, SameC x.av y.av k nm f1 f2 m1 m2 pa pb := by
  obtain ⟨x1, x2, x3, x4⟩ := hx
  obtain ⟨y1, y2, y3, y4⟩ := hy
  unfold GD.av
  rw [x1, x2, x3, x4, y1, y2, y3, y4]
  refine ⟨_, _, _, _, _, _, _, _, rfl, rfl, rfl, rfl, ?_, ?_, fun i a b ha hb => ?_, fun i a b ha hb => ?_⟩
  · have := hd.fl
    unfold Dc.gd; simp only [List.length_map]
    split
    · simp
    · simp only [List.length_map]; omega
  · have := hd.ml
    unfold Dc.gd; simp only [List.length_map]
    split
    · simp only [List.length_map]; omega
    · simp
  · rw [ha] at hb; cases hb
    unfold Dc.gd at ha
    simp only at ha
    split at ha
    · simp at ha
    · rw [List.getElem?_map, List.getElem?_map] at ha
      cases h : d.fields[i]? with
      | none => rw [h] at ha; cases ha
      | some f => rw [h] at ha; cases ha; exact ⟨_, _, _, _, rfl, rfl, gt_same f.ty⟩
  · rw [ha] at hb; cases hb
    unfold Dc.gd at ha
    simp only at ha
    split at ha
    · rw [List.getElem?_map, List.getElem?_map] at ha
      cases h : d.methods[i]? with
      | none => rw [h] at ha; cases ha
      | some f => rw [h] at ha; cases ha; exact ⟨_, _, _, _, _, rfl, rfl⟩
    · simp at ha
theorem likeg_at : ∀ {a b : List GD}, LikeG a b → ∀ (i : Nat) (x y : GD), a[i]? = some x → b[i]? = some y → likeG x y
  | [], [], _, i, x, y, hx, _ => by simp at hx
  | x' :: a, y' :: b, h, 0, x, y, hx, hy => by cases hx; cases hy; exact h.1
  | x' :: a, y' :: b, h, i + 1, x, y, hx, hy => likeg_at h.2 i x y hx hy
theorem liked_at : ∀ {a b : List Dc}, LikeDs a b → ∀ (i : Nat) (x y : Dc), a[i]? = some x → b[i]? = some y → likeD x y
  | [], [], _, i, x, y, hx, _ => by simp at hx
  | x' :: a, y' :: b, h, 0, x, y, hx, hy => by cases hx; cases hy; exact h.1
  | x' :: a, y' :: b, h, i + 1, x, y, hx, hy => liked_at h.2 i x y hx hy
theorem sum_len : ∀ l : List GD, l.length ≤ sumW GD.wt l
  | [] => Nat.le_refl _
  | d :: r => by
    have := sum_len r
    show r.length + 1 ≤ d.wt + sumW GD.wt r
    have h1 : 1 ≤ d.wt := by unfold GD.wt; omega
    omega
theorem same_back {l : List GD} {xs l' : List Dc} (hx : ∀ x ∈ xs, DcOk x) (hn : xs.length ≤ 1000) (h1 : LikeG l (xs.map Dc.gd)) (h2 : LikeDs l' xs) (G : Glob) :
    CallOk Tryd.prog TT 28 [.slc 77 (l.map GD.av), .slc 77 (l'.map Dc.av), .bool false] G (fun v G' => v = .bool true ∧ G' = G) := by
  have n1 := h1.len
  have n2 := h2.len
  rw [List.length_map] at n1
  refine (same09_ok (A := l.map GD.av) (B := (l'.map Dc.gd).map GD.av) (by simp; omega) (by simp; omega) (fun i a b ha hb => ?_) G).args rfl fun i a ha => ?_
  · rw [List.getElem?_map] at ha hb
    rw [List.getElem?_map] at hb
    cases hx1 : l[i]? with
    | none => rw [hx1] at ha; cases ha
    | some x =>
      cases hy1 : l'[i]? with
      | none => rw [hy1] at hb; cases hb
      | some y =>
        rw [hx1] at ha; rw [hy1] at hb
        cases ha; cases hb
        obtain ⟨d, hd⟩ : ∃ d, xs[i]? = some d := ⟨_, List.getElem?_eq_getElem (by have := (List.getElem?_eq_some_iff.1 hx1).1; omega)⟩
        exact gd_same (hx d (List.mem_of_getElem? hd)) (likeg_at h1 i x _ hx1 (by rw [List.getElem?_map, hd]; rfl)) (like_gd (liked_at h2 i y d hy1 hd))
  · match i with
    | 0 => cases ha; exact ⟨_, rfl, fun g w u h => h⟩
    | 1 =>
      cases ha
      refine ⟨_, rfl, fun g w u h => ?_⟩
      rw [List.map_map]
      exact slc_map gd_to l' _ g w u h
    | 2 => cases ha; exact ⟨_, rfl, fun g w u h => h⟩
    | i + 3 => simp at ha
theorem showBack_ok (l : List GD) (hok : ∀ d ∈ l, d.ok) (hw : sumW GD.wt l + 1 ≤ 1048576) {G : Glob} (hL : LibOk G) : CallOk Tryd.prog TT 7 [.slc 77 (l.map GD.av)] G (fun v G' => v = .bool true ∧ G' = G) := by
  have hll := sum_len l
  have hgr := great_ok l (by omega) G
  have haw := awake10_ok hL
  have hb := declsG_bound l hok [] true
  have hbl : (declsG l [] true).1.length ≤ 140737488355328 := by simp only [List.length_nil] at hb; omega
  have ht := stext_ok l hok hL (.inr hbl)
  have hconv := decls_conv l [] true
  have hlk := @declsG_likeG l
  unfold textV at ht
  have e0 : Unit → ((S []).toList == (⟨#[]⟩ : ByteArray).toList) = true := fun _ => by simp [S]
  cases hg : greatG l 0 with
  | true =>
    rw [hg] at hgr
    refine call_sem tt_ok Tryd.func7 rfl (by kernel_rfl) Tryd.ntmps7 Tryd.results7 ?_; conv => whnf
    repeat' (first | ((first | refine Sem.reg tt_ok ?_ | refine Sem.condS ?_ | refine Sem.regL tt_ok ?_ | refine Sem.skip tt_ok ?_ | refine Sem.exit tt_ok ?_ | refine Sem.ret tt_ok ?_ | refine BS_t (by assumption) ?_ | refine BS_f (by assumption) ?_ | refine (nthK_iff _ _).2 ⟨_, (by assumption), ?_⟩ | refine ⟨_, ⟨(by omega), (by assumption)⟩, ?_⟩ | refine And.intro (by first | decide | omega) ?_ | fail); conv => whnf) | refine Sem.seqS ?_ | refine Sem.block ?_ | fail)
    refine hgr.on ?_; conv => whnf
    repeat' (first | ((first | refine Sem.reg tt_ok ?_ | refine Sem.condS ?_ | refine Sem.regL tt_ok ?_ | refine Sem.skip tt_ok ?_ | refine Sem.exit tt_ok ?_ | refine Sem.ret tt_ok ?_ | refine BS_t (by assumption) ?_ | refine BS_f (by assumption) ?_ | refine (nthK_iff _ _).2 ⟨_, (by assumption), ?_⟩ | refine ⟨_, ⟨(by omega), (by assumption)⟩, ?_⟩ | refine And.intro (by first | decide | omega) ?_ | fail); conv => whnf) | refine Sem.seqS ?_ | refine Sem.block ?_ | fail)
    refine haw.on ?_; conv => whnf
    repeat' (first | ((first | refine Sem.reg tt_ok ?_ | refine Sem.condS ?_ | refine Sem.regL tt_ok ?_ | refine Sem.skip tt_ok ?_ | refine Sem.exit tt_ok ?_ | refine Sem.ret tt_ok ?_ | refine BS_t (by assumption) ?_ | refine BS_f (by assumption) ?_ | refine (nthK_iff _ _).2 ⟨_, (by assumption), ?_⟩ | refine ⟨_, ⟨(by omega), (by assumption)⟩, ?_⟩ | refine And.intro (by first | decide | omega) ?_ | fail); conv => whnf) | refine Sem.seqS ?_ | refine Sem.block ?_ | fail)
    exact ⟨_, fun _ _ h => h, rfl, rfl⟩
  | false =>
    rw [hg] at hgr
    have none_ : ∀ e : Nat, e ≠ 0 → textG l = ([], e) → CallOk Tryd.prog TT 7 [.slc 77 (l.map GD.av)] G (fun v G' => v = .bool true ∧ G' = G) := fun e he hT => by
      rw [hT] at ht
      have t0 : ((((e : Nat) : Int)) != 0) = true := by simpa using he
      clear hb hbl hconv hlk hT
      refine call_sem tt_ok Tryd.func7 rfl (by kernel_rfl) Tryd.ntmps7 Tryd.results7 ?_; conv => whnf
      repeat' (first | ((first | refine Sem.reg tt_ok ?_ | refine Sem.condS ?_ | refine Sem.regL tt_ok ?_ | refine Sem.skip tt_ok ?_ | refine Sem.exit tt_ok ?_ | refine Sem.ret tt_ok ?_ | refine BS_t (by assumption) ?_ | refine BS_f (by assumption) ?_ | refine (nthK_iff _ _).2 ⟨_, (by assumption), ?_⟩ | refine ⟨_, ⟨(by omega), (by assumption)⟩, ?_⟩ | refine And.intro (by first | decide | omega) ?_ | fail); conv => whnf) | refine Sem.seqS ?_ | refine Sem.block ?_ | fail)
      refine hgr.on ?_; conv => whnf
      repeat' (first | ((first | refine Sem.reg tt_ok ?_ | refine Sem.condS ?_ | refine Sem.regL tt_ok ?_ | refine Sem.skip tt_ok ?_ | refine Sem.exit tt_ok ?_ | refine Sem.ret tt_ok ?_ | refine BS_t (by assumption) ?_ | refine BS_f (by assumption) ?_ | refine (nthK_iff _ _).2 ⟨_, (by assumption), ?_⟩ | refine ⟨_, ⟨(by omega), (by assumption)⟩, ?_⟩ | refine And.intro (by first | decide | omega) ?_ | fail); conv => whnf) | refine Sem.seqS ?_ | refine Sem.block ?_ | fail)
      refine ht.on ?_; conv => whnf
      repeat' (first | ((first | refine Sem.reg tt_ok ?_ | refine Sem.condS ?_ | refine Sem.regL tt_ok ?_ | refine Sem.skip tt_ok ?_ | refine Sem.exit tt_ok ?_ | refine Sem.ret tt_ok ?_ | refine BS_t (by assumption) ?_ | refine BS_f (by assumption) ?_ | refine (nthK_iff _ _).2 ⟨_, (by assumption), ?_⟩ | refine ⟨_, ⟨(by omega), (by assumption)⟩, ?_⟩ | refine And.intro (by first | decide | omega) ?_ | fail); conv => whnf) | refine Sem.seqS ?_ | refine Sem.block ?_ | fail)
      rw [e0 ()]
      conv => whnf
      repeat' (first | ((first | refine Sem.reg tt_ok ?_ | refine Sem.condS ?_ | refine Sem.regL tt_ok ?_ | refine Sem.skip tt_ok ?_ | refine Sem.exit tt_ok ?_ | refine Sem.ret tt_ok ?_ | refine BS_t (by assumption) ?_ | refine BS_f (by assumption) ?_ | refine (nthK_iff _ _).2 ⟨_, (by assumption), ?_⟩ | refine ⟨_, ⟨(by omega), (by assumption)⟩, ?_⟩ | refine And.intro (by first | decide | omega) ?_ | fail); conv => whnf) | refine Sem.seqS ?_ | refine Sem.block ?_ | fail)
      refine haw.on ?_; conv => whnf
      repeat' (first | ((first | refine Sem.reg tt_ok ?_ | refine Sem.condS ?_ | refine Sem.regL tt_ok ?_ | refine Sem.skip tt_ok ?_ | refine Sem.exit tt_ok ?_ | refine Sem.ret tt_ok ?_ | refine BS_t (by assumption) ?_ | refine BS_f (by assumption) ?_ | refine (nthK_iff _ _).2 ⟨_, (by assumption), ?_⟩ | refine ⟨_, ⟨(by omega), (by assumption)⟩, ?_⟩ | refine And.intro (by first | decide | omega) ?_ | fail); conv => whnf) | refine Sem.seqS ?_ | refine Sem.block ?_ | fail)
      exact ⟨_, fun _ _ h => h, rfl, rfl⟩
    by_cases h16 : 16 < l.length
    · exact none_ 3 (by decide) (by unfold textG; rw [if_pos h16])
    cases hb2 : (declsG l [] true).2 with
    | false => exact none_ 1 (by decide) (by unfold textG; rw [if_neg h16, if_neg (by simp [hb2])])
    | true =>
      clear none_
      obtain ⟨-, xs, q1, q2⟩ := hconv hb2
      have hxl : xs.length ≤ 16 := by have := q2.len; rw [List.length_map] at this; omega
      have hT : textG l = (showP xs, 0) := by
        unfold textG
        rw [if_neg h16, if_pos hb2, hlk q2, decls_show xs q1 []]
        rfl
      rw [hT] at ht
      have ht : CallOk Tryd.prog TT 26 [.slc 77 (l.map GD.av)] G (fun v G' => v = .tup [.str (S (showP xs)), .int .i64 0] ∧ G' = G) := ht
      have hsz := S_size (showP xs)
      clear hb hbl hconv hlk hT hb2
      by_cases hlong : 1024 < (showP xs).length
      · have c1 : decide ((((S (showP xs)).size : Nat) : Int) > 1024) = true := by rw [hsz, decide_eq_true_eq]; omega
        have hy := parse_is_ok (showP xs) G hL.1
        rw [parse_far hlong] at hy
        rw [show parseV (([] : List Dc), 3, 0) = .tup [.slc 77 [], .agg [.int .i64 3, .int .i64 0]] from rfl] at hy
        refine call_sem tt_ok Tryd.func7 rfl (by kernel_rfl) Tryd.ntmps7 Tryd.results7 ?_; conv => whnf
        repeat' (first | ((first | refine Sem.reg tt_ok ?_ | refine Sem.condS ?_ | refine Sem.regL tt_ok ?_ | refine Sem.skip tt_ok ?_ | refine Sem.exit tt_ok ?_ | refine Sem.ret tt_ok ?_ | refine BS_t (by assumption) ?_ | refine BS_f (by assumption) ?_ | refine (nthK_iff _ _).2 ⟨_, (by assumption), ?_⟩ | refine ⟨_, ⟨(by omega), (by assumption)⟩, ?_⟩ | refine And.intro (by first | decide | omega) ?_ | fail); conv => whnf) | refine Sem.seqS ?_ | refine Sem.block ?_ | fail)
        refine hgr.on ?_; conv => whnf
        repeat' (first | ((first | refine Sem.reg tt_ok ?_ | refine Sem.condS ?_ | refine Sem.regL tt_ok ?_ | refine Sem.skip tt_ok ?_ | refine Sem.exit tt_ok ?_ | refine Sem.ret tt_ok ?_ | refine BS_t (by assumption) ?_ | refine BS_f (by assumption) ?_ | refine (nthK_iff _ _).2 ⟨_, (by assumption), ?_⟩ | refine ⟨_, ⟨(by omega), (by assumption)⟩, ?_⟩ | refine And.intro (by first | decide | omega) ?_ | fail); conv => whnf) | refine Sem.seqS ?_ | refine Sem.block ?_ | fail)
        refine ht.on ?_; conv => whnf
        repeat' (first | ((first | refine Sem.reg tt_ok ?_ | refine Sem.condS ?_ | refine Sem.regL tt_ok ?_ | refine Sem.skip tt_ok ?_ | refine Sem.exit tt_ok ?_ | refine Sem.ret tt_ok ?_ | refine BS_t (by assumption) ?_ | refine BS_f (by assumption) ?_ | refine (nthK_iff _ _).2 ⟨_, (by assumption), ?_⟩ | refine ⟨_, ⟨(by omega), (by assumption)⟩, ?_⟩ | refine And.intro (by first | decide | omega) ?_ | fail); conv => whnf) | refine Sem.seqS ?_ | refine Sem.block ?_ | fail)
        refine hy.on ?_; conv => whnf
        repeat' (first | ((first | refine Sem.reg tt_ok ?_ | refine Sem.condS ?_ | refine Sem.regL tt_ok ?_ | refine Sem.skip tt_ok ?_ | refine Sem.exit tt_ok ?_ | refine Sem.ret tt_ok ?_ | refine BS_t (by assumption) ?_ | refine BS_f (by assumption) ?_ | refine (nthK_iff _ _).2 ⟨_, (by assumption), ?_⟩ | refine ⟨_, ⟨(by omega), (by assumption)⟩, ?_⟩ | refine And.intro (by first | decide | omega) ?_ | fail); conv => whnf) | refine Sem.seqS ?_ | refine Sem.block ?_ | fail)
        refine haw.on ?_; conv => whnf
        repeat' (first | ((first | refine Sem.reg tt_ok ?_ | refine Sem.condS ?_ | refine Sem.regL tt_ok ?_ | refine Sem.skip tt_ok ?_ | refine Sem.exit tt_ok ?_ | refine Sem.ret tt_ok ?_ | refine BS_t (by assumption) ?_ | refine BS_f (by assumption) ?_ | refine (nthK_iff _ _).2 ⟨_, (by assumption), ?_⟩ | refine ⟨_, ⟨(by omega), (by assumption)⟩, ?_⟩ | refine And.intro (by first | decide | omega) ?_ | fail); conv => whnf) | refine Sem.seqS ?_ | refine Sem.block ?_ | fail)
        exact ⟨_, fun _ _ h => h, rfl, rfl⟩
      · have c1 : decide ((((S (showP xs)).size : Nat) : Int) > 1024) = false := by rw [hsz, decide_eq_false_iff_not]; omega
        obtain ⟨l', p1, p2⟩ := parse_rt q1 hxl (by omega)
        have hy := parse_is_ok (showP xs) G hL.1
        rw [p1] at hy
        rw [show parseV (l', 0, 0) = .tup [.slc 77 (l'.map Dc.av), .agg [.int .i64 0, .int .i64 0]] from rfl] at hy
        have hs := same_back q1 (by omega) q2 p2 G
        refine call_sem tt_ok Tryd.func7 rfl (by kernel_rfl) Tryd.ntmps7 Tryd.results7 ?_; conv => whnf
        repeat' (first | ((first | refine Sem.reg tt_ok ?_ | refine Sem.condS ?_ | refine Sem.regL tt_ok ?_ | refine Sem.skip tt_ok ?_ | refine Sem.exit tt_ok ?_ | refine Sem.ret tt_ok ?_ | refine BS_t (by assumption) ?_ | refine BS_f (by assumption) ?_ | refine (nthK_iff _ _).2 ⟨_, (by assumption), ?_⟩ | refine ⟨_, ⟨(by omega), (by assumption)⟩, ?_⟩ | refine And.intro (by first | decide | omega) ?_ | fail); conv => whnf) | refine Sem.seqS ?_ | refine Sem.block ?_ | fail)
        refine hgr.on ?_; conv => whnf
        repeat' (first | ((first | refine Sem.reg tt_ok ?_ | refine Sem.condS ?_ | refine Sem.regL tt_ok ?_ | refine Sem.skip tt_ok ?_ | refine Sem.exit tt_ok ?_ | refine Sem.ret tt_ok ?_ | refine BS_t (by assumption) ?_ | refine BS_f (by assumption) ?_ | refine (nthK_iff _ _).2 ⟨_, (by assumption), ?_⟩ | refine ⟨_, ⟨(by omega), (by assumption)⟩, ?_⟩ | refine And.intro (by first | decide | omega) ?_ | fail); conv => whnf) | refine Sem.seqS ?_ | refine Sem.block ?_ | fail)
        refine ht.on ?_; conv => whnf
        repeat' (first | ((first | refine Sem.reg tt_ok ?_ | refine Sem.condS ?_ | refine Sem.regL tt_ok ?_ | refine Sem.skip tt_ok ?_ | refine Sem.exit tt_ok ?_ | refine Sem.ret tt_ok ?_ | refine BS_t (by assumption) ?_ | refine BS_f (by assumption) ?_ | refine (nthK_iff _ _).2 ⟨_, (by assumption), ?_⟩ | refine ⟨_, ⟨(by omega), (by assumption)⟩, ?_⟩ | refine And.intro (by first | decide | omega) ?_ | fail); conv => whnf) | refine Sem.seqS ?_ | refine Sem.block ?_ | fail)
        refine hy.on ?_; conv => whnf
        repeat' (first | ((first | refine Sem.reg tt_ok ?_ | refine Sem.condS ?_ | refine Sem.regL tt_ok ?_ | refine Sem.skip tt_ok ?_ | refine Sem.exit tt_ok ?_ | refine Sem.ret tt_ok ?_ | refine BS_t (by assumption) ?_ | refine BS_f (by assumption) ?_ | refine (nthK_iff _ _).2 ⟨_, (by assumption), ?_⟩ | refine ⟨_, ⟨(by omega), (by assumption)⟩, ?_⟩ | refine And.intro (by first | decide | omega) ?_ | fail); conv => whnf) | refine Sem.seqS ?_ | refine Sem.block ?_ | fail)
        refine hs.on ?_; conv => whnf
        repeat' (first | ((first | refine Sem.reg tt_ok ?_ | refine Sem.condS ?_ | refine Sem.regL tt_ok ?_ | refine Sem.skip tt_ok ?_ | refine Sem.exit tt_ok ?_ | refine Sem.ret tt_ok ?_ | refine BS_t (by assumption) ?_ | refine BS_f (by assumption) ?_ | refine (nthK_iff _ _).2 ⟨_, (by assumption), ?_⟩ | refine ⟨_, ⟨(by omega), (by assumption)⟩, ?_⟩ | refine And.intro (by first | decide | omega) ?_ | fail); conv => whnf) | refine Sem.seqS ?_ | refine Sem.block ?_ | fail)
        refine haw.on ?_; conv => whnf
        repeat' (first | ((first | refine Sem.reg tt_ok ?_ | refine Sem.condS ?_ | refine Sem.regL tt_ok ?_ | refine Sem.skip tt_ok ?_ | refine Sem.exit tt_ok ?_ | refine Sem.ret tt_ok ?_ | refine BS_t (by assumption) ?_ | refine BS_f (by assumption) ?_ | refine (nthK_iff _ _).2 ⟨_, (by assumption), ?_⟩ | refine ⟨_, ⟨(by omega), (by assumption)⟩, ?_⟩ | refine And.intro (by first | decide | omega) ?_ | fail); conv => whnf) | refine Sem.seqS ?_ | refine Sem.block ?_ | fail)
        exact ⟨_, fun _ _ h => h, rfl, rfl⟩
theorem max_nostr {w : World} (h : w.ShapedOpen Tryd.prog) : ∀ off s, w.cell? ⟨lays144_ren.g 1, off, none⟩ ≠ some (.string s) := by
  intro off s hc
  obtain ⟨m, hm⟩ := max_cell h
  obtain ⟨cs, hh, hs, _⟩ := h.1 (lays144_ren.g 1) #[.int .i64 0] 3 (of_decide_eq_true (by kernel_rfl)) (by kernel_rfl)
  cases off with
  | zero => rw [hm] at hc; cases hc
  | succ off =>
    simp only [World.cell?, hh] at hc
    have hs1 : cs.size = 1 := hs
    rw [Array.getElem?_eq_none (by omega)] at hc
    cases hc
theorem pow_nostr {w : World} (h : Lib.TabIs Tryd.prog w "internal/strconv.uint64pow10" .u64 Lib.pow10Tab) : ∀ off s, w.cell? ⟨lays171_ren.g 17, off, none⟩ ≠ some (.string s) := by
  intro off s hc
  by_cases ho : off < Lib.pow10Tab.length
  · rw [h.cell laysm171.m17 off ho] at hc; cases hc
  · unfold Lib.TabIs World.var? at h
    rw [laysm171.m17, Option.bind_some] at h
    cases hb : w.heap[lays171_ren.g 17]? with
    | none => rw [hb] at h; cases h
    | some o =>
      rw [hb] at h
      cases o with
      | cells cs t f =>
        simp only [Option.some.injEq] at h
        simp only [World.cell?, hb, h] at hc
        rw [Array.getElem?_eq_none (by simp; omega)] at hc
        cases hc
      | _ => cases h
theorem showBack_walk {H : Type} {enc : TypeId × Value → H} {base : Nat} {spare : Nat → Bool} {held : Bool} {r : Reach} {b0 : Nat} {v : Value} {d : DataW H} {p : List MemPlace} {w : World} (hv : Value.okWide Tryd.prog w r b0 34 v) (h : DataW.Trod enc Tryd.prog w base spare held 34 v d p) (hk : Rows.uptoSmall H ([d] ++ []) = true) (_ : World) (hsh : w.ShapedOpen Tryd.prog) (hlaid : laidMetH Tryd.prog Rows.showBackUptoRow.laid w) :
    Calls Tryd.prog 7 #[v] w (Gives w (.bool true)) := by
  obtain ⟨m, hm⟩ := max_cell hsh
  obtain ⟨o, ho⟩ : ∃ o, w.heap[lays144_ren.g 1]? = some o := by
    cases h : w.heap[lays144_ren.g 1]? with
    | none => simp [World.cell?, h] at hm
    | some o => exact ⟨o, rfl⟩
  have ht := pow_tab hlaid
  obtain ⟨o2, ho2⟩ := pow_obj ht
  have hne : lays144_ren.g 1 ≠ lays171_ren.g 17 := by decide
  have hM : MaxOk (globQ (lays144_ren.g 1) o (lays171_ren.g 17) o2) := by
    refine ⟨0, o, m, globQ_0 _ _ _ _, fun w' hw' => ?_⟩
    rw [← hm]
    simp only [World.cell?, ho, hw']
  have hP : PowOk (globQ (lays144_ren.g 1) o (lays171_ren.g 17) o2) := pow_pin ho2 ht (globQ_1 _ _ _ _)
  have hfr : FrzS (ghQ (lays144_ren.g 1) (lays171_ren.g 17)) w := fun b off s i hc => by
    have h1 : b ≠ lays144_ren.g 1 := fun e => by subst e; exact max_nostr hsh off s hc
    have h2 : b ≠ lays171_ren.g 17 := fun e => by subst e; exact pow_nostr ht off s hc
    unfold Gh.frz ghQ
    simp only [if_neg h1, if_neg h2]
    trivial
  obtain ⟨l, hz, hok, hb⟩ := decls_arg hfr hv h
  have hk : Rows.uptoBulkAll [d] ≤ 1048576 := by simpa [Rows.uptoSmall] using hk
  have hk : Rows.uptoBulk d + 0 ≤ 1048576 := hk
  refine law_pin2 hne (showBack_ok l hok (by omega) ⟨hM, hP⟩) (fun v G h => ⟨h.1, by rw [h.2]; exact ⟨globQ_0 _ _ _ _, globQ_1 _ _ _ _⟩⟩) ho ho2 rfl fun i a u ha hu => ?_
  match i with
  | 0 => simp at ha hu; subst ha hu; exact hz
  | i + 1 => simp at ha
set_option linter.unusedVariables false in
set_option maxRecDepth 100000 in
theorem showBack_contract (H : Type) (enc : TypeId × Value → H) (W : World) (base : Nat) (args : Array Value) (ds gs : List (DataW H)) (before : List MemPlace)
    (hval : ∀ (j : Nat) t v, Tryd.f7.params[j]? = some t → args[j]? = some v → Value.okWide Tryd.prog W .any base t v)
    (hW : DataW.Whole enc Tryd.prog Tryd.f7.params.toList Rows.showBackSpec.vars false W args.toList ds gs before)
    (hsz : (DataW.weightsEach Tryd.prog (Tryd.f7.params.toList ++ ((Rows.OpenSpec.upto Rows.showBackSpec).bare).plain.varTypes Tryd.prog) (ds ++ gs)).all (· ≤ reachBytes) = true) (hk : Rows.uptoSmall H (ds ++ gs) = true) (hsh : W.ShapedOpen Tryd.prog) (hlaid : laidMetH Tryd.prog Rows.showBackUptoRow.laid W) :
    Calls Tryd.prog 7 args W fun e W' => ∃ v, e = .returned v ∧ Rows.showBackSpec.post enc Tryd.prog Tryd.f7 false true false false W args v W' := by
  have hW' := hW
  obtain ⟨p, q, hA0, hV, rfl, hfz, hnd⟩ := hW
  have hA : DataW.TrodAll enc Tryd.prog W 0 (fun _ => true) true Tryd.f7.params.toList args.toList ds p := hA0
  rw [Tryd.params7] at hA hval hsz
  obtain ⟨v0, vs0, d0, ds0, p0, q0, hargs, rfl, rfl, h0, r0⟩ := trodAll_cons hA
  obtain ⟨rfl, rfl, rfl⟩ := trodAll_nil r0
  obtain rfl : args = #[v0] := by cases args; simp_all
  obtain ⟨rfl, rfl⟩ := trodVars_none hV
  clear hA0
  have g0 := hval 0 34 v0 rfl rfl
  refine (showBack_walk g0 h0 hk W hsh hlaid).mono fun e W' ⟨he, hu⟩ => ?_
  subst he
  exact ⟨_, rfl, post_true laidOut (by kernel_rfl) Tryd.underlying4 rfl rfl hW' rfl hu⟩

theorem showBack_closed : joinedFacts Tryd.prog 7 Tryd.f7 (Rows.OpenSpec.upto Rows.showBackSpec).bare Rows.showBackUptoRow = true := by
  unfold joinedFacts
  rw [fact_mayEnter, fact_lifted, fact_make]
  kernel_rfl

set_option maxRecDepth 100000 in
theorem showBack_met (os : Os) (args : Array Value) : laidMetH Tryd.prog Rows.showBackUptoRow.laid ((World.doorLaid Tryd.prog 34 os).forCall (fun _ _ => 0) ⟨#[], args, []⟩).memory :=
  laidMetH_of_parts3 (fuel := 8) (laidMet_of_run' 8 (by kernel_rfl) (by kernel_rfl)) (by kernel_rfl) (by kernel_rfl)

set_option maxRecDepth 100000 in
theorem showBack_lifted (os : Os) (started : os.Started) (H : Type) (enc : TypeId × Value → H) (F : Stop.Interp) :
    ReturnsInHanded {} Tryd.checked os 7 .any ((Rows.OpenSpec.upto Rows.showBackSpec).preRow enc Tryd.prog Tryd.f7 Rows.showBackUptoRow.domain false Rows.showBackUptoRow.laid) (((Rows.OpenSpec.upto Rows.showBackSpec).at F).post enc Tryd.prog Tryd.f7 false true false false) := by
  obtain ⟨places, hx⟩ : ∃ places, DataW.whole enc Tryd.prog ((World.doorLaid Tryd.prog 34 os).forCall (fun _ _ => 0) ⟨#[], #[.slice none 0 0], []⟩).memory Tryd.f7.params.toList Rows.showBackSpec.vars false #[.slice none 0 0].toList 8 = some ([.nil], [], places) := ⟨[], by kernel_rfl⟩
  refine returnsInHanded_of_row (C := Tryd.checked) (s := Rows.OpenSpec.upto Rows.showBackSpec) own started (by kernel_rfl) Tryd.func7
    (witness_row_atRef (enc := enc) (C := Tryd.checked) false (World.doorLaid Tryd.prog 34 os) #[.slice none 0 0] rfl (by kernel_rfl) (by kernel_rfl) (by kernel_rfl)
      (OpenSpec.preRow_of_cond 8 hx (by kernel_rfl) (fun k hk => by cases hk; kernel_rfl) (by kernel_rfl) (showBack_met os _))) ?_
  intro W base args ds gs before hval hW _ hcond hsz hlaid hsh _
  exact showBack_contract H enc W base args ds gs before hval hW hsz (hcond _ rfl) hsh hlaid

theorem showBack_over : Rows.ShowBackUptoSaid :=
  OpenClaim.holds_of_cond 7 Tryd.f7 rfl rfl rfl rfl rfl rfl rfl ⟨rfl, rfl, rfl, rfl, rfl⟩ rfl rfl rfl rfl rfl (by kernel_rfl) Tryd.func7 showBack_closed
    (of_decide_eq_true (by kernel_rfl)) (by unfold Func.isWrapper; rw [if_neg (by decide +kernel)]; exact ⟨rfl, rfl⟩)
    (fun os started H enc _ F => by rw [OpenClaim.pre_eq_preRow]; exact showBack_lifted os started H enc F)

theorem showBack_holds : Rows.ShowBackUptoCardSaid :=
  Claim7.holds_tied_plain_at .later [] [.data, .data, .data] true (true, "7f7760fdde504f294d5caffa4827039b26592c8ec7ae70830de51a631cc73da0") true
    showBack_over (fun _ h => by cases h) (by kernel_rfl) (fun _ h => by cases h) showBackUpto_row_tie rfl ⟨rfl, rfl⟩ (by kernel_rfl) rfl
    (fun f fn hf hfn => by
      obtain rfl : f = 7 := Option.some.inj ((show Tryd.prog.funcNamed "concourse/concourselaw10.ShowBack" = some 7 by kernel_rfl).symm.trans hf) |>.symm
      obtain rfl : fn = Tryd.f7 := (Option.some.inj (Tryd.func7.symm.trans hfn)).symm
      exact ⟨by kernel_rfl, fun j t ht => by
        have hall : (Tryd.f7.params.all fun u => !Tryd.prog.wantsStandIn u) = true := by kernel_rfl
        have := Array.all_eq_true_iff_forall_mem.1 hall t (Array.mem_of_getElem? ht)
        exact (by simpa using this : Tryd.prog.wantsStandIn t = false)⟩)
    (by kernel_rfl)
end Go.Proofs.YtofhakbmmgpgdaaDoor
