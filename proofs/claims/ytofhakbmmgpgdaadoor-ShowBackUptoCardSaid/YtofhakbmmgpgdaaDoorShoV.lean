/- What may be told comes of what a parser could have given; how long a text is: plain law. -/
import Derived.Test.YtofhakbmmgpgdaaDoorGh
import Derived.Test.YtofhakbmmgpgdaaDoorRdd
set_option linter.unusedSimpArgs false
namespace Go.Proofs.YtofhakbmmgpgdaaDoor
open Go Go.RowKit

theorem typG_no (t : GT) (deep : Nat) (s : List UInt8) : typG t deep s false = (s, false) := by
  obtain ⟨k, nm, of⟩ := t
  rw [typG_mk, if_pos (.inr rfl)]
theorem len_one {α : Type} {l : List α} (h : l.length = 1) : ∃ a, l = [a] := List.length_eq_one_iff.1 h
theorem len_two {α : Type} {l : List α} (h : l.length = 2) : ∃ a b, l = [a, b] := by match l, h with | [a, b], _ => exact ⟨a, b, rfl⟩
theorem typ_conv : ∀ (t : GT) (deep : Nat) (s : List UInt8), (typG t deep s true).2 = true → deep ≤ 8 ∧ ∃ ty : Ty, TyOk (9 - deep) ty ∧ t = ty.gt :=
  GT.ind fun k nm of ih deep s h => by
    rw [typG_mk] at h
    cases hb : badT deep k nm of.length with
    | true => rw [hb, if_pos (.inl rfl)] at h; cases h
    | false =>
      rw [hb, if_neg (by simp)] at h
      unfold badT at hb
      simp only [Bool.or_eq_false_iff, decide_eq_false_iff_not, Bool.and_eq_false_iff, Bool.not_eq_false', decide_eq_true_eq] at hb
      obtain ⟨d1, d2, d3⟩ := hb
      refine ⟨by omega, ?_⟩
      obtain ⟨n, hn⟩ : ∃ n, 9 - deep = n + 1 := ⟨8 - deep, by omega⟩
      rw [hn]
      by_cases k6 : k = 6
      · rw [if_pos k6] at h
        subst k6
        have : of = [] := List.eq_nil_of_length_eq_zero d2
        subst this
        exact ⟨.named nm, by simpa only [TyOk] using h, rfl⟩
      · rw [if_neg k6] at h
        have hnm : nm = [] := by rcases d3 with h | h; exact absurd h k6; exact h
        subst hnm
        by_cases k9 : k = 9
        · rw [if_pos k9] at h
          subst k9
          obtain ⟨t0, rfl⟩ := len_one (show of.length = 1 from d2)
          rw [optG] at h
          have h : (typG t0 deep s (!(t0.kind == 9))).2 = true := h
          cases hk : (t0.kind == 9) with
          | true => rw [hk, Bool.not_true, typG_no] at h; cases h
          | false =>
            rw [hk, Bool.not_false] at h
            obtain ⟨_, ty, q1, rfl⟩ := ih t0 (by simp) deep s h
            rw [hn] at q1
            refine ⟨.opt ty, ?_, rfl⟩
            simp only [TyOk]
            refine ⟨?_, q1⟩
            cases ty with
            | opt t => exact absurd hk (by show ¬ (((9 : Int) == 9) = false); decide)
            | _ => rfl
        · rw [if_neg k9] at h
          by_cases hw : wordT k = []
          · rw [if_pos hw] at h; cases h
          · rw [if_neg hw] at h
            have h : (rowG of (deep + 1) 0 (s ++ wordT k) true).2 = true := h
            have hk : k = 1 ∨ k = 2 ∨ k = 3 ∨ k = 4 ∨ k = 5 ∨ k = 7 ∨ k = 8 := by
              unfold wordT at hw
              by_cases h1 : k = 1; · omega
              by_cases h2 : k = 2; · omega
              by_cases h3 : k = 3; · omega
              by_cases h4 : k = 4; · omega
              by_cases h5 : k = 5; · omega
              by_cases h7 : k = 7; · omega
              by_cases h8 : k = 8; · omega
              rw [if_neg h1, if_neg h2, if_neg h3, if_neg h4, if_neg h5, if_neg h7, if_neg h8] at hw
              exact absurd rfl hw
            have leaf : (k = 1 ∨ k = 2 ∨ k = 3 ∨ k = 4 ∨ k = 5) → ∃ ty : Ty, TyOk (n + 1) ty ∧ GT.mk k [] of = ty.gt := fun hk5 => by
              have h0 : of = [] := List.eq_nil_of_length_eq_zero (by rw [d2]; unfold arityT; rw [if_neg (by omega), if_neg (by omega)])
              refine ⟨.leaf k.toNat, by simp only [TyOk]; omega, ?_⟩
              rw [h0, Ty.gt]
              congr 1; omega
            rcases hk with hk | hk | hk | hk | hk | hk | hk
            · exact leaf (by omega)
            · exact leaf (by omega)
            · exact leaf (by omega)
            · exact leaf (by omega)
            · exact leaf (by omega)
            · subst hk
              obtain ⟨t0, rfl⟩ := len_one (show of.length = 1 from d2)
              rw [rowG, rowG] at h
              obtain ⟨q0, ty, q1, rfl⟩ := ih t0 (by simp) (deep + 1) _ h
              rw [show 9 - (deep + 1) = n by omega] at q1
              exact ⟨.list ty, by simpa only [TyOk] using q1, rfl⟩
            · subst hk
              obtain ⟨a, b, rfl⟩ := len_two (show of.length = 2 from d2)
              rw [rowG, rowG, rowG] at h
              cases ha : (typG a (deep + 1) (s ++ wordT 8 ++ sepT 0) true).2 with
              | false => rw [ha, typG_no] at h; cases h
              | true =>
                rw [ha] at h
                obtain ⟨_, ta, q1, rfl⟩ := ih a (by simp) (deep + 1) _ ha
                obtain ⟨_, tb, q2, rfl⟩ := ih b (by simp) (deep + 1) _ h
                rw [show 9 - (deep + 1) = n by omega] at q1 q2
                exact ⟨.map ta tb, by simpa only [TyOk] using ⟨q1, q2⟩, rfl⟩
theorem tag_conv {n : Int} (h : tagOk n = true) : ∃ k : Nat, k ≤ 9999 ∧ n = (k : Int) := by
  unfold tagOk at h
  simp only [Bool.and_eq_true, decide_eq_true_eq] at h
  exact ⟨n.toNat, by omega, by omega⟩
theorem field_conv {en : Bool} {f : GF} {s : List UInt8} {ok : Bool} (h : (fieldG en f s ok).2 = true) : ok = true ∧ ∃ x : Fd, FdOk en x ∧ f = x.gf := by
  obtain ⟨tg, nm, ty⟩ := f
  unfold fieldG at h
  cases en with
  | true =>
    rw [if_pos rfl] at h
    simp only [Bool.and_eq_true] at h
    obtain ⟨⟨⟨h0, h1⟩, h2⟩, h3⟩ := h
    obtain ⟨k, hk, rfl⟩ := tag_conv h1
    obtain ⟨k0, n0, of0⟩ := ty
    unfold noTy GT.kind GT.name GT.of at h3
    simp only [Bool.and_eq_true, decide_eq_true_eq] at h3
    obtain ⟨rfl, rfl, h5⟩ := h3
    have := List.eq_nil_of_length_eq_zero h5
    subst this
    exact ⟨h0, ⟨k, nm, .leaf 0⟩, ⟨hk, h2, by rw [if_pos rfl]⟩, rfl⟩
  | false =>
    rw [if_neg (by decide)] at h
    simp only at h
    cases hok : (ok && tagOk tg && nameOk nm) with
    | false => rw [hok, typG_no] at h; cases h
    | true =>
      rw [hok] at h
      simp only [Bool.and_eq_true] at hok
      obtain ⟨⟨h0, h1⟩, h2⟩ := hok
      obtain ⟨k, hk, rfl⟩ := tag_conv h1
      obtain ⟨_, t, q1, rfl⟩ := typ_conv ty 0 _ h
      exact ⟨h0, ⟨k, nm, t⟩, ⟨hk, h2, by rw [if_neg (by decide)]; exact q1⟩, rfl⟩
theorem method_conv {m : GM} {s : List UInt8} {ok : Bool} (h : (methodG m s ok).2 = true) : ok = true ∧ ∃ x : Md, MdOk x ∧ m = x.gm := by
  obtain ⟨tg, nm, inn, out, ow⟩ := m
  unfold methodG at h
  simp only [Bool.and_eq_true] at h
  obtain ⟨⟨⟨⟨h0, h1⟩, h2⟩, h3⟩, h4⟩ := h
  obtain ⟨k, hk, rfl⟩ := tag_conv h1
  exact ⟨h0, ⟨k, nm, inn, out, ow⟩, ⟨hk, h2, h3, h4⟩, rfl⟩
theorem fields_conv {en : Bool} : ∀ (l : List GF) (s : List UInt8) (ok : Bool), (fieldsG en l s ok).2 = true → ok = true ∧ ∃ xs : List Fd, (∀ x ∈ xs, FdOk en x) ∧ l = xs.map Fd.gf
  | [], _, _, h => ⟨h, [], fun x hx => (by cases hx), rfl⟩
  | f :: r, s, ok, h => by
    rw [fieldsG] at h
    obtain ⟨h1, xs, h2, rfl⟩ := fields_conv r _ _ h
    obtain ⟨h3, x, h4, rfl⟩ := field_conv h1
    refine ⟨h3, x :: xs, fun y hy => ?_, rfl⟩
    rcases List.mem_cons.1 hy with rfl | hy
    · exact h4
    · exact h2 y hy
theorem methods_conv : ∀ (l : List GM) (s : List UInt8) (ok : Bool), (methodsG l s ok).2 = true → ok = true ∧ ∃ xs : List Md, (∀ x ∈ xs, MdOk x) ∧ l = xs.map Md.gm
  | [], _, _, h => ⟨h, [], fun x hx => (by cases hx), rfl⟩
  | f :: r, s, ok, h => by
    rw [methodsG] at h
    obtain ⟨h1, xs, h2, rfl⟩ := methods_conv r _ _ h
    obtain ⟨h3, x, h4, rfl⟩ := method_conv h1
    refine ⟨h3, x :: xs, fun y hy => ?_, rfl⟩
    rcases List.mem_cons.1 hy with rfl | hy
    · exact h4
    · exact h2 y hy
/-- the same but for the place -/
def likeG (x y : GD) : Prop := x.kind = y.kind ∧ x.name = y.name ∧ x.fields = y.fields ∧ x.methods = y.methods
theorem decl_conv {d : GD} {s : List UInt8} {ok : Bool} (h : (declG d s ok).2 = true) : ok = true ∧ ∃ x : Dc, DcOk x ∧ likeG d x.gd := by
  obtain ⟨kd, nm, fs, ms, pa⟩ := d
  unfold declG at h
  cases hb : badD kd fs.length ms.length with
  | true => rw [if_pos hb] at h; cases h
  | false =>
    rw [if_neg (by simp [hb])] at h
    simp only at h
    obtain ⟨h1, mx, h2, rfl⟩ := methods_conv _ _ _ h
    obtain ⟨h3, fx, h4, rfl⟩ := fields_conv _ _ _ h1
    simp only [Bool.and_eq_true] at h3
    unfold badD at hb
    simp only [List.length_map, Bool.or_eq_false_iff, decide_eq_false_iff_not, Bool.and_eq_false_iff, Bool.not_eq_false', decide_eq_true_eq] at hb
    obtain ⟨b1, b2, b3, b4, b5, b6⟩ := hb
    obtain ⟨k, rfl⟩ : ∃ k : Nat, kd = (k : Int) := ⟨kd.toNat, by omega⟩
    have he : (((k : Nat) : Int) == 3) = decide (k = 3) := by rw [Bool.eq_iff_iff]; simp; omega
    rw [he] at h4
    have f4 : k = 4 → fx = [] := fun h => List.eq_nil_of_length_eq_zero (by omega)
    have m4 : k ≠ 4 → mx = [] := fun h => List.eq_nil_of_length_eq_zero (by omega)
    refine ⟨h3.1, ⟨k, nm, fx, mx, 0⟩, ⟨by show 1 ≤ k; omega, by show k ≤ 4; omega, h3.2, by show fx.length ≤ 16; omega, by show mx.length ≤ 16; omega, f4, m4, h4, h2⟩, rfl, rfl, ?_, ?_⟩
    · show fx.map Fd.gf = if k = 4 then [] else fx.map Fd.gf
      by_cases hk : k = 4
      · rw [if_pos hk, f4 hk]; rfl
      · rw [if_neg hk]
    · show mx.map Md.gm = if k = 4 then mx.map Md.gm else []
      by_cases hk : k = 4
      · rw [if_pos hk]
      · rw [if_neg hk, m4 hk]; rfl
def LikeG : List GD → List GD → Prop
  | [], [] => True
  | x :: r, y :: s => likeG x y ∧ LikeG r s
  | _, _ => False
theorem LikeG.len : ∀ {a b : List GD}, LikeG a b → a.length = b.length
  | [], [], _ => rfl
  | _ :: _, _ :: _, h => by simp [LikeG.len h.2]
theorem decls_conv : ∀ (l : List GD) (s : List UInt8) (ok : Bool), (declsG l s ok).2 = true → ok = true ∧ ∃ xs : List Dc, (∀ x ∈ xs, DcOk x) ∧ LikeG l (xs.map Dc.gd)
  | [], _, _, h => ⟨h, [], fun x hx => (by cases hx), trivial⟩
  | f :: r, s, ok, h => by
    rw [declsG] at h
    obtain ⟨h1, xs, h2, h5⟩ := decls_conv r _ _ h
    obtain ⟨h3, x, h4, h6⟩ := decl_conv h1
    refine ⟨h3, x :: xs, fun y hy => ?_, h6, h5⟩
    rcases List.mem_cons.1 hy with rfl | hy
    · exact h4
    · exact h2 y hy
theorem declsG_likeG : ∀ {a b : List GD}, LikeG a b → ∀ (s : List UInt8) (ok : Bool), declsG a s ok = declsG b s ok
  | [], [], _, _, _ => rfl
  | x :: a, y :: b, h, s, ok => by rw [declsG, declsG, declG_like h.1, declsG_likeG h.2]
/-- how long a text is -/
theorem row_bound {l : List GT} (h : ∀ x ∈ l, ∀ deep s ok, (typG x deep s ok).1.length ≤ s.length + 9 * x.wt) : ∀ (deep i : Nat) (s : List UInt8) (ok : Bool), (rowG l deep i s ok).1.length ≤ s.length + l.length + 9 * GT.wts l := by
  induction l with
  | nil => intro deep i s ok; rw [rowG]; show s.length ≤ _; omega
  | cons t r ih =>
    intro deep i s ok
    rw [rowG, GT.wts]
    have h1 := h t (by simp) deep (s ++ sepT i) ok
    have h2 := ih (fun x hx => h x (by simp [hx])) deep (i + 1) (typG t deep (s ++ sepT i) ok).1 (typG t deep (s ++ sepT i) ok).2
    have h3 : (sepT i).length = 1 := by unfold sepT; split <;> rfl
    rw [List.length_append, h3] at h1
    simp only [List.length_cons]
    omega
theorem word_len (k : Int) : (wordT k).length ≤ 5 := by
  unfold wordT
  repeat' split
  all_goals simp
theorem typ_bound : ∀ (t : GT) (deep : Nat) (s : List UInt8) (ok : Bool), (typG t deep s ok).1.length ≤ s.length + 9 * t.wt :=
  GT.ind fun k nm of ih deep s ok => by
    rw [typG_mk, GT.wt]
    split
    · simp only; omega
    · rename_i hb
      have hn : of.length ≤ 2 := by
        simp only [not_or] at hb
        have hb1 := hb.1
        unfold badT at hb1
        simp only [Bool.not_eq_true, Bool.or_eq_false_iff, decide_eq_false_iff_not, Bool.not_eq_false', decide_eq_true_eq] at hb1
        rw [hb1.2.1]; unfold arityT; split; omega; split <;> omega
      split
      · simp only [List.length_append]; omega
      · split
        · cases of with
          | nil => rw [optG]; simp only; omega
          | cons t r =>
            rw [optG, GT.wts]
            have := ih t (by simp) deep s (!(t.kind == 9))
            simp only [List.length_append, List.length_cons, List.length_nil]; omega
        · split
          · simp only; omega
          · have h1 := row_bound ih (deep + 1) 0 (s ++ wordT k) true
            have h2 := word_len k
            have h3 : (if of.length = 0 then ([] : List UInt8) else [62]).length ≤ 1 := by split <;> simp
            rw [List.length_append] at h1
            simp only [List.length_append]
            omega
theorem dec_le : ∀ (k n : Nat), n < 10 ^ (k + 1) → (Lib.decDigits n).length ≤ k + 1 := by
  intro k
  induction k with
  | zero => intro n h; rw [dec_small (by omega)]; simp
  | succ k ih =>
    intro n h
    by_cases h0 : n < 10
    · rw [dec_small h0]; simp
    · rw [dec_big h0, List.length_append]
      have h' : n < 10 ^ (k + 1) * 10 := by rwa [← Nat.pow_succ]
      have := ih (n / 10) (by omega)
      simp only [List.length_singleton]; omega
theorem itoa_len {n : Int} (h : InI n) : (Lib.itoa n).length ≤ 20 := by
  unfold InI at h
  unfold Lib.itoa
  split
  · have := dec_le 18 n.natAbs (by omega)
    simp only [List.length_cons]; omega
  · have := dec_le 18 n.toNat (by omega)
    omega
theorem fieldG_bound (en : Bool) {f : GF} (hi : InI f.tag) (s : List UInt8) (ok : Bool) : (fieldG en f s ok).1.length ≤ s.length + 40 * f.wt := by
  have h1 := itoa_len hi
  have h2 := typ_bound f.ty 0 (headG f s ++ [58, 32]) (ok && tagOk f.tag && nameOk f.name)
  have h3 : (headG f s).length ≤ s.length + f.name.length + 22 := by unfold headG; simp only [List.flatten_cons, List.flatten_nil, List.length_append, List.length_cons, List.length_nil]; omega
  rw [List.length_append] at h2
  simp only [List.length_cons, List.length_nil] at h2
  unfold fieldG GF.wt
  split <;> (simp only [List.length_append, List.length_cons, List.length_nil]; omega)
theorem methodG_bound {m : GM} (hi : InI m.tag) (s : List UInt8) (ok : Bool) : (methodG m s ok).1.length ≤ s.length + 40 * m.wt := by
  have h1 := itoa_len hi
  unfold methodG GM.wt
  cases m.oneway <;> (simp only [if_true, Bool.false_eq_true, if_false, List.flatten_cons, List.flatten_nil, List.length_append, List.length_cons, List.length_nil]; omega)
theorem fieldsG_bound (en : Bool) : ∀ (l : List GF), (∀ f ∈ l, InI f.tag) → ∀ (s : List UInt8) (ok : Bool), (fieldsG en l s ok).1.length ≤ s.length + 40 * sumW GF.wt l
  | [], _, s, ok => by rw [fieldsG]; simp only; omega
  | f :: r, h, s, ok => by
    rw [fieldsG]
    have h1 := fieldG_bound en (h f (by simp)) s ok
    have h2 := fieldsG_bound en r (fun x hx => h x (by simp [hx])) (fieldG en f s ok).1 (fieldG en f s ok).2
    show _ ≤ s.length + 40 * (f.wt + sumW GF.wt r)
    omega
theorem methodsG_bound : ∀ (l : List GM), (∀ f ∈ l, InI f.tag) → ∀ (s : List UInt8) (ok : Bool), (methodsG l s ok).1.length ≤ s.length + 40 * sumW GM.wt l
  | [], _, s, ok => by rw [methodsG]; simp only; omega
  | f :: r, h, s, ok => by
    rw [methodsG]
    have h1 := methodG_bound (h f (by simp)) s ok
    have h2 := methodsG_bound r (fun x hx => h x (by simp [hx])) (methodG f s ok).1 (methodG f s ok).2
    show _ ≤ s.length + 40 * (f.wt + sumW GM.wt r)
    omega
theorem declG_bound {d : GD} (h : d.ok) (s : List UInt8) (ok : Bool) : (declG d s ok).1.length ≤ s.length + 40 * d.wt := by
  unfold declG
  split
  · simp only; omega
  · have hk : (kwT d.kind).length ≤ 7 := by
      unfold kwT
      repeat' split
      all_goals simp
    have h1 := fieldsG_bound (d.kind == 3) d.fields h.1 (s ++ [kwT d.kind, [32], d.name, [32, 123]].flatten) (ok && nameOk d.name)
    have h2 := methodsG_bound d.methods h.2 (fieldsG (d.kind == 3) d.fields (s ++ [kwT d.kind, [32], d.name, [32, 123]].flatten) (ok && nameOk d.name)).1 (fieldsG (d.kind == 3) d.fields (s ++ [kwT d.kind, [32], d.name, [32, 123]].flatten) (ok && nameOk d.name)).2
    have h3 : (s ++ [kwT d.kind, [32], d.name, [32, 123]].flatten).length ≤ s.length + d.name.length + 10 := by simp only [List.flatten_cons, List.flatten_nil, List.length_append, List.length_cons, List.length_nil]; omega
    unfold GD.wt
    simp only [List.length_append, List.length_cons, List.length_nil] at h1 h2 h3 ⊢
    omega
theorem declsG_bound : ∀ (l : List GD), (∀ d ∈ l, d.ok) → ∀ (s : List UInt8) (ok : Bool), (declsG l s ok).1.length ≤ s.length + 40 * sumW GD.wt l
  | [], _, s, ok => by rw [declsG]; simp only; omega
  | f :: r, h, s, ok => by
    rw [declsG]
    have h1 := declG_bound (h f (by simp)) s ok
    have h2 := declsG_bound r (fun x hx => h x (by simp [hx])) (declG f s ok).1 (declG f s ok).2
    show _ ≤ s.length + 40 * (f.wt + sumW GD.wt r)
    omega
end Go.Proofs.YtofhakbmmgpgdaaDoor
