/- One text out of several: ShoP, ShoQ, ShoR, ShoS, ShoT. -/
import Derived.Test.YtofhakbmmgpgdaaDoorGg
import Derived.Test.YtofhakbmmgpgdaaDoorUtfA
import Derived.Lib.ItoaNum

section
/- show in plain words: which text declarations have, and whether they may be told. -/
namespace Go.Proofs.YtofhakbmmgpgdaaDoor
open Go Go.RowKit

def nameOk (s : List UInt8) : Bool := nmB s && !wordB s
def tagOk (n : Int) : Bool := decide (n ≥ 0) && decide (n ≤ 9999)
def wordT (k : Int) : List UInt8 := if k = 1 then [98, 111, 111, 108] else if k = 2 then [105, 110, 116] else if k = 3 then [117, 105, 110, 116] else if k = 4 then [116, 101, 120, 116] else if k = 5 then [98, 121, 116, 101, 115] else if k = 7 then [108, 105, 115, 116] else if k = 8 then [109, 97, 112] else []
def arityT (k : Int) : Nat := if k = 7 ∨ k = 9 then 1 else if k = 8 then 2 else 0
/-- any type, well made or not -/
inductive GT where
  | mk (kind : Int) (name : List UInt8) (of : List GT)
def GT.kind : GT → Int
  | .mk k _ _ => k
def GT.name : GT → List UInt8
  | .mk _ n _ => n
def GT.of : GT → List GT
  | .mk _ _ l => l
theorem GT.ind {P : GT → Prop} (h : ∀ k nm of, (∀ x ∈ of, P x) → P (.mk k nm of)) : ∀ t, P t
  | .mk k nm of => h k nm of fun x hx => have := List.sizeOf_lt_of_mem hx; GT.ind h x
termination_by t => SizeOf.sizeOf t
decreasing_by simp; omega
def badT (deep : Nat) (k : Int) (nm : List UInt8) (n : Nat) : Bool := decide (8 < deep) || (!decide (n = arityT k) || (!decide (k = 6) && !decide (nm = [])))
def sepT (i : Nat) : List UInt8 := if i = 0 then [60] else [44]
mutual
def typG : GT → Nat → List UInt8 → Bool → List UInt8 × Bool
  | .mk k nm of, deep, s, ok =>
    if badT deep k nm of.length = true ∨ ok = false then (s, false)
    else if k = 6 then (s ++ nm, nameOk nm)
    else if k = 9 then optG of deep s
    else if wordT k = [] then (s, false)
    else ((rowG of (deep + 1) 0 (s ++ wordT k) true).1 ++ (if of.length = 0 then [] else [62]), (rowG of (deep + 1) 0 (s ++ wordT k) true).2)
def optG : List GT → Nat → List UInt8 → List UInt8 × Bool
  | [], _, s => (s, false)
  | t :: _, deep, s => ((typG t deep s (!(t.kind == 9))).1 ++ [63], (typG t deep s (!(t.kind == 9))).2)
def rowG : List GT → Nat → Nat → List UInt8 → Bool → List UInt8 × Bool
  | [], _, _, s, ok => (s, ok)
  | t :: r, deep, i, s, ok => rowG r deep (i + 1) (typG t deep (s ++ sepT i) ok).1 (typG t deep (s ++ sepT i) ok).2
end
theorem typG_mk (k : Int) (nm : List UInt8) (of : List GT) (deep : Nat) (s : List UInt8) (ok : Bool) : typG (.mk k nm of) deep s ok =
    if badT deep k nm of.length = true ∨ ok = false then (s, false)
    else if k = 6 then (s ++ nm, nameOk nm)
    else if k = 9 then optG of deep s
    else if wordT k = [] then (s, false)
    else ((rowG of (deep + 1) 0 (s ++ wordT k) true).1 ++ (if of.length = 0 then [] else [62]), (rowG of (deep + 1) 0 (s ++ wordT k) true).2) := by rw [typG]
theorem rowG_app : ∀ (l : List GT) (t : GT) (deep i : Nat) (s : List UInt8) (ok : Bool), rowG (l ++ [t]) deep i s ok = typG t deep ((rowG l deep i s ok).1 ++ sepT (i + l.length)) (rowG l deep i s ok).2
  | [], t, deep, i, s, ok => by simp [rowG]
  | x :: l, t, deep, i, s, ok => by
    rw [List.cons_append, rowG, rowG_app l t, rowG, List.length_cons, show i + 1 + l.length = i + (l.length + 1) by omega]
theorem row_mono {l : List GT} (h : ∀ x ∈ l, ∀ deep s ok, s.length ≤ (typG x deep s ok).1.length) : ∀ (deep i : Nat) (s : List UInt8) (ok : Bool), s.length ≤ (rowG l deep i s ok).1.length := by
  induction l with
  | nil => intro deep i s ok; simp [rowG]
  | cons t r ih =>
    intro deep i s ok
    rw [rowG]
    have h1 := h t (by simp) deep (s ++ sepT i) ok
    have h2 := ih (fun x hx => h x (by simp [hx])) deep (i + 1) (typG t deep (s ++ sepT i) ok).1 (typG t deep (s ++ sepT i) ok).2
    rw [List.length_append] at h1
    omega
theorem typ_mono : ∀ (t : GT) (deep : Nat) (s : List UInt8) (ok : Bool), s.length ≤ (typG t deep s ok).1.length :=
  GT.ind fun k nm of ih deep s ok => by
    have h2 := row_mono ih (deep + 1) 0 (s ++ wordT k) true
    rw [List.length_append] at h2
    rw [typG]
    split
    · exact Nat.le_refl _
    · split
      · simp
      · split
        · cases of with
          | nil => simp [optG]
          | cons t r =>
            rw [optG]
            have := ih t (by simp) deep s (!(t.kind == 9))
            simp only [List.length_append]; omega
        · split
          · exact Nat.le_refl _
          · simp only [List.length_append]; omega
theorem row_le (l : List GT) (deep i : Nat) (s : List UInt8) (ok : Bool) (k : Nat) : (rowG (l.take k) deep i s ok).1.length ≤ (rowG l deep i s ok).1.length := by
  induction l generalizing i s ok k with
  | nil => simp
  | cons t r ih =>
    cases k with
    | zero =>
      rw [List.take_zero]
      exact row_mono (fun x _ => typ_mono x) deep i s ok
    | succ k => rw [List.take_succ_cons, rowG, rowG]; exact ih _ _ _ _
structure GF where
  tag : Int
  name : List UInt8
  ty : GT
structure GM where
  tag : Int
  name : List UInt8
  inn : List UInt8
  out : List UInt8
  oneway : Bool
structure GD where
  kind : Int
  name : List UInt8
  fields : List GF
  methods : List GM
  at_ : Int
def noTy (t : GT) : Bool := decide (t.kind = 0) && (decide (t.name = []) && decide (t.of.length = 0))
def headG (f : GF) (s : List UInt8) : List UInt8 := s ++ [[32], Lib.itoa f.tag, [32], f.name].flatten
def fieldG (en : Bool) (f : GF) (s : List UInt8) (ok : Bool) : List UInt8 × Bool :=
  if en = true then (headG f s ++ [59], ok && tagOk f.tag && nameOk f.name && noTy f.ty)
  else ((typG f.ty 0 (headG f s ++ [58, 32]) (ok && tagOk f.tag && nameOk f.name)).1 ++ [59], (typG f.ty 0 (headG f s ++ [58, 32]) (ok && tagOk f.tag && nameOk f.name)).2)
def methodG (m : GM) (s : List UInt8) (ok : Bool) : List UInt8 × Bool :=
  (s ++ [32] ++ (if m.oneway = true then [111, 110, 101, 119, 97, 121, 32] else []) ++ [Lib.itoa m.tag, [32], m.name, [40], m.inn, [41, 58, 32], m.out, [59]].flatten, ok && tagOk m.tag && nameOk m.name && nameOk m.inn && nameOk m.out)
def fieldsG (en : Bool) : List GF → List UInt8 → Bool → List UInt8 × Bool
  | [], s, ok => (s, ok)
  | f :: r, s, ok => fieldsG en r (fieldG en f s ok).1 (fieldG en f s ok).2
def methodsG : List GM → List UInt8 → Bool → List UInt8 × Bool
  | [], s, ok => (s, ok)
  | m :: r, s, ok => methodsG r (methodG m s ok).1 (methodG m s ok).2
def kwT (k : Int) : List UInt8 := if k = 1 then [115, 116, 114, 117, 99, 116] else if k = 2 then [117, 110, 105, 111, 110] else if k = 3 then [101, 110, 117, 109] else [115, 101, 114, 118, 105, 99, 101]
def badD (k : Int) (nf nm : Nat) : Bool := decide (k < 1) || (decide (4 < k) || (decide (16 < nf) || (decide (16 < nm) || ((decide (k = 4) && decide (0 < nf)) || (!decide (k = 4) && decide (0 < nm))))))
def declG (d : GD) (s : List UInt8) (ok : Bool) : List UInt8 × Bool :=
  if badD d.kind d.fields.length d.methods.length = true then (s, false)
  else
    let a := fieldsG (d.kind == 3) d.fields (s ++ [kwT d.kind, [32], d.name, [32, 123]].flatten) (ok && nameOk d.name)
    let b := methodsG d.methods a.1 a.2
    (b.1 ++ [32, 125, 10], b.2)
def declsG : List GD → List UInt8 → Bool → List UInt8 × Bool
  | [], s, ok => (s, ok)
  | d :: r, s, ok => declsG r (declG d s ok).1 (declG d s ok).2
/-- the text, and what is wrong -/
def textG (l : List GD) : List UInt8 × Nat := if 16 < l.length then ([], 3) else if (declsG l [] true).2 = true then ((declsG l [] true).1, 0) else ([], 1)
theorem fields_app (en : Bool) : ∀ (l : List GF) (f : GF) (s : List UInt8) (ok : Bool), fieldsG en (l ++ [f]) s ok = fieldG en f (fieldsG en l s ok).1 (fieldsG en l s ok).2
  | [], f, s, ok => rfl
  | x :: l, f, s, ok => by rw [List.cons_append, fieldsG, fields_app en l f, fieldsG]
theorem methods_app : ∀ (l : List GM) (f : GM) (s : List UInt8) (ok : Bool), methodsG (l ++ [f]) s ok = methodG f (methodsG l s ok).1 (methodsG l s ok).2
  | [], f, s, ok => rfl
  | x :: l, f, s, ok => by rw [List.cons_append, methodsG, methods_app l f, methodsG]
theorem declsG_app : ∀ (l : List GD) (f : GD) (s : List UInt8) (ok : Bool), declsG (l ++ [f]) s ok = declG f (declsG l s ok).1 (declsG l s ok).2
  | [], f, s, ok => rfl
  | x :: l, f, s, ok => by rw [List.cons_append, declsG, declsG_app l f, declsG]
theorem head_len (f : GF) (s : List UInt8) : s.length + f.name.length ≤ (headG f s).length := by
  unfold headG; simp only [List.flatten_cons, List.flatten_nil, List.length_append]; omega
theorem field_mono (en : Bool) (f : GF) (s : List UInt8) (ok : Bool) : s.length + f.name.length ≤ (fieldG en f s ok).1.length := by
  have h1 := head_len f s
  have h2 := typ_mono f.ty 0 (headG f s ++ [58, 32]) (ok && tagOk f.tag && nameOk f.name)
  rw [List.length_append] at h2
  unfold fieldG
  split
  · simp only [List.length_append]; omega
  · simp only [List.length_append]; omega
theorem method_mono (m : GM) (s : List UInt8) (ok : Bool) : s.length + m.name.length + m.inn.length + m.out.length ≤ (methodG m s ok).1.length := by
  unfold methodG; simp only [List.flatten_cons, List.flatten_nil, List.length_append]; omega
theorem fields_mono (en : Bool) : ∀ (l : List GF) (s : List UInt8) (ok : Bool), s.length ≤ (fieldsG en l s ok).1.length
  | [], s, ok => Nat.le_refl _
  | f :: r, s, ok => by rw [fieldsG]; have h1 := field_mono en f s ok; have h2 := fields_mono en r (fieldG en f s ok).1 (fieldG en f s ok).2; omega
theorem methods_mono : ∀ (l : List GM) (s : List UInt8) (ok : Bool), s.length ≤ (methodsG l s ok).1.length
  | [], s, ok => Nat.le_refl _
  | f :: r, s, ok => by rw [methodsG]; have h1 := method_mono f s ok; have h2 := methods_mono r (methodG f s ok).1 (methodG f s ok).2; omega
theorem fields_le (en : Bool) : ∀ (l : List GF) (s : List UInt8) (ok : Bool) (k : Nat), (fieldsG en (l.take k) s ok).1.length ≤ (fieldsG en l s ok).1.length
  | [], s, ok, k => by simp
  | f :: r, s, ok, 0 => by rw [List.take_zero]; exact fields_mono en (f :: r) s ok
  | f :: r, s, ok, k + 1 => by rw [List.take_succ_cons, fieldsG, fieldsG]; exact fields_le en r _ _ k
theorem methods_le : ∀ (l : List GM) (s : List UInt8) (ok : Bool) (k : Nat), (methodsG (l.take k) s ok).1.length ≤ (methodsG l s ok).1.length
  | [], s, ok, k => by simp
  | f :: r, s, ok, 0 => by rw [List.take_zero]; exact methods_mono (f :: r) s ok
  | f :: r, s, ok, k + 1 => by rw [List.take_succ_cons, methodsG, methodsG]; exact methods_le r _ _ k
theorem declG_mono (d : GD) (s : List UInt8) (ok : Bool) : s.length ≤ (declG d s ok).1.length := by
  unfold declG
  split
  · exact Nat.le_refl _
  · have h1 := fields_mono (d.kind == 3) d.fields (s ++ [kwT d.kind, [32], d.name, [32, 123]].flatten) (ok && nameOk d.name)
    have h2 := methods_mono d.methods (fieldsG (d.kind == 3) d.fields (s ++ [kwT d.kind, [32], d.name, [32, 123]].flatten) (ok && nameOk d.name)).1 (fieldsG (d.kind == 3) d.fields (s ++ [kwT d.kind, [32], d.name, [32, 123]].flatten) (ok && nameOk d.name)).2
    rw [List.length_append] at h1
    simp only [List.length_append]; omega
theorem declsG_mono : ∀ (l : List GD) (s : List UInt8) (ok : Bool), s.length ≤ (declsG l s ok).1.length
  | [], s, ok => Nat.le_refl _
  | f :: r, s, ok => by rw [declsG]; have h1 := declG_mono f s ok; have h2 := declsG_mono r (declG f s ok).1 (declG f s ok).2; omega
theorem declsG_le : ∀ (l : List GD) (s : List UInt8) (ok : Bool) (k : Nat), (declsG (l.take k) s ok).1.length ≤ (declsG l s ok).1.length
  | [], s, ok, k => by simp
  | f :: r, s, ok, 0 => by rw [List.take_zero]; exact declsG_mono (f :: r) s ok
  | f :: r, s, ok, k + 1 => by rw [List.take_succ_cons, declsG, declsG]; exact declsG_le r _ _ k
end Go.Proofs.YtofhakbmmgpgdaaDoor
end

section
/- What show tells, in pieces: tokens and blanks; the lexer finds them again. -/
set_option linter.unusedSimpArgs false
namespace Go.Proofs.YtofhakbmmgpgdaaDoor
open Go Go.RowKit

inductive Pc where
  | bl (c : UInt8)
  | tk (t : Tok)
def Pc.txt : Pc → List UInt8
  | .bl c => [c]
  | .tk t => t.text
def flatP (m : List Pc) : List UInt8 := m.flatMap Pc.txt
def toksP : List Pc → List Tok
  | [] => []
  | .bl _ :: r => toksP r
  | .tk t :: r => t :: toksP r
theorem flat_cons (p : Pc) (m : List Pc) : flatP (p :: m) = p.txt ++ flatP m := by simp [flatP]
theorem flat_app (a b : List Pc) : flatP (a ++ b) = flatP a ++ flatP b := by simp [flatP]
theorem toks_app : ∀ (a b : List Pc), toksP (a ++ b) = toksP a ++ toksP b
  | [], _ => rfl
  | .bl _ :: r, b => toks_app r b
  | .tk t :: r, b => congrArg (t :: ·) (toks_app r b)
def bare (t : Tok) : Tok := { t with at_ := 0 }
/-- what may stand behind a token -/
def NextP (t : Tok) : List Pc → Prop
  | .tk u :: _ => t.kind = 3 ∨ u.kind = 3
  | _ => True
/-- no two tokens run into one another -/
def SepP : List Pc → Prop
  | [] => True
  | .bl c :: r => isBl c = true ∧ SepP r
  | .tk t :: r => TokOk t ∧ NextP t r ∧ SepP r
theorem run_stop {p : UInt8 → Bool} {pre w r : List UInt8} (hw : ∀ c ∈ w, p c = true) (hp : ∀ c, r.head? = some c → p c = false) : runL p (pre ++ (w ++ r)) pre.length = w := by
  unfold runL
  rw [List.drop_left]
  induction w with
  | nil =>
    cases r with
    | nil => rfl
    | cons c r => rw [List.nil_append, List.takeWhile_cons, hp c rfl]; rfl
  | cons x t ih => rw [List.cons_append, List.takeWhile_cons, if_pos (hw x (by simp)), ih (fun c hc => hw c (by simp [hc]))]
theorem dig_in {c : UInt8} (h : isIn c = false) : isDig c = false := by
  unfold isIn isDig at *; simp only [decide_eq_false_iff_not] at *; omega
theorem bl_in {c : UInt8} (h : isBl c = true) : isLet c = false ∧ isDig c = false ∧ c.toNat ≠ 47 ∧ isIn c = false := by
  unfold isBl isLet isDig isIn at *; simp only [decide_eq_true_eq, decide_eq_false_iff_not] at *; omega
theorem sg_in {c : UInt8} (h : isSgn c = true) : isLet c = false ∧ isDig c = false ∧ c.toNat ≠ 47 ∧ isBl c = false ∧ isIn c = false := by
  unfold isSgn isBl isLet isDig isIn at *; simp only [decide_eq_true_eq, decide_eq_false_iff_not] at *; omega
theorem one_at {pre r : List UInt8} {t : Tok} (ht : TokOk t) (hr : t.kind = 3 ∨ ∀ c, r.head? = some c → isIn c = false) : oneL (pre ++ (t.text ++ r)) pre.length = (some { t with at_ := pre.length }, pre.length + t.text.length, 0) := by
  have at0 : ∀ (c : UInt8) (w : List UInt8), t.text = c :: w → (pre ++ (t.text ++ r))[pre.length]? = some c := fun c w h => by
    rw [List.getElem?_append_right (Nat.le_refl _), Nat.sub_self, h]; rfl
  obtain ⟨kind, text, num, at_⟩ := t
  simp only at *
  unfold oneL
  rcases ht with ⟨h1, h2, h3, h4, c, w, hc, h5⟩ | ⟨h1, h2, h3, h4, c, w, hc, h5, h6, h7⟩ | ⟨h1, h2, c, hc, h3, h4, h5, h6, h7⟩ <;> simp only at *
  · rw [at0 c w hc]
    simp only
    have hr' : ∀ c, r.head? = some c → isIn c = false := by rcases hr with h | h; omega; exact h
    have hrun := run_stop (p := isIn) (pre := pre) (w := text) (r := r) h4 hr'
    unfold oneC
    rw [if_pos h5, hrun, if_neg (by omega), h1, h2]
  · rw [at0 c w hc]
    simp only
    have hr' : ∀ c, r.head? = some c → isDig c = false := by rcases hr with h | h; omega; exact fun c hc => dig_in (h c hc)
    have hrun := run_stop (p := isDig) (pre := pre) (w := text) (r := r) h4 hr'
    unfold oneC
    rw [if_neg (by simp [h6]), if_pos h5, hrun, if_neg h7, if_neg (by omega), h1, h2]
  · rw [at0 c [] hc]
    simp only
    unfold oneC
    rw [if_neg (by simp [h3]), if_neg (by simp [h4]), if_neg h5, if_neg (by simp [h6]), if_pos h7, h1, h2, hc]
    rfl
theorem bl_at {pre r : List UInt8} {c : UInt8} (h : isBl c = true) : oneL (pre ++ c :: r) pre.length = (none, pre.length + 1, 0) := by
  have at0 : (pre ++ c :: r)[pre.length]? = some c := by
    rw [List.getElem?_append_right (Nat.le_refl _), Nat.sub_self]; rfl
  obtain ⟨h1, h2, h3, _⟩ := bl_in h
  unfold oneL
  rw [at0]
  simp only
  unfold oneC
  rw [if_neg (by simp [h1]), if_neg (by simp [h2]), if_neg h3, if_pos h]
theorem next_stop {t : Tok} : ∀ {m : List Pc}, SepP m → NextP t m → t.kind = 3 ∨ ∀ c, (flatP m).head? = some c → isIn c = false
  | [], _, _ => .inr fun c hc => by simp [flatP] at hc
  | .bl b :: r, h, _ => .inr fun c hc => by
    rw [flat_cons] at hc
    simp only [Pc.txt, List.cons_append, List.head?_cons, Option.some.injEq] at hc
    subst hc
    exact (bl_in h.1).2.2.2
  | .tk u :: r, h, hn => by
    rcases hn with hn | hn
    · exact .inl hn
    · refine .inr fun c hc => ?_
      rw [flat_cons] at hc
      rcases h.1 with h1 | h1 | h1
      · omega
      · omega
      · obtain ⟨_, _, x, hx, _, _, _, _, h7⟩ := h1
        simp only [Pc.txt, hx, List.cons_append, List.head?_cons, Option.some.injEq] at hc
        subst hc
        exact (sg_in h7).2.2.2.2
theorem TokOk.pos {t : Tok} (h : TokOk t) : 0 < t.text.length := by
  rcases h with ⟨_, _, _, _, c, w, hc, _⟩ | ⟨_, _, _, _, c, w, hc, _⟩ | ⟨_, _, c, hc, _⟩ <;> (rw [hc]; simp)
theorem lex_pcs : ∀ (m : List Pc) (pre : List UInt8), SepP m → ∃ ts, lexN (pre ++ flatP m) pre.length = (ts ++ [⟨4, [], 0, (pre ++ flatP m).length⟩], 0, 0) ∧ ts.map bare = (toksP m).map bare
  | [], pre, _ => ⟨[], by rw [lex_end (by simp [flatP])]; rfl, rfl⟩
  | .bl c :: m, pre, h => by
    obtain ⟨ts, i1, i2⟩ := lex_pcs m (pre ++ [c]) h.2
    have e : pre ++ flatP (.bl c :: m) = pre ++ c :: flatP m := by rw [flat_cons]; rfl
    have e2 : (pre ++ [c]) ++ flatP m = pre ++ c :: flatP m := by simp
    have o := bl_at (pre := pre) (r := flatP m) h.1
    rw [e2, List.length_append, List.length_singleton] at i1
    refine ⟨ts, ?_, i2⟩
    rw [e, lex_next (by simp) (by rw [o]), o]
    simp only
    rw [i1]
    unfold comb
    simp
  | .tk t :: m, pre, h => by
    obtain ⟨ts, i1, i2⟩ := lex_pcs m (pre ++ t.text) h.2.2
    have e : pre ++ flatP (.tk t :: m) = pre ++ (t.text ++ flatP m) := by rw [flat_cons]; rfl
    have e2 : (pre ++ t.text) ++ flatP m = pre ++ (t.text ++ flatP m) := by simp
    have o := one_at (pre := pre) (r := flatP m) h.1 (next_stop h.2.2 h.2.1)
    have hp := h.1.pos
    rw [e2, List.length_append] at i1
    refine ⟨{ t with at_ := pre.length } :: ts, ?_, by simp only [List.map_cons, toksP, i2]; rfl⟩
    rw [e, lex_next (by simp; omega) (by rw [o]), o]
    simp only
    rw [i1]
    unfold comb
    simp
/-- tokens -/
def kw (s : List UInt8) : Tok := ⟨1, s, 0, 0⟩
def sg (c : UInt8) : Tok := ⟨3, [c], 0, 0⟩
def nu (n : Nat) : Tok := ⟨2, Lib.decDigits n, n, 0⟩
theorem kw_ok {s : List UInt8} (h : nmB s = true) : TokOk (kw s) := by
  unfold nmB at h
  simp only [Bool.and_eq_true, decide_eq_true_eq, List.all_eq_true] at h
  obtain ⟨⟨⟨h1, h2⟩, h3⟩, h4⟩ := h
  cases s with
  | nil => exact absurd rfl h1
  | cons c r => exact .inl ⟨rfl, rfl, h2, h4, c, r, rfl, h3 c (by simp)⟩
theorem words_nm : ∀ s ∈ wordsL, nmB s = true := by decide
theorem sg_ok {c : UInt8} (h : isSgn c = true) : TokOk (sg c) := by
  obtain ⟨h1, h2, h3, h4, _⟩ := sg_in h
  exact .inr (.inr ⟨rfl, rfl, c, rfl, h1, h2, h3, h4, h⟩)
theorem digN_app (l : List UInt8) (c : UInt8) (a : Nat) : digN (l ++ [c]) a = 10 * digN l a + (c.toNat - 48) := by
  induction l generalizing a with
  | nil => rfl
  | cons x r ih => rw [List.cons_append, digN, ih, digN]
theorem dig_of (d : Nat) (h : d < 10) : (UInt8.ofNat (48 + d)).toNat = 48 + d := by
  rw [UInt8.toNat_ofNat']; omega
theorem dec_small {n : Nat} (h : n < 10) : Lib.decDigits n = [UInt8.ofNat (48 + n)] := by rw [Lib.decDigits, dif_pos h]
theorem dec_big {n : Nat} (h : ¬ n < 10) : Lib.decDigits n = Lib.decDigits (n / 10) ++ [UInt8.ofNat (48 + n % 10)] := by rw [Lib.decDigits, dif_neg h]
theorem dec_val : ∀ n, digN (Lib.decDigits n) 0 = n := by
  intro n
  induction n using Nat.strongRecOn with
  | ind n ih =>
    by_cases h : n < 10
    · rw [dec_small h]; show digN [] (10 * 0 + ((UInt8.ofNat (48 + n)).toNat - 48)) = n; rw [dig_of n h]; show 10 * 0 + (48 + n - 48) = n; omega
    · rw [dec_big h, digN_app, ih (n / 10) (by omega), dig_of _ (by omega)]; omega
theorem dec_digs : ∀ n, ∀ c ∈ Lib.decDigits n, isDig c = true := by
  intro n
  induction n using Nat.strongRecOn with
  | ind n ih =>
    intro c hc
    have key : ∀ d, d < 10 → isDig (UInt8.ofNat (48 + d)) = true := fun d hd => by unfold isDig; rw [dig_of d hd]; simp; omega
    by_cases h : n < 10
    · rw [dec_small h] at hc; rw [List.mem_singleton.1 hc]; exact key n h
    · rw [dec_big h] at hc
      rcases List.mem_append.1 hc with hc | hc
      · exact ih (n / 10) (by omega) c hc
      · rw [List.mem_singleton.1 hc]; exact key _ (by omega)
theorem dec_head : ∀ n, ∃ c r, Lib.decDigits n = c :: r ∧ (0 < n → c.toNat ≠ 48) ∧ (n = 0 → r = []) := by
  intro n
  induction n using Nat.strongRecOn with
  | ind n ih =>
    by_cases h : n < 10
    · exact ⟨_, [], dec_small h, fun h0 => by rw [dig_of n h]; omega, fun _ => rfl⟩
    · obtain ⟨c, r, h1, h2, _⟩ := ih (n / 10) (by omega)
      exact ⟨c, r ++ [UInt8.ofNat (48 + n % 10)], by rw [dec_big h, h1]; rfl, fun _ => h2 (by omega), fun h0 => by omega⟩
theorem dec_len {n : Nat} (h : n ≤ 9999) : (Lib.decDigits n).length ≤ 4 := by
  have key : ∀ k n, n < 10 ^ (k + 1) → (Lib.decDigits n).length ≤ k + 1 := by
    intro k
    induction k with
    | zero => intro n h; rw [dec_small (by omega)]; simp
    | succ k ih =>
      intro n h
      by_cases h0 : n < 10
      · rw [dec_small h0]; simp
      · rw [dec_big h0, List.length_append]
        have h' : n < 10 ^ (k + 1) * 10 := by rwa [← Nat.pow_succ]
        have := ih (n / 10) (by omega)
        simp only [List.length_singleton]; omega
  exact key 3 n (by omega)
theorem nu_ok {n : Nat} (h : n ≤ 9999) : TokOk (nu n) := by
  obtain ⟨c, r, h1, h2, h3⟩ := dec_head n
  have hd := dec_digs n c (by rw [h1]; simp)
  refine .inr (.inl ⟨rfl, (dec_val n).symm, dec_len h, dec_digs n, c, r, h1, hd, ?_, ?_⟩)
  · unfold isDig at hd; unfold isLet; simp only [decide_eq_true_eq, decide_eq_false_iff_not] at *; omega
  · show ¬ (1 < (Lib.decDigits n).length ∧ c.toNat = 48)
    rintro ⟨hl, hc⟩
    rcases Nat.eq_zero_or_pos n with h0 | h0
    · rw [h1, h3 h0] at hl; simp at hl
    · exact h2 h0 hc
end Go.Proofs.YtofhakbmmgpgdaaDoor
end

section
/- What show tells is parsed as it was: plain law. -/
set_option linter.unusedSimpArgs false
namespace Go.Proofs.YtofhakbmmgpgdaaDoor
open Go Go.RowKit

def notOpt : Ty → Bool
  | .opt _ => false
  | _ => true
def wordN (k : Nat) : List UInt8 := wordT (k : Int)
/-- a type that may be told, n deep at most -/
def TyOk : Nat → Ty → Prop
  | 0, _ => False
  | _ + 1, .leaf k => 1 ≤ k ∧ k ≤ 5
  | _ + 1, .named s => nameOk s = true
  | n + 1, .list t => TyOk n t
  | n + 1, .map a b => TyOk n a ∧ TyOk n b
  | n + 1, .opt t => notOpt t = true ∧ TyOk (n + 1) t
termination_by n t => (n, SizeOf.sizeOf t)
def tyT : Ty → List Tok
  | .leaf k => [kw (wordN k)]
  | .named s => [kw s]
  | .list t => kw [108, 105, 115, 116] :: sg 60 :: (tyT t ++ [sg 62])
  | .map a b => kw [109, 97, 112] :: sg 60 :: (tyT a ++ (sg 44 :: (tyT b ++ [sg 62])))
  | .opt t => tyT t ++ [sg 63]
def fdK (en : Bool) (f : Fd) : List Tok := [nu f.tag, kw f.name] ++ (if en = true then [] else sg 58 :: tyT f.ty)
def mdK (m : Md) : List Tok := (if m.oneway = true then [kw [111, 110, 101, 119, 97, 121]] else []) ++ [nu m.tag, kw m.name, sg 40, kw m.inn, sg 41, sg 58, kw m.out]
def FdOk (en : Bool) (f : Fd) : Prop := f.tag ≤ 9999 ∧ nameOk f.name = true ∧ if en = true then f.ty = .leaf 0 else TyOk 9 f.ty
def MdOk (m : Md) : Prop := m.tag ≤ 9999 ∧ nameOk m.name = true ∧ nameOk m.inn = true ∧ nameOk m.out = true
structure DcOk (d : Dc) : Prop where
  k1 : 1 ≤ d.kind
  k4 : d.kind ≤ 4
  nm : nameOk d.name = true
  fl : d.fields.length ≤ 16
  ml : d.methods.length ≤ 16
  f4 : d.kind = 4 → d.fields = []
  m4 : d.kind ≠ 4 → d.methods = []
  fs : ∀ f ∈ d.fields, FdOk (decide (d.kind = 3)) f
  ms : ∀ m ∈ d.methods, MdOk m
/-- the tokens from a on are these -/
def HasT (L : List Tok) (a : Nat) (ts : List Tok) : Prop := ∀ i t, ts[i]? = some t → bare (L.getD (a + i) ⟨4, [], 0, 0⟩) = bare t
theorem HasT.left {L : List Tok} {a : Nat} {x y : List Tok} (h : HasT L a (x ++ y)) : HasT L a x := fun i t hi => h i t (by rw [List.getElem?_append_left (List.getElem?_eq_some_iff.1 hi).1]; exact hi)
theorem HasT.right {L : List Tok} {a : Nat} {x y : List Tok} (h : HasT L a (x ++ y)) : HasT L (a + x.length) y := fun i t hi => by
  have := h (x.length + i) t (by rw [List.getElem?_append_right (by omega), Nat.add_sub_cancel_left]; exact hi)
  rwa [← Nat.add_assoc] at this
theorem HasT.tail {L : List Tok} {a : Nat} {t : Tok} {r : List Tok} (h : HasT L a (t :: r)) : HasT L (a + 1) r := HasT.right (x := [t]) h
theorem HasT.head {L : List Tok} {a e : Nat} {t : Tok} {r : List Tok} (h : HasT L a (t :: r)) : (cur L ⟨a, 0, e⟩).kind = t.kind ∧ (cur L ⟨a, 0, e⟩).text = t.text ∧ (cur L ⟨a, 0, e⟩).num = t.num := by
  have h0 := h 0 t rfl
  rw [Nat.add_zero] at h0
  unfold cur bare at *
  simp only [Tok.mk.injEq] at h0
  exact ⟨h0.1, h0.2.1, h0.2.2.1⟩
section
variable {L : List Tok} {a e : Nat} {t : Tok} {r : List Tok}
theorem may_yes (h : HasT L a (t :: r)) (h0 : t.text ≠ []) : mayB L ⟨a, 0, e⟩ t.text = true := by
  unfold mayB; rw [(h.head (e := e)).2.1]; simp [h0]
theorem may_not (h : HasT L a (t :: r)) {s : List UInt8} (hs : t.text ≠ s) : mayB L ⟨a, 0, e⟩ s = false := by
  unfold mayB; rw [(h.head (e := e)).2.1]; simp [hs]
theorem need_yes (h : HasT L a (t :: r)) (h0 : t.text ≠ []) : needP L ⟨a, 0, e⟩ t.text = ⟨a + 1, 0, e⟩ := by
  unfold needP; rw [may_yes h h0, if_pos rfl]
theorem name_yes {s : List UInt8} (h : HasT L a (kw s :: r)) (hs : nameOk s = true) : nameP L ⟨a, 0, e⟩ = ⟨a + 1, 0, e⟩ ∧ nameV L ⟨a, 0, e⟩ = s := by
  obtain ⟨h1, h2, _⟩ := h.head (e := e)
  unfold nameOk at hs
  simp only [Bool.and_eq_true, Bool.not_eq_true'] at hs
  have hb : nameB L ⟨a, 0, e⟩ = true := by unfold nameB; rw [h1, h2]; show (decide (0 = 0 ∧ 1 = 1) && !wordB s) = true; rw [hs.2]; rfl
  unfold nameP nameV
  rw [hb, if_pos rfl, if_pos rfl]
  exact ⟨rfl, h2⟩
theorem num_yes {n : Nat} (h : HasT L a (nu n :: r)) : numP L ⟨a, 0, e⟩ = ⟨a + 1, 0, e⟩ ∧ numV L ⟨a, 0, e⟩ = n := by
  obtain ⟨h1, _, h3⟩ := h.head (e := e)
  have hb : numB L ⟨a, 0, e⟩ = true := by unfold numB; rw [h1]; rfl
  unfold numP numV
  rw [hb, if_pos rfl, if_pos rfl]
  exact ⟨rfl, h3⟩
end
theorem nameOk_no {s : List UInt8} (h : nameOk s = true) : ∀ w ∈ wordsL, s ≠ w := fun w hw he => by
  unfold nameOk wordB at h
  simp only [Bool.and_eq_true, Bool.not_eq_true', decide_eq_false_iff_not] at h
  exact h.2 (he ▸ hw)
theorem nameOk_plain {s : List UInt8} (h : nameOk s = true) : plainN s = 0 := by
  have hn := nameOk_no h
  unfold plainN
  rw [if_neg (hn _ (by decide)), if_neg (hn _ (by decide)), if_neg (hn _ (by decide)), if_neg (hn _ (by decide)), if_neg (hn _ (by decide))]
theorem wordN_plain {k : Nat} (h1 : 1 ≤ k) (h5 : k ≤ 5) : plainN (wordN k) = k := by
  rcases (by omega : k = 1 ∨ k = 2 ∨ k = 3 ∨ k = 4 ∨ k = 5) with rfl | rfl | rfl | rfl | rfl <;> decide
theorem typ_rt (L : List Tok) : ∀ (t : Ty) (n : Nat), TyOk (n + 1) t → ∀ a e, (notOpt t = true → HasT L a (tyT t) → baseP L n ⟨a, 0, e⟩ = (t, ⟨a + (tyT t).length, 0, e⟩)) ∧ (∀ u, HasT L a (tyT t ++ [u]) → u.text ≠ [63] → typP L (n + 1) ⟨a, 0, e⟩ = (t, ⟨a + (tyT t).length, 0, e⟩)) := by
  intro t
  -- a type that is no option: from its base
  have two : ∀ (t : Ty) (n a e : Nat), (HasT L a (tyT t) → baseP L n ⟨a, 0, e⟩ = (t, ⟨a + (tyT t).length, 0, e⟩)) → ∀ u, HasT L a (tyT t ++ [u]) → u.text ≠ [63] → typP L (n + 1) ⟨a, 0, e⟩ = (t, ⟨a + (tyT t).length, 0, e⟩) := by
    intro t n a e h u hu h63
    rw [typP_succ, if_neg (by simp), h hu.left]
    simp only
    rw [may_not hu.right h63, if_neg (by decide)]
  induction t with
  | leaf k =>
    intro n hok a e
    have hok : 1 ≤ k ∧ k ≤ 5 := by simpa [TyOk] using hok
    have hb : HasT L a (tyT (.leaf k)) → baseP L n ⟨a, 0, e⟩ = (.leaf k, ⟨a + (tyT (.leaf k)).length, 0, e⟩) := fun h => by
      have h2 := (HasT.head (e := e) h).2.1
      have hp := wordN_plain hok.1 hok.2
      unfold baseP
      rw [h2]
      show (if 0 < plainN (wordN k) then _ else _) = _
      rw [hp, if_pos (by omega)]
      show (Ty.leaf (plainN (wordN k)), _) = _
      rw [hp]
      rfl
    exact ⟨fun _ => hb, two _ n a e hb⟩
  | named s =>
    intro n hok a e
    have hok : nameOk s = true := by simpa [TyOk] using hok
    have hb : HasT L a (tyT (.named s)) → baseP L n ⟨a, 0, e⟩ = (.named s, ⟨a + (tyT (.named s)).length, 0, e⟩) := fun h => by
      have h2 := (HasT.head (e := e) h).2.1
      obtain ⟨h3, h4⟩ := name_yes (e := e) h hok
      have m1 := may_not (e := e) h (s := [108, 105, 115, 116]) (nameOk_no hok _ (by decide))
      have m2 := may_not (e := e) h (s := [109, 97, 112]) (nameOk_no hok _ (by decide))
      unfold baseP
      rw [h2, m1, m2, h3, h4]
      show (if 0 < plainN s then _ else _) = _
      rw [nameOk_plain hok, if_neg (by decide), if_neg (by decide), if_neg (by decide)]
      rfl
    exact ⟨fun _ => hb, two _ n a e hb⟩
  | list t ih =>
    intro n hok a e
    have hok : TyOk n t := by simpa [TyOk] using hok
    obtain ⟨n, rfl⟩ : ∃ x, n = x + 1 := by cases n with | zero => simp [TyOk] at hok | succ x => exact ⟨x, rfl⟩
    have hb : HasT L a (tyT (.list t)) → baseP L (n + 1) ⟨a, 0, e⟩ = (.list t, ⟨a + (tyT (.list t)).length, 0, e⟩) := fun h => by
      unfold tyT at h ⊢
      have h2 := (HasT.head (e := e) h).2.1
      have m1 := may_yes (e := e) h (by decide)
      have d1 := need_yes (e := e) h.tail (by decide)
      have i1 := (ih n hok (a + 1 + 1) e).2 (sg 62) h.tail.tail (by decide)
      have d2 := need_yes (e := e) h.tail.tail.right (by decide)
      unfold baseP
      rw [h2]
      simp only
      rw [show plainN (kw [108, 105, 115, 116]).text = 0 from rfl, if_neg (by decide), show mayB L ⟨a, 0, e⟩ [108, 105, 115, 116] = true from m1, if_pos rfl, show needP L ⟨a + 1, 0, e⟩ [60] = _ from d1, i1]
      simp only
      rw [show needP L ⟨a + 1 + 1 + (tyT t).length, 0, e⟩ [62] = _ from d2]
      simp only [List.length_cons, List.length_append, List.length_nil]
      congr 2; omega
    exact ⟨fun _ => hb, two _ _ a e hb⟩
  | map x y ihx ihy =>
    intro n hok a e
    have hok : TyOk n x ∧ TyOk n y := by simpa [TyOk] using hok
    obtain ⟨n, rfl⟩ : ∃ z, n = z + 1 := by cases n with | zero => simp [TyOk] at hok | succ z => exact ⟨z, rfl⟩
    have hb : HasT L a (tyT (.map x y)) → baseP L (n + 1) ⟨a, 0, e⟩ = (.map x y, ⟨a + (tyT (.map x y)).length, 0, e⟩) := fun h => by
      unfold tyT at h ⊢
      have h2 := (HasT.head (e := e) h).2.1
      have m1 := may_yes (e := e) h (by decide)
      have d1 := need_yes (e := e) h.tail (by decide)
      have hx := h.tail.tail
      have i1 := (ihx n hok.1 (a + 1 + 1) e).2 (sg 44) (by
        have : tyT x ++ (sg 44 :: (tyT y ++ [sg 62])) = (tyT x ++ [sg 44]) ++ (tyT y ++ [sg 62]) := by simp
        rw [this] at hx
        exact hx.left) (by decide)
      have d2 := need_yes (e := e) hx.right (by decide)
      have i2 := (ihy n hok.2 (a + 1 + 1 + (tyT x).length + 1) e).2 (sg 62) hx.right.tail (by decide)
      have d3 := need_yes (e := e) hx.right.tail.right (by decide)
      have m0 := may_not (e := e) h (s := [108, 105, 115, 116]) (by decide)
      unfold baseP
      rw [h2]
      simp only
      rw [show plainN (kw [109, 97, 112]).text = 0 from rfl, if_neg (by decide), m0, if_neg (by decide), show mayB L ⟨a, 0, e⟩ [109, 97, 112] = true from m1, if_pos rfl, show needP L ⟨a + 1, 0, e⟩ [60] = _ from d1, i1]
      simp only
      rw [show needP L ⟨a + 1 + 1 + (tyT x).length, 0, e⟩ [44] = _ from d2, i2]
      simp only
      rw [show needP L ⟨a + 1 + 1 + (tyT x).length + 1 + (tyT y).length, 0, e⟩ [62] = _ from d3]
      simp only [List.length_cons, List.length_append, List.length_nil]
      congr 2; omega
    exact ⟨fun _ => hb, two _ _ a e hb⟩
  | opt t ih =>
    intro n hok a e
    have hok : notOpt t = true ∧ TyOk (n + 1) t := by simpa [TyOk] using hok
    refine ⟨fun h => (by cases h), fun u hu _ => ?_⟩
    unfold tyT at hu ⊢
    have hu := hu.left
    have i1 := (ih n hok.2 a e).1 hok.1 hu.left
    have m1 := may_yes (e := e) hu.right (by decide)
    rw [typP_succ, if_neg (by simp), i1]
    simp only
    rw [show mayB L ⟨a + (tyT t).length, 0, e⟩ [63] = true from m1, if_pos rfl]
    simp only [List.length_append, List.length_cons, List.length_nil]
    rfl
theorem field_rt {L : List Tok} {a e : Nat} {f : Fd} (hf : FdOk false f) (h : HasT L a (fdK false f ++ [sg 59])) : fieldP L ⟨a, 0, e⟩ = (f, ⟨a + (fdK false f).length, 0, e⟩) := by
  obtain ⟨h1, h2, h3⟩ := hf
  rw [if_neg (by decide)] at h3
  unfold fdK at *
  rw [if_neg (by decide)] at *
  have h : HasT L a (nu f.tag :: kw f.name :: sg 58 :: (tyT f.ty ++ [sg 59])) := by simpa using h
  obtain ⟨n1, n2⟩ := num_yes (e := e) h
  obtain ⟨m1, m2⟩ := name_yes (e := e) h.tail h2
  have d1 := need_yes (e := e) h.tail.tail (by decide)
  have t1 := (typ_rt L f.ty 8 h3 (a + 1 + 1 + 1) e).2 (sg 59) h.tail.tail.tail (by decide)
  unfold fieldP
  simp only
  rw [n1, n2, m1, m2, show needP L ⟨a + 1 + 1, 0, e⟩ [58] = _ from d1, t1]
  simp only [List.length_append, List.length_cons, List.length_nil]
  congr 2; omega
theorem value_rt {L : List Tok} {a e : Nat} {f : Fd} (hf : FdOk true f) (h : HasT L a (fdK true f ++ [sg 59])) : valueP L ⟨a, 0, e⟩ = (f, ⟨a + (fdK true f).length, 0, e⟩) := by
  obtain ⟨h1, h2, h3⟩ := hf
  rw [if_pos rfl] at h3
  unfold fdK at *
  rw [if_pos rfl] at *
  have h : HasT L a (nu f.tag :: kw f.name :: [sg 59]) := by simpa using h
  obtain ⟨n1, n2⟩ := num_yes (e := e) h
  obtain ⟨m1, m2⟩ := name_yes (e := e) h.tail h2
  obtain ⟨tg, nm, ty⟩ := f
  simp only at h3
  subst h3
  unfold valueP
  rw [n1, n2, m1, m2]
  rfl
theorem method_rt {L : List Tok} {a e : Nat} {m : Md} (hm : MdOk m) (h : HasT L a (mdK m ++ [sg 59])) : methodP L ⟨a, 0, e⟩ = (m, ⟨a + (mdK m).length, 0, e⟩) := by
  obtain ⟨h1, h2, h3, h4⟩ := hm
  obtain ⟨tg, nm, inn, out, ow⟩ := m
  simp only at h1 h2 h3 h4
  have rest : ∀ a, HasT L a (nu tg :: kw nm :: sg 40 :: kw inn :: sg 41 :: sg 58 :: kw out :: [sg 59]) →
      numP L ⟨a, 0, e⟩ = ⟨a + 1, 0, e⟩ ∧ numV L ⟨a, 0, e⟩ = tg ∧ nameP L ⟨a + 1, 0, e⟩ = ⟨a + 2, 0, e⟩ ∧ nameV L ⟨a + 1, 0, e⟩ = nm ∧ needP L ⟨a + 2, 0, e⟩ [40] = ⟨a + 3, 0, e⟩ ∧ nameP L ⟨a + 3, 0, e⟩ = ⟨a + 4, 0, e⟩ ∧ nameV L ⟨a + 3, 0, e⟩ = inn ∧
      needP L ⟨a + 4, 0, e⟩ [41] = ⟨a + 5, 0, e⟩ ∧ needP L ⟨a + 5, 0, e⟩ [58] = ⟨a + 6, 0, e⟩ ∧ nameP L ⟨a + 6, 0, e⟩ = ⟨a + 7, 0, e⟩ ∧ nameV L ⟨a + 6, 0, e⟩ = out := fun a h => by
    obtain ⟨n1, n2⟩ := num_yes (e := e) h
    obtain ⟨m1, m2⟩ := name_yes (e := e) h.tail h2
    have d1 := need_yes (e := e) h.tail.tail (by decide)
    obtain ⟨p1, p2⟩ := name_yes (e := e) h.tail.tail.tail h3
    have d2 := need_yes (e := e) h.tail.tail.tail.tail (by decide)
    have d3 := need_yes (e := e) h.tail.tail.tail.tail.tail (by decide)
    obtain ⟨q1, q2⟩ := name_yes (e := e) h.tail.tail.tail.tail.tail.tail h4
    exact ⟨n1, n2, m1, m2, d1, p1, p2, d2, d3, q1, q2⟩
  unfold mdK at *
  cases ow with
  | true =>
    rw [if_pos rfl] at *
    have h : HasT L a (kw [111, 110, 101, 119, 97, 121] :: nu tg :: kw nm :: sg 40 :: kw inn :: sg 41 :: sg 58 :: kw out :: [sg 59]) := by simpa using h
    have m0 := may_yes (e := e) h (by decide)
    have p0 : mayP L ⟨a, 0, e⟩ [111, 110, 101, 119, 97, 121] = ⟨a + 1, 0, e⟩ := by unfold mayP; rw [show mayB L ⟨a, 0, e⟩ [111, 110, 101, 119, 97, 121] = true from m0, if_pos rfl]
    obtain ⟨r1, r2, r3, r4, r5, r6, r7, r8, r9, r10, r11⟩ := rest (a + 1) h.tail
    unfold methodP
    simp only
    rw [show mayB L ⟨a, 0, e⟩ [111, 110, 101, 119, 97, 121] = true from m0, p0, r1, r2, r3, r4, r5, r6, r7, r8, r9, r10, r11]
    simp only [List.length_append, List.length_cons, List.length_nil]
  | false =>
    rw [if_neg (by simp)] at *
    have h : HasT L a (nu tg :: kw nm :: sg 40 :: kw inn :: sg 41 :: sg 58 :: kw out :: [sg 59]) := by simpa using h
    have hne : (nu tg).text ≠ [111, 110, 101, 119, 97, 121] := fun he => by
      have := dec_digs tg 111 (by rw [show Lib.decDigits tg = (nu tg).text from rfl, he]; simp)
      exact absurd this (by decide)
    have m0 := may_not (e := e) h hne
    have p0 : mayP L ⟨a, 0, e⟩ [111, 110, 101, 119, 97, 121] = ⟨a, 0, e⟩ := by unfold mayP; rw [m0, if_neg (by decide)]
    obtain ⟨r1, r2, r3, r4, r5, r6, r7, r8, r9, r10, r11⟩ := rest a h
    unfold methodP
    simp only
    rw [m0, p0, r1, r2, r3, r4, r5, r6, r7, r8, r9, r10, r11]
    simp only [List.length_append, List.length_cons, List.length_nil]
/-- rows, one behind the other -/
theorem rows_rt {α : Type} {L : List Tok} {row : PS → α × PS} {toks : α → List Tok} {ok : α → Prop} (hrow : ∀ x a e, ok x → HasT L a (toks x ++ [sg 59]) → row ⟨a, 0, e⟩ = (x, ⟨a + (toks x).length, 0, e⟩)) (hne : ∀ x, ok x → ∃ t r, toks x = t :: r ∧ t.text ≠ [125]) (e : Nat) :
    ∀ (l : List α) (f n a : Nat), (∀ x ∈ l, ok x) → n + l.length ≤ 16 → l.length < f → HasT L a ((l.flatMap fun x => toks x ++ [sg 59]) ++ [sg 125]) → rowsP L row f n ⟨a, 0, e⟩ = (l, ⟨a + (l.flatMap fun x => toks x ++ [sg 59]).length + 1, 0, e⟩)
  | l, 0, n, a, _, _, hf, _ => by omega
  | [], f + 1, n, a, _, _, _, h => by
    have m1 := may_yes (e := e) (show HasT L a (sg 125 :: []) from h) (by decide)
    rw [rowsP, if_neg (by simp), if_pos (show mayB L ⟨a, 0, e⟩ [125] = true from m1)]
    rfl
  | x :: l, f + 1, n, a, hok, hn, hf, h => by
    have hx := hok x (by simp)
    obtain ⟨t, r, ht, ht2⟩ := hne x hx
    rw [List.flatMap_cons, List.append_assoc] at h
    have m1 : mayB L ⟨a, 0, e⟩ [125] = false := by
      have h' := h.left
      rw [ht] at h'
      exact may_not (e := e) (show HasT L a (t :: (r ++ [sg 59])) from h') ht2
    have r1 := hrow x a e hx h.left
    have d1 := need_yes (e := e) h.left.right (by decide)
    have hrest := h.right
    rw [List.length_append, List.length_singleton, ← Nat.add_assoc] at hrest
    have ih := rows_rt hrow hne e l f (n + 1) _ (fun y hy => hok y (by simp [hy])) (by simp only [List.length_cons] at hn; omega) (by simp only [List.length_cons] at hf; omega) hrest
    have hn16 : ¬ (n = 16 ∧ (cur L ⟨a, 0, e⟩).kind ≠ 4) := by simp only [List.length_cons] at hn; omega
    rw [rowsP, if_neg (by simp), m1, if_neg (by decide)]
    simp only
    rw [if_neg hn16, if_pos rfl, r1]
    simp only
    rw [show needP L ⟨a + (toks x).length, 0, e⟩ [59] = _ from d1, ih]
    simp only [List.flatMap_cons, List.length_append, List.length_cons, List.length_nil]
    congr 2; omega
end Go.Proofs.YtofhakbmmgpgdaaDoor
end

section
/- Declarations that show tells are parsed as they were, and told so again: plain law. -/
set_option linter.unusedSimpArgs false
namespace Go.Proofs.YtofhakbmmgpgdaaDoor
open Go Go.RowKit

def kwN (k : Nat) : List UInt8 := kwT (k : Int)
def fdT (en : Bool) (f : Fd) : List Pc := [.bl 32, .tk (nu f.tag), .bl 32, .tk (kw f.name)] ++ ((if en = true then [] else [.tk (sg 58), .bl 32] ++ (tyT f.ty).map Pc.tk) ++ [.tk (sg 59)])
def mdT (m : Md) : List Pc := [.bl 32] ++ ((if m.oneway = true then [.tk (kw [111, 110, 101, 119, 97, 121]), .bl 32] else []) ++ [.tk (nu m.tag), .bl 32, .tk (kw m.name), .tk (sg 40), .tk (kw m.inn), .tk (sg 41), .tk (sg 58), .bl 32, .tk (kw m.out), .tk (sg 59)])
def dcT (d : Dc) : List Pc := [.tk (kw (kwN d.kind)), .bl 32, .tk (kw d.name), .bl 32, .tk (sg 123)] ++ (d.fields.flatMap (fdT (decide (d.kind = 3))) ++ (d.methods.flatMap mdT ++ [.bl 32, .tk (sg 125), .bl 10]))
theorem toks_tk : ∀ l : List Tok, toksP (l.map Pc.tk) = l
  | [] => rfl
  | t :: r => congrArg (t :: ·) (toks_tk r)
theorem toks_fd (en : Bool) (f : Fd) : toksP (fdT en f) = fdK en f ++ [sg 59] := by
  unfold fdT fdK
  cases en <;> simp [toks_app, toksP, toks_tk]
theorem toks_md (m : Md) : toksP (mdT m) = mdK m ++ [sg 59] := by
  unfold mdT mdK
  cases m.oneway <;> simp [toks_app, toksP]
theorem toks_flat {α : Type} (f : α → List Pc) : ∀ l : List α, toksP (l.flatMap f) = l.flatMap fun x => toksP (f x)
  | [] => rfl
  | x :: r => by rw [List.flatMap_cons, List.flatMap_cons, toks_app, toks_flat f r]
theorem toks_dc (d : Dc) : toksP (dcT d) = [kw (kwN d.kind), kw d.name, sg 123] ++ ((d.fields.flatMap fun f => fdK (decide (d.kind = 3)) f ++ [sg 59]) ++ ((d.methods.flatMap fun m => mdK m ++ [sg 59]) ++ [sg 125])) := by
  unfold dcT
  simp only [toks_app, toks_flat, toks_fd, toks_md]
  rfl
theorem fd_first (en : Bool) (f : Fd) : ∃ t r, fdK en f = t :: r ∧ t.text ≠ [125] := by
  refine ⟨nu f.tag, kw f.name :: (if en = true then [] else sg 58 :: tyT f.ty), rfl, fun he => ?_⟩
  have := dec_digs f.tag 125 (by rw [show Lib.decDigits f.tag = (nu f.tag).text from rfl, he]; simp)
  exact absurd this (by decide)
theorem md_first (m : Md) : ∃ t r, mdK m = t :: r ∧ t.text ≠ [125] := by
  unfold mdK
  cases m.oneway with
  | true => exact ⟨_, _, rfl, by decide⟩
  | false =>
    refine ⟨nu m.tag, [kw m.name, sg 40, kw m.inn, sg 41, sg 58, kw m.out], rfl, fun he => ?_⟩
    have := dec_digs m.tag 125 (by rw [show Lib.decDigits m.tag = (nu m.tag).text from rfl, he]; simp)
    exact absurd this (by decide)
theorem kind_rt {L : List Tok} {a e k : Nat} {r : List Tok} (h1 : 1 ≤ k) (h4 : k ≤ 4) (h : HasT L a (kw (kwN k) :: r)) : kindP L ⟨a, 0, e⟩ = k ∧ kindQ L ⟨a, 0, e⟩ = ⟨a + 1, 0, e⟩ := by
  have hk : kindP L ⟨a, 0, e⟩ = k := by
    unfold kindP
    rcases (by omega : k = 1 ∨ k = 2 ∨ k = 3 ∨ k = 4) with rfl | rfl | rfl | rfl
    · rw [show mayB L ⟨a, 0, e⟩ [115, 116, 114, 117, 99, 116] = true from may_yes (e := e) h (by decide), if_pos rfl]
    · rw [may_not (e := e) h (s := [115, 116, 114, 117, 99, 116]) (by decide), if_neg (by decide), show mayB L ⟨a, 0, e⟩ [117, 110, 105, 111, 110] = true from may_yes (e := e) h (by decide), if_pos rfl]
    · rw [may_not (e := e) h (s := [115, 116, 114, 117, 99, 116]) (by decide), if_neg (by decide), may_not (e := e) h (s := [117, 110, 105, 111, 110]) (by decide), if_neg (by decide), show mayB L ⟨a, 0, e⟩ [101, 110, 117, 109] = true from may_yes (e := e) h (by decide), if_pos rfl]
    · rw [may_not (e := e) h (s := [115, 116, 114, 117, 99, 116]) (by decide), if_neg (by decide), may_not (e := e) h (s := [117, 110, 105, 111, 110]) (by decide), if_neg (by decide), may_not (e := e) h (s := [101, 110, 117, 109]) (by decide), if_neg (by decide), show mayB L ⟨a, 0, e⟩ [115, 101, 114, 118, 105, 99, 101] = true from may_yes (e := e) h (by decide), if_pos rfl]
  refine ⟨hk, ?_⟩
  unfold kindQ
  rw [hk, if_neg (by omega)]
theorem decl_rt {L : List Tok} {a e : Nat} {d : Dc} (hd : DcOk d) (h : HasT L a (toksP (dcT d))) : ∃ x, declP L ⟨a, 0, e⟩ = ({ d with at_ := x }, ⟨a + (toksP (dcT d)).length, 0, e⟩) := by
  refine ⟨(cur L ⟨a, 0, e⟩).at_, ?_⟩
  rw [toks_dc] at h ⊢
  have h' : HasT L a (kw (kwN d.kind) :: kw d.name :: sg 123 :: ((d.fields.flatMap fun f => fdK (decide (d.kind = 3)) f ++ [sg 59]) ++ ((d.methods.flatMap fun m => mdK m ++ [sg 59]) ++ [sg 125]))) := h
  obtain ⟨k1, k2⟩ := kind_rt (e := e) hd.k1 hd.k4 h'
  obtain ⟨m1, m2⟩ := name_yes (e := e) h'.tail hd.nm
  have d1 := need_yes (e := e) h'.tail.tail (by decide)
  have hr := h'.tail.tail.tail
  clear h h'
  obtain ⟨kd, nm, fs, ms, pa⟩ := d
  obtain ⟨_, _, _, q4, q5, q6, q7, q8, q9⟩ := hd
  simp only at *
  unfold declP
  simp only
  rw [k1, k2, m1, m2, show needP L ⟨a + 1 + 1, 0, e⟩ [123] = _ from d1]
  by_cases hk4 : kd = 4
  · have h6 := q6 hk4
    subst h6
    subst hk4
    have hr' : HasT L (a + 1 + 1 + 1) ((ms.flatMap fun m => mdK m ++ [sg 59]) ++ [sg 125]) := by simpa using hr
    have r1 := rows_rt (row := methodP L) (toks := mdK) (ok := MdOk) (fun x a e hx hh => method_rt hx hh) (fun x _ => md_first x) e ms 18 0 (a + 1 + 1 + 1) q9 (by omega) (by omega) hr'
    rw [if_pos rfl, r1]
    simp only [List.flatMap_nil, List.nil_append, List.length_append, List.length_cons, List.length_nil]
    congr 2; omega
  · have h7 := q7 hk4
    subst h7
    have hr' : HasT L (a + 1 + 1 + 1) ((fs.flatMap fun f => fdK (decide (kd = 3)) f ++ [sg 59]) ++ [sg 125]) := by simpa using hr
    rw [if_neg hk4]
    by_cases hk3 : kd = 3
    · rw [decide_eq_true hk3] at *
      have r1 := rows_rt (row := valueP L) (toks := fdK true) (ok := FdOk true) (fun x a e hx hh => value_rt hx hh) (fun x _ => fd_first true x) e fs 18 0 (a + 1 + 1 + 1) q8 (by omega) (by omega) hr'
      rw [if_pos hk3, r1]
      simp only [List.flatMap_nil, List.nil_append, List.length_append, List.length_cons, List.length_nil]
      congr 2; omega
    · rw [decide_eq_false hk3] at *
      have r1 := rows_rt (row := fieldP L) (toks := fdK false) (ok := FdOk false) (fun x a e hx hh => field_rt hx hh) (fun x _ => fd_first false x) e fs 18 0 (a + 1 + 1 + 1) q8 (by omega) (by omega) hr'
      rw [if_neg hk3, r1]
      simp only [List.flatMap_nil, List.nil_append, List.length_append, List.length_cons, List.length_nil]
      congr 2; omega
theorem decls_rt {L : List Tok} (e : Nat) : ∀ (l : List Dc) (f n a : Nat), (∀ d ∈ l, DcOk d) → n + l.length ≤ 16 → l.length < f → HasT L a ((l.flatMap fun d => toksP (dcT d)) ++ [⟨4, [], 0, 0⟩]) → ∃ l' p, declsP L f n ⟨a, 0, e⟩ = (l', p) ∧ p.err = 0 ∧ LikeDs l' l
  | l, 0, n, a, _, _, hf, _ => by omega
  | [], f + 1, n, a, _, _, _, h => by
    have hk := (HasT.head (e := e) (show HasT L a (⟨4, [], 0, 0⟩ :: []) from h)).1
    exact ⟨[], _, decls_stop (.inr hk), rfl, trivial⟩
  | d :: l, f + 1, n, a, hok, hn, hf, h => by
    rw [List.flatMap_cons, List.append_assoc] at h
    have hd := hok d (by simp)
    obtain ⟨x, hx⟩ := decl_rt (e := e) hd h.left
    have hk : (cur L ⟨a, 0, e⟩).kind ≠ 4 := by
      have h' := h.left
      rw [toks_dc] at h'
      have := (HasT.head (e := e) (show HasT L a (kw (kwN d.kind) :: _) from h')).1
      rw [this]; show (1 : Nat) ≠ 4; decide
    obtain ⟨l', p, i1, i2, i3⟩ := decls_rt e l f (n + 1) _ (fun y hy => hok y (by simp [hy])) (by simp only [List.length_cons] at hn; omega) (by simp only [List.length_cons] at hf; omega) h.right
    refine ⟨{ d with at_ := x } :: l', p, ?_, i2, ⟨⟨rfl, rfl, rfl, rfl⟩, i3⟩⟩
    rw [decls_step rfl hk (by simp only [List.length_cons] at hn; omega), hx]
    simp only
    rw [i1]
theorem sep_tk : ∀ {l : List Pc}, SepP l → ∀ {m : List Pc}, SepP m → (∀ t, l.getLast? = some (.tk t) → NextP t m) → SepP (l ++ m)
  | [], _, m, h, _ => h
  | .bl c :: r, h, m, hm, hl => ⟨h.1, sep_tk h.2 hm fun t ht => hl t (by
      cases r with
      | nil => simp at ht
      | cons y r => rw [List.getLast?_cons_cons]; exact ht)⟩
  | .tk t :: r, h, m, hm, hl => by
    refine ⟨h.1, ?_, sep_tk h.2.2 hm fun u hu => hl u (by
      cases r with
      | nil => simp at hu
      | cons y r => rw [List.getLast?_cons_cons]; exact hu)⟩
    cases r with
    | nil => exact hl t rfl
    | cons y r => cases y <;> exact h.2.1
/-- a sign may stand ahead of all -/
theorem sep_sign {l : List Pc} (h : SepP l) {c : UInt8} (hc : isSgn c = true) {m : List Pc} (hm : SepP m) : SepP (l ++ .tk (sg c) :: m) :=
  sep_tk h ⟨sg_ok hc, by cases m with
    | nil => trivial
    | cons y m => cases y with
      | bl _ => trivial
      | tk _ => exact .inl rfl, hm⟩ fun _ _ => .inr rfl
theorem sep_blank {l : List Pc} (h : SepP l) {c : UInt8} (hc : isBl c = true) {m : List Pc} (hm : SepP m) : SepP (l ++ .bl c :: m) :=
  sep_tk h ⟨hc, hm⟩ fun _ _ => trivial
theorem sep_one {t : Tok} (h : TokOk t) : SepP [.tk t] := ⟨h, trivial, trivial⟩
theorem nameOk_tok {s : List UInt8} (h : nameOk s = true) : TokOk (kw s) := by
  unfold nameOk at h
  simp only [Bool.and_eq_true] at h
  exact kw_ok h.1
theorem word_tok {s : List UInt8} (h : s ∈ wordsL) : TokOk (kw s) := kw_ok (words_nm s h)
theorem sep_ty : ∀ (t : Ty) (n : Nat), TyOk n t → SepP ((tyT t).map Pc.tk)
  | t, 0, h => by simp [TyOk] at h
  | .leaf k, n + 1, h => by
    have h : 1 ≤ k ∧ k ≤ 5 := by simpa [TyOk] using h
    refine sep_one (word_tok ?_)
    rcases (by omega : k = 1 ∨ k = 2 ∨ k = 3 ∨ k = 4 ∨ k = 5) with rfl | rfl | rfl | rfl | rfl <;> decide
  | .named s, n + 1, h => sep_one (nameOk_tok (by simpa [TyOk] using h))
  | .list t, n + 1, h => by
    have ih := sep_ty t n (by simpa [TyOk] using h)
    have := sep_sign (sep_one (word_tok (s := [108, 105, 115, 116]) (by decide))) (c := 60) (by decide) (sep_sign ih (c := 62) (by decide) (m := []) trivial)
    simpa [tyT] using this
  | .map a b, n + 1, h => by
    have h : TyOk n a ∧ TyOk n b := by simpa [TyOk] using h
    have ia := sep_ty a n h.1
    have ib := sep_ty b n h.2
    have := sep_sign (sep_one (word_tok (s := [109, 97, 112]) (by decide))) (c := 60) (by decide) (sep_sign ia (c := 44) (by decide) (sep_sign ib (c := 62) (by decide) (m := []) trivial))
    simpa [tyT] using this
  | .opt t, n + 1, h => by
    have h : notOpt t = true ∧ TyOk (n + 1) t := by simpa [TyOk] using h
    have := sep_sign (sep_ty t (n + 1) h.2) (c := 63) (by decide) (m := []) trivial
    simpa [tyT] using this
theorem sep_fd {en : Bool} {f : Fd} (h : FdOk en f) {m : List Pc} (hm : SepP m) : SepP (fdT en f ++ m) := by
  obtain ⟨h1, h2, h3⟩ := h
  unfold fdT
  have e1 : SepP ([.tk (kw f.name)] ++ (((if en = true then [] else [.tk (sg 58), .bl 32] ++ (tyT f.ty).map Pc.tk) ++ [.tk (sg 59)]) ++ m)) := by
    cases en with
    | true => exact sep_sign (sep_one (nameOk_tok h2)) (c := 59) (by decide) hm
    | false =>
      rw [if_neg (by decide)] at h3
      have := sep_sign (sep_one (nameOk_tok h2)) (c := 58) (by decide) (m := .bl 32 :: ((tyT f.ty).map Pc.tk ++ .tk (sg 59) :: m)) ⟨by decide, sep_sign (sep_ty _ _ h3) (by decide) hm⟩
      simpa using this
  have e2 := sep_blank (l := [.bl 32, .tk (nu f.tag)]) ⟨by decide, sep_one (nu_ok h1)⟩ (c := 32) (by decide) e1
  simpa using e2
theorem sep_md {x : Md} (h : MdOk x) {m : List Pc} (hm : SepP m) : SepP (mdT x ++ m) := by
  obtain ⟨h1, h2, h3, h4⟩ := h
  unfold mdT
  have e1 : SepP ([.tk (nu x.tag), .bl 32, .tk (kw x.name), .tk (sg 40), .tk (kw x.inn), .tk (sg 41), .tk (sg 58), .bl 32, .tk (kw x.out), .tk (sg 59)] ++ m) := by
    refine ⟨nu_ok h1, trivial, by decide, nameOk_tok h2, .inr rfl, sg_ok (by decide), .inl rfl, nameOk_tok h3, .inr rfl, sg_ok (by decide), .inl rfl, sg_ok (by decide), trivial, by decide, nameOk_tok h4, .inr rfl, ?_⟩
    exact sep_sign (l := []) trivial (by decide) hm
  cases x.oneway with
  | true => exact ⟨by decide, word_tok (by decide), trivial, by decide, e1⟩
  | false => exact ⟨by decide, e1⟩
theorem sep_flat {α : Type} {f : α → List Pc} {ok : α → Prop} (hf : ∀ x, ok x → ∀ m, SepP m → SepP (f x ++ m)) : ∀ (l : List α), (∀ x ∈ l, ok x) → ∀ {m : List Pc}, SepP m → SepP (l.flatMap f ++ m)
  | [], _, _, hm => hm
  | x :: r, h, m, hm => by
    rw [List.flatMap_cons, List.append_assoc]
    exact hf x (h x (by simp)) _ (sep_flat hf r (fun y hy => h y (by simp [hy])) hm)
theorem sep_dc {d : Dc} (h : DcOk d) {m : List Pc} (hm : SepP m) : SepP (dcT d ++ m) := by
  have e1 : SepP (d.fields.flatMap (fdT (decide (d.kind = 3))) ++ (d.methods.flatMap mdT ++ ([.bl 32, .tk (sg 125), .bl 10] ++ m))) := by
    refine sep_flat (ok := FdOk (decide (d.kind = 3))) (fun x hx m hm => sep_fd hx hm) _ h.fs (sep_flat (ok := MdOk) (fun x hx m hm => sep_md hx hm) _ h.ms ?_)
    exact ⟨by decide, sep_sign (l := []) trivial (by decide) (m := .bl 10 :: m) ⟨by decide, hm⟩⟩
  have hk : TokOk (kw (kwN d.kind)) := by
    refine word_tok ?_
    rcases (by have := h.k1; have := h.k4; omega : d.kind = 1 ∨ d.kind = 2 ∨ d.kind = 3 ∨ d.kind = 4) with e | e | e | e <;> rw [e] <;> decide
  have e2 : SepP ([.tk (kw (kwN d.kind)), .bl 32, .tk (kw d.name), .bl 32] ++ .tk (sg 123) :: (d.fields.flatMap (fdT (decide (d.kind = 3))) ++ (d.methods.flatMap mdT ++ ([.bl 32, .tk (sg 125), .bl 10] ++ m)))) :=
    sep_sign (l := [.tk (kw (kwN d.kind)), .bl 32, .tk (kw d.name), .bl 32]) ⟨hk, trivial, by decide, nameOk_tok h.nm, trivial, by decide, trivial⟩ (by decide) e1
  unfold dcT
  simpa using e2
/-- the text of declarations -/
def showP (l : List Dc) : List UInt8 := flatP (l.flatMap dcT)
theorem parse_rt {l : List Dc} (h : ∀ d ∈ l, DcOk d) (hl : l.length ≤ 16) (hs : (showP l).length ≤ 1024) : ∃ l', parseT (showP l) = (l', 0, 0) ∧ LikeDs l' l := by
  have hsep : SepP (l.flatMap dcT ++ []) := sep_flat (ok := DcOk) (fun x hx m hm => sep_dc hx hm) l h (m := []) trivial
  rw [List.append_nil] at hsep
  obtain ⟨ts, h1, h2⟩ := lex_pcs _ [] hsep
  have ht : tokT (showP l) = (ts ++ [⟨4, [], 0, (showP l).length⟩], 0, 0) := by
    unfold tokT; rw [if_neg (by omega)]; exact h1
  have hlen : ts.length = (toksP (l.flatMap dcT)).length := by have := congrArg List.length h2; simpa using this
  have hhas : HasT (ts ++ [⟨4, [], 0, (showP l).length⟩]) 0 ((l.flatMap fun d => toksP (dcT d)) ++ [⟨4, [], 0, 0⟩]) := by
    rw [← toks_flat]
    intro i t hi
    rw [Nat.zero_add, List.getD_eq_getElem?_getD]
    by_cases hi1 : i < (toksP (l.flatMap dcT)).length
    · rw [List.getElem?_append_left hi1] at hi
      rw [List.getElem?_append_left (by omega)]
      have := congrArg (·[i]?) h2
      simp only [List.getElem?_map, hi, Option.map_some] at this
      cases ht' : ts[i]? with
      | none => rw [ht'] at this; cases this
      | some u => rw [ht'] at this; simpa using this
    · rw [List.getElem?_append_right (by omega)] at hi ⊢
      rw [hlen]
      cases hj : i - (toksP (l.flatMap dcT)).length with
      | zero => rw [hj] at hi; cases hi; rfl
      | succ j => rw [hj] at hi; simp at hi
  obtain ⟨l', p, d1, d2, d3⟩ := decls_rt 0 l 17 0 0 h (by omega) (by omega) hhas
  refine ⟨l', ?_, d3⟩
  unfold parseT
  simp only
  rw [ht]
  simp only
  rw [d1]
  simp [d2]
end Go.Proofs.YtofhakbmmgpgdaaDoor
end

section
/- What was parsed may be told: plain law; its text is the pieces'. -/
set_option linter.unusedSimpArgs false
namespace Go.Proofs.YtofhakbmmgpgdaaDoor
open Go Go.RowKit

def Ty.gt : Ty → GT
  | .leaf k => .mk (k : Nat) [] []
  | .named s => .mk 6 s []
  | .list t => .mk 7 [] [t.gt]
  | .map a b => .mk 8 [] [a.gt, b.gt]
  | .opt t => .mk 9 [] [t.gt]
def Fd.gf (f : Fd) : GF := ⟨(f.tag : Nat), f.name, f.ty.gt⟩
def Md.gm (m : Md) : GM := ⟨(m.tag : Nat), m.name, m.inn, m.out, m.oneway⟩
def Dc.gd (d : Dc) : GD := ⟨(d.kind : Nat), d.name, if d.kind = 4 then [] else d.fields.map Fd.gf, if d.kind = 4 then d.methods.map Md.gm else [], (d.at_ : Nat)⟩
theorem like_gd {x y : Dc} (h : likeD x y) : x.gd.kind = y.gd.kind ∧ x.gd.name = y.gd.name ∧ x.gd.fields = y.gd.fields ∧ x.gd.methods = y.gd.methods := by
  obtain ⟨h1, h2, h3, h4⟩ := h
  unfold Dc.gd
  rw [h1, h2, h3, h4]
  exact ⟨rfl, rfl, rfl, rfl⟩
theorem declG_like {x y : GD} (h : x.kind = y.kind ∧ x.name = y.name ∧ x.fields = y.fields ∧ x.methods = y.methods) (s : List UInt8) (ok : Bool) : declG x s ok = declG y s ok := by
  unfold declG
  rw [h.1, h.2.1, h.2.2.1, h.2.2.2]
theorem declsG_like : ∀ {a b : List Dc}, LikeDs a b → ∀ (s : List UInt8) (ok : Bool), declsG (a.map Dc.gd) s ok = declsG (b.map Dc.gd) s ok
  | [], [], _, _, _ => rfl
  | x :: a, y :: b, h, s, ok => by
    rw [List.map_cons, List.map_cons, declsG, declsG, declG_like (like_gd h.1), declsG_like h.2]
theorem textG_like {a b : List Dc} (h : LikeDs a b) : textG (a.map Dc.gd) = textG (b.map Dc.gd) := by
  unfold textG
  rw [List.length_map, List.length_map, h.len, declsG_like h]
/-- the text of a type -/
def flatT (l : List Tok) : List UInt8 := l.flatMap fun t => t.text
theorem flat_tk (l : List Tok) : flatP (l.map Pc.tk) = flatT l := by
  unfold flatP flatT
  rw [List.flatMap_map]
  rfl
theorem gt_kind {t : Ty} {n : Nat} (h : TyOk n t) (ho : notOpt t = true) : (t.gt.kind == 9) = false := by
  cases n with
  | zero => simp [TyOk] at h
  | succ n =>
    cases t with
    | leaf k =>
      have h : 1 ≤ k ∧ k ≤ 5 := by simpa [TyOk] using h
      show ((k : Int) == 9) = false
      simp; omega
    | named s => rfl
    | list t => rfl
    | map a b => rfl
    | opt t => cases ho
theorem typ_show : ∀ (t : Ty) (n : Nat), TyOk (n + 1) t → n ≤ 8 → ∀ s, typG t.gt (8 - n) s true = (s ++ flatT (tyT t), true)
  | .leaf k, n, h, hn, s => by
    have h : 1 ≤ k ∧ k ≤ 5 := by simpa [TyOk] using h
    have hd : decide (8 < 8 - n) = false := by rw [decide_eq_false_iff_not]; omega
    rw [Ty.gt, typG_mk]
    unfold badT tyT flatT wordN
    rw [hd]
    rcases (by omega : k = 1 ∨ k = 2 ∨ k = 3 ∨ k = 4 ∨ k = 5) with rfl | rfl | rfl | rfl | rfl <;> (rw [if_neg (by decide), if_neg (by decide), if_neg (by decide), if_neg (by decide), rowG]; simp [kw, wordT])
  | .named nm, n, h, hn, s => by
    have h : nameOk nm = true := by simpa [TyOk] using h
    have hd : decide (8 < 8 - n) = false := by rw [decide_eq_false_iff_not]; omega
    rw [Ty.gt, typG_mk]
    unfold badT tyT flatT
    rw [hd, if_neg (by simp [arityT]), if_pos rfl, h]
    simp [kw]
  | .list t, n, h, hn, s => by
    have h : TyOk n t := by simpa [TyOk] using h
    obtain ⟨n, rfl⟩ : ∃ x, n = x + 1 := by cases n with | zero => simp [TyOk] at h | succ x => exact ⟨x, rfl⟩
    have hd : decide (8 < 8 - (n + 1)) = false := by rw [decide_eq_false_iff_not]; omega
    have ih := typ_show t n h (by omega)
    have hb : badT (8 - (n + 1)) 7 [] [t.gt].length = false := by unfold badT; rw [hd]; rfl
    rw [Ty.gt, typG_mk, hb, if_neg (by simp), if_neg (by decide), if_neg (by decide), if_neg (by decide)]
    rw [show 8 - (n + 1) + 1 = 8 - n by omega, rowG, ih, rowG]
    rw [tyT]
    unfold flatT
    simp [kw, sg, wordT, sepT]
  | .map a b, n, h, hn, s => by
    have h : TyOk n a ∧ TyOk n b := by simpa [TyOk] using h
    obtain ⟨n, rfl⟩ : ∃ x, n = x + 1 := by cases n with | zero => simp [TyOk] at h | succ x => exact ⟨x, rfl⟩
    have hd : decide (8 < 8 - (n + 1)) = false := by rw [decide_eq_false_iff_not]; omega
    have ia := typ_show a n h.1 (by omega)
    have ib := typ_show b n h.2 (by omega)
    have hb : badT (8 - (n + 1)) 8 [] [a.gt, b.gt].length = false := by unfold badT; rw [hd]; rfl
    rw [Ty.gt, typG_mk, hb, if_neg (by simp), if_neg (by decide), if_neg (by decide), if_neg (by decide)]
    rw [show 8 - (n + 1) + 1 = 8 - n by omega, rowG, ia, rowG, ib, rowG]
    rw [tyT]
    unfold flatT
    simp [kw, sg, wordT, sepT]
  | .opt t, n, h, hn, s => by
    have h : notOpt t = true ∧ TyOk (n + 1) t := by simpa [TyOk] using h
    have hd : decide (8 < 8 - n) = false := by rw [decide_eq_false_iff_not]; omega
    have ih := typ_show t n h.2 hn
    have hb : badT (8 - n) 9 [] [t.gt].length = false := by unfold badT; rw [hd]; rfl
    rw [Ty.gt, typG_mk, hb, if_neg (by simp), if_neg (by decide), if_pos rfl, optG, gt_kind h.2 h.1, Bool.not_false, ih]
    rw [tyT]
    unfold flatT
    simp [sg]
theorem itoa_nat (n : Nat) : Lib.itoa (n : Int) = Lib.decDigits n := by
  unfold Lib.itoa; rw [if_neg (by omega), Int.toNat_natCast]
theorem tagOk_nat {n : Nat} (h : n ≤ 9999) : tagOk (n : Int) = true := by
  unfold tagOk; simp; omega
theorem head_show (f : Fd) (s : List UInt8) : headG f.gf s = s ++ flatP [.bl 32, .tk (nu f.tag), .bl 32, .tk (kw f.name)] := by
  unfold headG Fd.gf flatP
  simp only [itoa_nat]
  simp [Pc.txt, nu, kw]
theorem field_show {en : Bool} {f : Fd} (h : FdOk en f) (s : List UInt8) : fieldG en f.gf s true = (s ++ flatP (fdT en f), true) := by
  obtain ⟨h1, h2, h3⟩ := h
  have hok : (true && tagOk f.gf.tag && nameOk f.gf.name) = true := by
    show (true && tagOk (f.tag : Int) && nameOk f.name) = true
    rw [tagOk_nat h1, h2]; rfl
  unfold fieldG
  rw [hok, head_show]
  cases en with
  | true =>
    rw [if_pos rfl] at h3
    have hz : noTy f.gf.ty = true := by show noTy f.ty.gt = true; rw [h3]; rfl
    rw [if_pos rfl, hz]
    unfold fdT
    rw [if_pos rfl]
    simp [flatP, Pc.txt, sg]
  | false =>
    rw [if_neg (by decide)] at h3
    have ht := typ_show f.ty 8 h3 (Nat.le_refl _)
    rw [if_neg (by decide)]
    unfold fdT
    rw [if_neg (by decide)]
    have e : f.gf.ty = f.ty.gt := rfl
    rw [e, show (0 : Nat) = 8 - 8 from rfl, ht]
    simp only [flat_app, flat_tk]
    simp [flatP, Pc.txt, sg]
theorem method_show {m : Md} (h : MdOk m) (s : List UInt8) : methodG m.gm s true = (s ++ flatP (mdT m), true) := by
  obtain ⟨h1, h2, h3, h4⟩ := h
  unfold methodG
  have hok : (true && tagOk m.gm.tag && nameOk m.gm.name && nameOk m.gm.inn && nameOk m.gm.out) = true := by
    show (true && tagOk (m.tag : Int) && nameOk m.name && nameOk m.inn && nameOk m.out) = true
    rw [tagOk_nat h1, h2, h3, h4]; rfl
  rw [hok]
  unfold mdT Md.gm
  simp only [itoa_nat]
  cases m.oneway <;> simp [flatP, Pc.txt, nu, kw, sg]
theorem fields_show (en : Bool) : ∀ (l : List Fd), (∀ f ∈ l, FdOk en f) → ∀ s, fieldsG en (l.map Fd.gf) s true = (s ++ flatP (l.flatMap (fdT en)), true)
  | [], _, s => by simp [fieldsG, flatP]
  | f :: r, h, s => by
    rw [List.map_cons, fieldsG, field_show (h f (by simp)), fields_show en r (fun x hx => h x (by simp [hx])), List.flatMap_cons, flat_app, List.append_assoc]
theorem methods_show : ∀ (l : List Md), (∀ m ∈ l, MdOk m) → ∀ s, methodsG (l.map Md.gm) s true = (s ++ flatP (l.flatMap mdT), true)
  | [], _, s => by simp [methodsG, flatP]
  | f :: r, h, s => by
    rw [List.map_cons, methodsG, method_show (h f (by simp)), methods_show r (fun x hx => h x (by simp [hx])), List.flatMap_cons, flat_app, List.append_assoc]
theorem decl_show {d : Dc} (h : DcOk d) (s : List UInt8) : declG d.gd s true = (s ++ flatP (dcT d), true) := by
  obtain ⟨k1, k4, nm, fl, ml, f4, m4, fs, ms⟩ := h
  obtain ⟨kd, n, fds, mds, pa⟩ := d
  simp only at *
  have hF : (Dc.mk kd n fds mds pa).gd.fields = fds.map Fd.gf := by
    unfold Dc.gd; simp only
    by_cases hk : kd = 4
    · rw [if_pos hk, f4 hk]; rfl
    · rw [if_neg hk]
  have hM : (Dc.mk kd n fds mds pa).gd.methods = mds.map Md.gm := by
    unfold Dc.gd; simp only
    by_cases hk : kd = 4
    · rw [if_pos hk]
    · rw [if_neg hk, m4 hk]; rfl
  have hb : badD (kd : Int) (fds.map Fd.gf).length (mds.map Md.gm).length = false := by
    unfold badD
    simp only [List.length_map, Bool.or_eq_false_iff, decide_eq_false_iff_not, Bool.and_eq_false_iff, Bool.not_eq_false', decide_eq_true_eq]
    refine ⟨by omega, by omega, by omega, by omega, ?_, ?_⟩
    · by_cases hk : kd = 4
      · right; rw [f4 hk]; simp
      · left; omega
    · by_cases hk : kd = 4
      · left; omega
      · right; rw [m4 hk]; simp
  have he : ((kd : Int) == 3) = decide (kd = 3) := by rw [Bool.eq_iff_iff]; simp; omega
  have e1 := fields_show (decide (kd = 3)) fds fs (s ++ [kwT (kd : Int), [32], n, [32, 123]].flatten)
  have e2 := methods_show mds ms (s ++ [kwT (kd : Int), [32], n, [32, 123]].flatten ++ flatP (fds.flatMap (fdT (decide (kd = 3)))))
  unfold declG
  rw [hF, hM]
  show (if badD (kd : Int) (fds.map Fd.gf).length (mds.map Md.gm).length = true then (s, false) else _) = _
  rw [hb, if_neg (by simp)]
  show ((methodsG (mds.map Md.gm) (fieldsG ((kd : Int) == 3) (fds.map Fd.gf) (s ++ [kwT (kd : Int), [32], n, [32, 123]].flatten) (true && nameOk n)).1 (fieldsG ((kd : Int) == 3) (fds.map Fd.gf) (s ++ [kwT (kd : Int), [32], n, [32, 123]].flatten) (true && nameOk n)).2).1 ++ [32, 125, 10], (methodsG (mds.map Md.gm) (fieldsG ((kd : Int) == 3) (fds.map Fd.gf) (s ++ [kwT (kd : Int), [32], n, [32, 123]].flatten) (true && nameOk n)).1 (fieldsG ((kd : Int) == 3) (fds.map Fd.gf) (s ++ [kwT (kd : Int), [32], n, [32, 123]].flatten) (true && nameOk n)).2).2) = _
  rw [nm, Bool.true_and, he, e1]
  simp only
  rw [e2]
  unfold dcT kwN
  simp only [flat_app]
  simp [flatP, Pc.txt, sg, kw]
theorem decls_show : ∀ (l : List Dc), (∀ d ∈ l, DcOk d) → ∀ s, declsG (l.map Dc.gd) s true = (s ++ showP l, true)
  | [], _, s => by simp [declsG, showP, flatP]
  | d :: r, h, s => by
    rw [List.map_cons, declsG, decl_show (h d (by simp)), decls_show r (fun x hx => h x (by simp [hx]))]
    unfold showP
    rw [List.flatMap_cons, flat_app, List.append_assoc]
theorem text_show {l : List Dc} (h : ∀ d ∈ l, DcOk d) (hl : l.length ≤ 16) : textG (l.map Dc.gd) = (showP l, 0) := by
  unfold textG
  rw [List.length_map, if_neg (by omega), decls_show l h [], if_pos rfl]
  rfl
/-- how long it is -/
theorem flat_bound {α : Type} (f : α → List Pc) (c : Nat) : ∀ (l : List α), (∀ x ∈ l, (flatP (f x)).length ≤ c) → (flatP (l.flatMap f)).length ≤ l.length * c
  | [], _ => by simp [flatP]
  | x :: r, h => by
    rw [List.flatMap_cons, flat_app, List.length_append, List.length_cons, Nat.succ_mul]
    have h1 := h x (by simp)
    have h2 := flat_bound f c r (fun y hy => h y (by simp [hy]))
    omega
theorem nameOk_len {s : List UInt8} (h : nameOk s = true) : s.length ≤ 16 := (nameOk_tok h).len
theorem ty_bound : ∀ (t : Ty) (n : Nat), TyOk n t → (flatT (tyT t)).length + 30 ≤ 30 * 2 ^ n ∧ (notOpt t = true → (flatT (tyT t)).length + 31 ≤ 30 * 2 ^ n)
  | t, 0, h => by simp [TyOk] at h
  | .leaf k, n + 1, h => by
    have h : 1 ≤ k ∧ k ≤ 5 := by simpa [TyOk] using h
    have hl : (flatT (tyT (.leaf k))).length ≤ 5 := by
      rcases (by omega : k = 1 ∨ k = 2 ∨ k = 3 ∨ k = 4 ∨ k = 5) with rfl | rfl | rfl | rfl | rfl <;> decide
    have : 1 ≤ 2 ^ n := Nat.pow_pos (by omega)
    rw [Nat.pow_succ]
    exact ⟨by omega, fun _ => by omega⟩
  | .named s, n + 1, h => by
    have h := nameOk_len (by simpa [TyOk] using h)
    have hl : (flatT (tyT (.named s))).length = s.length := by simp [flatT, tyT, kw]
    have : 1 ≤ 2 ^ n := Nat.pow_pos (by omega)
    rw [Nat.pow_succ, hl]
    exact ⟨by omega, fun _ => by omega⟩
  | .list t, n + 1, h => by
    have ih := (ty_bound t n (by simpa [TyOk] using h)).1
    have hl : (flatT (tyT (.list t))).length = (flatT (tyT t)).length + 6 := by simp [flatT, tyT, kw, sg]
    rw [Nat.pow_succ, hl]
    exact ⟨by omega, fun _ => by omega⟩
  | .map a b, n + 1, h => by
    have h : TyOk n a ∧ TyOk n b := by simpa [TyOk] using h
    have ia := (ty_bound a n h.1).1
    have ib := (ty_bound b n h.2).1
    have hl : (flatT (tyT (.map a b))).length = (flatT (tyT a)).length + (flatT (tyT b)).length + 6 := by simp [flatT, tyT, kw, sg]; omega
    rw [Nat.pow_succ, hl]
    exact ⟨by omega, fun _ => by omega⟩
  | .opt t, n + 1, h => by
    have h : notOpt t = true ∧ TyOk (n + 1) t := by simpa [TyOk] using h
    have ih := (ty_bound t (n + 1) h.2).2 h.1
    have hl : (flatT (tyT (.opt t))).length = (flatT (tyT t)).length + 1 := by simp [flatT, tyT, sg]
    rw [hl]
    exact ⟨by omega, fun h => by cases h⟩
theorem nu_len {n : Nat} (h : n ≤ 9999) : (nu n).text.length ≤ 4 := dec_len h
theorem fd_bound {en : Bool} {f : Fd} (h : FdOk en f) : (flatP (fdT en f)).length ≤ 20000 := by
  obtain ⟨h1, h2, h3⟩ := h
  have h4 := nameOk_len h2
  have h5 := nu_len h1
  unfold fdT
  cases en with
  | true =>
    rw [if_pos rfl]
    simp only [flatP, List.nil_append, List.cons_append, List.flatMap_cons, List.flatMap_nil, List.length_append, Pc.txt, List.length_cons, List.length_nil, sg, kw]
    omega
  | false =>
    rw [if_neg (by decide)] at h3 ⊢
    have hb := (ty_bound f.ty 9 h3).1
    simp only [flat_app, flat_tk, List.length_append]
    simp only [flatP, List.flatMap_cons, List.flatMap_nil, List.length_append, Pc.txt, List.length_cons, List.length_nil, sg, kw]
    omega
theorem md_bound {m : Md} (h : MdOk m) : (flatP (mdT m)).length ≤ 20000 := by
  obtain ⟨h1, h2, h3, h4⟩ := h
  have h2 := nameOk_len h2
  have h3 := nameOk_len h3
  have h4 := nameOk_len h4
  have h5 := nu_len h1
  unfold mdT
  cases m.oneway <;>
  · simp only [if_true, if_false, Bool.false_eq_true, flatP, List.nil_append, List.cons_append, List.flatMap_cons, List.flatMap_nil, List.length_append, Pc.txt, List.length_cons, List.length_nil, sg, kw]
    omega
theorem dc_bound {d : Dc} (h : DcOk d) : (flatP (dcT d)).length ≤ 1000000 := by
  have h1 := flat_bound (fdT (decide (d.kind = 3))) 20000 d.fields fun x hx => fd_bound (h.fs x hx)
  have h2 := flat_bound mdT 20000 d.methods fun x hx => md_bound (h.ms x hx)
  have h3 := nameOk_len h.nm
  have hf := h.fl
  have hm := h.ml
  have hk : (kwN d.kind).length ≤ 7 := by
    rcases (by have := h.k1; have := h.k4; omega : d.kind = 1 ∨ d.kind = 2 ∨ d.kind = 3 ∨ d.kind = 4) with e | e | e | e <;> rw [e] <;> decide
  unfold dcT
  simp only [flat_app, List.length_append]
  generalize (flatP (d.fields.flatMap (fdT (decide (d.kind = 3))))).length = x1 at *
  generalize (flatP (d.methods.flatMap mdT)).length = x2 at *
  simp only [flatP, List.flatMap_cons, List.flatMap_nil, List.length_append, Pc.txt, List.length_cons, List.length_nil, sg, kw]
  omega
theorem show_bound {l : List Dc} (h : ∀ d ∈ l, DcOk d) (hl : l.length ≤ 16) : (showP l).length ≤ 16000000 := by
  have := flat_bound dcT 1000000 l fun x hx => dc_bound (h x hx)
  unfold showP
  omega
end Go.Proofs.YtofhakbmmgpgdaaDoor
end
