/- The parser in plain words: which declarations tokens are. -/
import Derived.Test.YtofhakbmmgpgdaaLexP
namespace Go.Proofs.Ytofhakbmmgpgdaa
open Go Go.RowKit

inductive Ty where
  | leaf (k : Nat)
  | named (s : List UInt8)
  | list (t : Ty)
  | map (k v : Ty)
  | opt (t : Ty)
structure Fd where
  tag : Nat
  name : List UInt8
  ty : Ty
structure Md where
  tag : Nat
  name : List UInt8
  inn : List UInt8
  out : List UInt8
  oneway : Bool
structure Dc where
  kind : Nat
  name : List UInt8
  fields : List Fd
  methods : List Md
  at_ : Nat
/-- where the parser is, and what is wrong -/
structure PS where
  at_ : Nat
  err : Nat
  eat : Nat
/-- the words of the language -/
def wordsL : List (List UInt8) := [[115, 116, 114, 117, 99, 116], [117, 110, 105, 111, 110], [101, 110, 117, 109], [115, 101, 114, 118, 105, 99, 101], [98, 111, 111, 108], [105, 110, 116], [117, 105, 110, 116], [116, 101, 120, 116], [98, 121, 116, 101, 115], [108, 105, 115, 116], [109, 97, 112], [111, 110, 101, 119, 97, 121]]
def wordB (s : List UInt8) : Bool := decide (s ∈ wordsL)
def cur (L : List Tok) (p : PS) : Tok := L.getD p.at_ ⟨4, [], 0, 0⟩
def failP (L : List Tok) (p : PS) (e : Nat) : PS := if p.err = 0 then ⟨p.at_, e, (cur L p).at_⟩ else p
def mayB (L : List Tok) (p : PS) (s : List UInt8) : Bool := decide (p.err = 0 ∧ (cur L p).text = s ∧ s ≠ [])
def mayP (L : List Tok) (p : PS) (s : List UInt8) : PS := if mayB L p s = true then { p with at_ := p.at_ + 1 } else p
def needP (L : List Tok) (p : PS) (s : List UInt8) : PS := if mayB L p s = true then { p with at_ := p.at_ + 1 } else failP L p 5
def nameB (L : List Tok) (p : PS) : Bool := decide (p.err = 0 ∧ (cur L p).kind = 1) && !(wordB (cur L p).text)
def nameP (L : List Tok) (p : PS) : PS := if nameB L p = true then { p with at_ := p.at_ + 1 } else failP L p 5
def nameV (L : List Tok) (p : PS) : List UInt8 := if nameB L p = true then (cur L p).text else []
def numB (L : List Tok) (p : PS) : Bool := decide (p.err = 0 ∧ (cur L p).kind = 2)
def numP (L : List Tok) (p : PS) : PS := if numB L p = true then { p with at_ := p.at_ + 1 } else failP L p 5
def numV (L : List Tok) (p : PS) : Nat := if numB L p = true then (cur L p).num else 0
def plainN (s : List UInt8) : Nat := if s = [98, 111, 111, 108] then 1 else if s = [105, 110, 116] then 2 else if s = [117, 105, 110, 116] then 3 else if s = [116, 101, 120, 116] then 4 else if s = [98, 121, 116, 101, 115] then 5 else 0
/-- a type: n deep at most -/
def typP (L : List Tok) : Nat → PS → Ty × PS
  | 0, p => (.leaf 0, failP L p 10)
  | n + 1, p => if p.err ≠ 0 then (.leaf 0, p) else
    let r : Ty × PS :=
      if 0 < plainN (cur L p).text then (.leaf (plainN (cur L p).text), { p with at_ := p.at_ + 1 })
      else if mayB L p [108, 105, 115, 116] = true then
        let a := typP L n (needP L { p with at_ := p.at_ + 1 } [60])
        (.list a.1, needP L a.2 [62])
      else if mayB L p [109, 97, 112] = true then
        let a := typP L n (needP L { p with at_ := p.at_ + 1 } [60])
        let b := typP L n (needP L a.2 [44])
        (.map a.1 b.1, needP L b.2 [62])
      else (.named (nameV L p), nameP L p)
    if mayB L r.2 [63] = true then (.opt r.1, { r.2 with at_ := r.2.at_ + 1 }) else r
def baseP (L : List Tok) (n : Nat) (p : PS) : Ty × PS :=
  if 0 < plainN (cur L p).text then (.leaf (plainN (cur L p).text), { p with at_ := p.at_ + 1 })
  else if mayB L p [108, 105, 115, 116] = true then
    let a := typP L n (needP L { p with at_ := p.at_ + 1 } [60])
    (.list a.1, needP L a.2 [62])
  else if mayB L p [109, 97, 112] = true then
    let a := typP L n (needP L { p with at_ := p.at_ + 1 } [60])
    let b := typP L n (needP L a.2 [44])
    (.map a.1 b.1, needP L b.2 [62])
  else (.named (nameV L p), nameP L p)
theorem typP_succ (L : List Tok) (n : Nat) (p : PS) : typP L (n + 1) p = if p.err ≠ 0 then (.leaf 0, p) else if mayB L (baseP L n p).2 [63] = true then (.opt (baseP L n p).1, { (baseP L n p).2 with at_ := (baseP L n p).2.at_ + 1 }) else baseP L n p := by
  rw [typP]; rfl
def fieldP (L : List Tok) (p : PS) : Fd × PS :=
  let q := needP L (nameP L (numP L p)) [58]
  (⟨numV L p, nameV L (numP L p), (typP L 9 q).1⟩, (typP L 9 q).2)
def valueP (L : List Tok) (p : PS) : Fd × PS := (⟨numV L p, nameV L (numP L p), .leaf 0⟩, nameP L (numP L p))
def methodP (L : List Tok) (p : PS) : Md × PS :=
  let p1 := mayP L p [111, 110, 101, 119, 97, 121]
  let p2 := numP L p1
  let p3 := needP L (nameP L p2) [40]
  let p4 := needP L (needP L (nameP L p3) [41]) [58]
  (⟨numV L p1, nameV L p2, nameV L p3, nameV L p4, mayB L p [111, 110, 101, 119, 97, 121]⟩, nameP L p4)
/-- rows: f more rounds at most, n rounds ahead -/
def rowsP {α : Type} (L : List Tok) (row : PS → α × PS) : Nat → Nat → PS → List α × PS
  | 0, _, p => ([], p)
  | f + 1, n, p =>
    if ¬ (p.err = 0) then ([], p)
    else if mayB L p [125] = true then ([], { p with at_ := p.at_ + 1 })
    else
      let q := if n = 16 ∧ (cur L p).kind ≠ 4 then failP L p 3 else p
      if q.err = 0 then
        let r := row q
        let s := rowsP L row f (n + 1) (needP L r.2 [59])
        (r.1 :: s.1, s.2)
      else rowsP L row f (n + 1) q
def kindP (L : List Tok) (p : PS) : Nat := if mayB L p [115, 116, 114, 117, 99, 116] = true then 1 else if mayB L p [117, 110, 105, 111, 110] = true then 2 else if mayB L p [101, 110, 117, 109] = true then 3 else if mayB L p [115, 101, 114, 118, 105, 99, 101] = true then 4 else 0
def kindQ (L : List Tok) (p : PS) : PS := if kindP L p = 0 then failP L p 5 else { p with at_ := p.at_ + 1 }
def declP (L : List Tok) (p : PS) : Dc × PS :=
  let p1 := kindQ L p
  let p2 := needP L (nameP L p1) [123]
  if kindP L p = 4 then
    let r := rowsP L (methodP L) 18 0 p2
    (⟨4, nameV L p1, [], r.1, (cur L p).at_⟩, r.2)
  else
    let r := rowsP L (if kindP L p = 3 then valueP L else fieldP L) 18 0 p2
    (⟨kindP L p, nameV L p1, r.1, [], (cur L p).at_⟩, r.2)
/-- declarations: f more at most, k ahead -/
def declsP (L : List Tok) : Nat → Nat → PS → List Dc × PS
  | 0, _, p => ([], p)
  | f + 1, k, p =>
    if ¬ (p.err = 0) ∨ (cur L p).kind = 4 then ([], p)
    else if k = 16 then ([], failP L p 3)
    else
      let r := declP L p
      let s := declsP L f (k + 1) r.2
      (r.1 :: s.1, s.2)
def parseT (s : List UInt8) : List Dc × Nat × Nat :=
  let t := tokT s
  if t.2.1 ≠ 0 then ([], t.2)
  else
    let r := declsP t.1 17 0 ⟨0, 0, 0⟩
    if r.2.err ≠ 0 then ([], r.2.err, r.2.eat) else (r.1, 0, 0)

/-- tokens as the lexer gives them: what may be taken is not the last -/
structure TL (L : List Tok) : Prop where
  pos : 0 < L.length
  len : L.length ≤ 1025
  more : ∀ (i : Nat) (t : Tok), L[i]? = some t → (t.text ≠ [] ∨ t.kind = 1 ∨ t.kind = 2) → i + 1 < L.length
  num : ∀ t ∈ L, t.num ≤ 9999 ∧ t.text.length ≤ 16 ∧ t.kind ≤ 4
theorem tl_of {s : List UInt8} (h : (tokT s).2.1 = 0) : TL (tokT s).1 := by
  unfold tokT at *
  by_cases hl : 1024 < s.length
  · rw [if_pos hl] at h; cases h
  · rw [if_neg hl] at *
    obtain ⟨m, h1, h2, h3⟩ := lex_toks s 0 h
    rw [h1]
    refine ⟨by simp, by simp; omega, fun i t hi hk => ?_, fun t ht => ?_⟩
    · rcases Nat.lt_or_ge i m.length with hm | hm
      · simp; omega
      · rw [List.getElem?_append_right hm] at hi
        have : i - m.length = 0 := by
          have := (List.getElem?_eq_some_iff.1 hi).1
          simp at this; omega
        rw [this] at hi
        simp at hi
        subst hi
        simp at hk
    · rcases List.mem_append.1 ht with ht | ht
      · obtain ⟨h4, _⟩ := h2 t ht
        refine ⟨h4.num, h4.len, ?_⟩
        rcases h4 with h | h | h <;> omega
      · rw [List.mem_singleton.1 ht]; simp
theorem cur_at {L : List Tok} {p : PS} (h : p.at_ < L.length) : L[p.at_]? = some (cur L p) := by
  unfold cur
  rw [List.getD_eq_getElem?_getD, List.getElem?_eq_getElem h]; rfl
theorem cur_mem {L : List Tok} {p : PS} (h : p.at_ < L.length) : cur L p ∈ L := List.mem_of_getElem? (cur_at h)
theorem may_lt {L : List Tok} (hL : TL L) {p : PS} (h : p.at_ < L.length) {s : List UInt8} (hb : mayB L p s = true) : p.at_ + 1 < L.length := by
  unfold mayB at hb
  simp only [decide_eq_true_eq] at hb
  exact hL.more _ _ (cur_at h) (.inl (by rw [hb.2.1]; exact hb.2.2))
theorem fail_at (L : List Tok) (p : PS) (e : Nat) : (failP L p e).at_ = p.at_ := by unfold failP; split <;> rfl
theorem may_at {L : List Tok} (hL : TL L) {p : PS} (h : p.at_ < L.length) (s : List UInt8) : (mayP L p s).at_ < L.length := by
  unfold mayP
  split
  · rename_i hb; exact may_lt hL h hb
  · exact h
theorem need_at {L : List Tok} (hL : TL L) {p : PS} (h : p.at_ < L.length) (s : List UInt8) : (needP L p s).at_ < L.length := by
  unfold needP
  split
  · rename_i hb; exact may_lt hL h hb
  · rw [fail_at]; exact h
theorem name_at {L : List Tok} (hL : TL L) {p : PS} (h : p.at_ < L.length) : (nameP L p).at_ < L.length := by
  unfold nameP
  split
  · rename_i hb
    unfold nameB at hb
    simp only [Bool.and_eq_true, decide_eq_true_eq] at hb
    exact hL.more _ _ (cur_at h) (.inr (.inl hb.1.2))
  · rw [fail_at]; exact h
theorem num_at {L : List Tok} (hL : TL L) {p : PS} (h : p.at_ < L.length) : (numP L p).at_ < L.length := by
  unfold numP
  split
  · rename_i hb
    unfold numB at hb
    simp only [decide_eq_true_eq] at hb
    exact hL.more _ _ (cur_at h) (.inr (.inr hb.2))
  · rw [fail_at]; exact h
theorem plainN_pos {s : List UInt8} (h : 0 < plainN s) : s ≠ [] := by
  rintro rfl
  simp [plainN] at h
theorem plain_lt {L : List Tok} (hL : TL L) {p : PS} (h : p.at_ < L.length) (hp : 0 < plainN (cur L p).text) : p.at_ + 1 < L.length :=
  hL.more _ _ (cur_at h) (.inl (plainN_pos hp))
theorem base_at' {L : List Tok} (hL : TL L) {n : Nat} (ih : ∀ {p : PS}, p.at_ < L.length → (typP L n p).2.at_ < L.length) {p : PS} (h : p.at_ < L.length) : (baseP L n p).2.at_ < L.length := by
  unfold baseP
  split
  · rename_i hp; exact plain_lt hL h hp
  · split
    · rename_i hb
      exact need_at hL (ih (need_at hL (may_lt hL h hb) _)) _
    · split
      · rename_i hb
        exact need_at hL (ih (need_at hL (ih (need_at hL (may_lt hL h hb) _)) _)) _
      · exact name_at hL h
theorem typ_at {L : List Tok} (hL : TL L) : ∀ (n : Nat) {p : PS}, p.at_ < L.length → (typP L n p).2.at_ < L.length
  | 0, p, h => by rw [typP]; show (failP L p 10).at_ < _; rw [fail_at]; exact h
  | n + 1, p, h => by
    rw [typP_succ]
    split
    · exact h
    · have hb := base_at' hL (typ_at hL n) h
      split
      · rename_i hm; exact may_lt hL hb hm
      · exact hb
theorem base_at {L : List Tok} (hL : TL L) (n : Nat) {p : PS} (h : p.at_ < L.length) : (baseP L n p).2.at_ < L.length := base_at' hL (typ_at hL n) h
theorem field_at {L : List Tok} (hL : TL L) {p : PS} (h : p.at_ < L.length) : (fieldP L p).2.at_ < L.length := typ_at hL _ (need_at hL (name_at hL (num_at hL h)) _)
theorem value_at {L : List Tok} (hL : TL L) {p : PS} (h : p.at_ < L.length) : (valueP L p).2.at_ < L.length := name_at hL (num_at hL h)
theorem method_at {L : List Tok} (hL : TL L) {p : PS} (h : p.at_ < L.length) : (methodP L p).2.at_ < L.length :=
  name_at hL (need_at hL (need_at hL (name_at hL (need_at hL (name_at hL (num_at hL (may_at hL h _))) _)) _) _)
theorem rows_at {α : Type} {L : List Tok} (hL : TL L) {row : PS → α × PS} (hr : ∀ p, p.at_ < L.length → (row p).2.at_ < L.length) : ∀ (f n : Nat) {p : PS}, p.at_ < L.length → (rowsP L row f n p).2.at_ < L.length
  | 0, n, p, h => h
  | f + 1, n, p, h => by
    rw [rowsP]
    split
    · exact h
    · split
      · rename_i hb; exact may_lt hL h hb
      · have hq : (if n = 16 ∧ (cur L p).kind ≠ 4 then failP L p 3 else p).at_ < L.length := by
          split
          · rw [fail_at]; exact h
          · exact h
        generalize (if n = 16 ∧ (cur L p).kind ≠ 4 then failP L p 3 else p) = q at hq
        simp only
        split
        · exact rows_at hL hr f (n + 1) (need_at hL (hr q hq) _)
        · exact rows_at hL hr f (n + 1) hq
theorem kindQ_at {L : List Tok} (hL : TL L) {p : PS} (h : p.at_ < L.length) : (kindQ L p).at_ < L.length := by
  unfold kindQ
  split
  · rw [fail_at]; exact h
  · rename_i hk
    unfold kindP at hk
    split at hk
    · rename_i hb; exact may_lt hL h hb
    · split at hk
      · rename_i hb; exact may_lt hL h hb
      · split at hk
        · rename_i hb; exact may_lt hL h hb
        · split at hk
          · rename_i hb; exact may_lt hL h hb
          · exact absurd rfl hk
theorem decl_at {L : List Tok} (hL : TL L) {p : PS} (h : p.at_ < L.length) : (declP L p).2.at_ < L.length := by
  have h2 := need_at hL (name_at hL (kindQ_at hL h)) [123]
  unfold declP
  simp only
  split
  · exact rows_at hL (fun p h => method_at hL h) _ _ h2
  · refine rows_at hL (fun p h => ?_) _ _ h2
    split
    · exact value_at hL h
    · exact field_at hL h
/-- what is wrong stays so -/
theorem fail_err {L : List Tok} {p : PS} {e : Nat} (he : e ≠ 0) : (failP L p e).err ≠ 0 := by
  unfold failP; split
  · exact he
  · assumption
theorem may_no {L : List Tok} {p : PS} (h : p.err ≠ 0) (s : List UInt8) : mayB L p s = false := by unfold mayB; simp [h]
theorem fail_no {L : List Tok} {p : PS} (h : p.err ≠ 0) (e : Nat) : failP L p e = p := by unfold failP; rw [if_neg h]
theorem need_no {L : List Tok} {p : PS} (h : p.err ≠ 0) (s : List UInt8) : needP L p s = p := by unfold needP; rw [may_no h, if_neg (by decide), fail_no h]
theorem mayP_no {L : List Tok} {p : PS} (h : p.err ≠ 0) (s : List UInt8) : mayP L p s = p := by unfold mayP; rw [may_no h, if_neg (by decide)]
theorem name_no {L : List Tok} {p : PS} (h : p.err ≠ 0) : nameP L p = p := by unfold nameP nameB; simp [h, fail_no]
theorem num_no {L : List Tok} {p : PS} (h : p.err ≠ 0) : numP L p = p := by unfold numP numB; simp [h, fail_no]
theorem typ_no {L : List Tok} {p : PS} (h : p.err ≠ 0) : ∀ n, (typP L n p).2 = p
  | 0 => by rw [typP]; exact fail_no h 10
  | n + 1 => by rw [typP_succ, if_pos h]
/-- at the end nothing is a row -/
theorem num_end {L : List Tok} {p : PS} (h : (cur L p).kind = 4) : (numP L p).err ≠ 0 := by
  unfold numP numB
  rw [h]
  simp only [show ¬ ((4 : Nat) = 2) by decide, and_false, decide_false, Bool.false_eq_true, if_false]
  exact fail_err (by decide)
theorem field_end {L : List Tok} {p : PS} (h : (cur L p).kind = 4) : (fieldP L p).2.err ≠ 0 := by
  have h1 := num_end h
  unfold fieldP
  simp only
  rw [name_no h1, need_no h1, typ_no h1]; exact h1
theorem value_end {L : List Tok} {p : PS} (h : (cur L p).kind = 4) : (valueP L p).2.err ≠ 0 := by
  have h1 := num_end h
  unfold valueP
  simp only
  rw [name_no h1]; exact h1
theorem method_end {L : List Tok} {p : PS} (hp : p.at_ < L.length) (hlast : ∀ (i : Nat) (t : Tok), L[i]? = some t → t.kind = 4 → t.text = []) (h : (cur L p).kind = 4) : (methodP L p).2.err ≠ 0 := by
  have ht := hlast _ _ (cur_at hp) h
  have hm : mayB L p [111, 110, 101, 119, 97, 121] = false := by unfold mayB; rw [ht]; simp
  have h0 : mayP L p [111, 110, 101, 119, 97, 121] = p := by unfold mayP; rw [hm, if_neg (by decide)]
  have h1 := num_end h
  unfold methodP
  simp only
  rw [h0, name_no h1, need_no h1, name_no h1, need_no h1, need_no h1, name_no h1]; exact h1
end Go.Proofs.Ytofhakbmmgpgdaa
