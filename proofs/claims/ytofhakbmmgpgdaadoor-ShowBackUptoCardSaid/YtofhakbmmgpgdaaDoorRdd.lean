/- Declarations as arguments: what they read as, and how great they are. -/
import Derived.Test.YtofhakbmmgpgdaaDoorRdg
import Derived.Test.YtofhakbmmgpgdaaDoorGk
import Derived.Test.YtofhakbmmgpgdaaDoorFrame
set_option maxRecDepth 100000
set_option linter.unusedSimpArgs false
namespace Go.Proofs.YtofhakbmmgpgdaaDoor
open Go Go.RowKit Go.ChangeShapes Go.WideShapes Go.ChangeAt Go.Deep Go.Proofs

mutual
def GT.wt : GT → Nat
  | .mk _ nm of => nm.length + 1 + GT.wts of
def GT.wts : List GT → Nat
  | [] => 0
  | t :: r => GT.wt t + GT.wts r
end
def GF.wt (f : GF) : Nat := f.name.length + 1 + f.ty.wt
def GM.wt (m : GM) : Nat := m.name.length + m.inn.length + m.out.length + 1
def sumW {α : Type} (f : α → Nat) : List α → Nat
  | [] => 0
  | x :: r => f x + sumW f r
def GD.wt (d : GD) : Nat := d.name.length + 1 + sumW GF.wt d.fields + sumW GM.wt d.methods
theorem wts_sum : ∀ l : List GT, GT.wts l = sumW GT.wt l
  | [] => by rw [GT.wts]; rfl
  | t :: r => by rw [GT.wts, wts_sum r]; rfl
theorem sum_bulk {α H : Type} (f : α → Nat) : ∀ (l : List α) (ys : List (DataW H)), ys.length = l.length → (∀ (i : Nat) (a : α) (y : DataW H), l[i]? = some a → ys[i]? = some y → f a ≤ Rows.uptoBulk y) → sumW f l ≤ Rows.uptoBulkAll ys
  | [], [], _, _ => Nat.zero_le _
  | a :: l, y :: ys, hl, h => by
    have h0 := h 0 a y rfl rfl
    have h1 := sum_bulk f l ys (by simpa using hl) (fun i a y ha hy => h (i + 1) a y ha hy)
    show f a + sumW f l ≤ Rows.uptoBulk y + Rows.uptoBulkAll ys
    omega
  | [], _ :: _, hl, _ => by simp at hl
  | _ :: _, [], hl, _ => by simp at hl
theorem slice_bulk {α H : Type} (f : α → Nat) {l : List α} {d : DataW H} (h : (d = .nil ∧ l = []) ∨ ∃ elems sp : List (DataW H), d = .slice elems sp ∧ elems.length = l.length ∧ ∀ (i : Nat) (a : α) (y : DataW H), l[i]? = some a → elems[i]? = some y → f a ≤ Rows.uptoBulk y) : sumW f l + 1 ≤ Rows.uptoBulk d := by
  rcases h with ⟨rfl, rfl⟩ | ⟨elems, sp, rfl, h1, h2⟩
  · exact Nat.le_refl 1
  · have := sum_bulk f l elems h1 h2
    show sumW f l + 1 ≤ Rows.uptoBulkAll elems + Rows.uptoBulkAll sp + 1
    omega
theorem list5' {α : Type} {l : List α} (h : l.length = 5) : ∃ a b c d e, l = [a, b, c, d, e] := by match l, h with | [a, b, c, d, e], _ => exact ⟨a, b, c, d, e, rfl⟩
theorem list3' {α : Type} {l : List α} (h : l.length = 3) : ∃ a b c, l = [a, b, c] := by match l, h with | [a, b, c], _ => exact ⟨a, b, c, rfl⟩
theorem readc_nil {T : TypeId → TR} {g : Gh} {w : World} : ReadC T g w [] [] := ⟨rfl, fun j c u h => by simp at h⟩
theorem readc_cons {T : TypeId → TR} {g : Gh} {w : World} {a : AV} {u : Value} {r : List AV} {s : List Value} (h1 : u.oneCell' = true) (h : Dz T g w a u) (hr : ReadC T g w r s) : ReadC T g w (a :: r) (u :: s) := by
  refine ⟨by simp [hr.1], fun j c v hc hv => ?_⟩
  cases j with
  | zero => cases hc; cases hv; exact ⟨h1, h⟩
  | succ j => exact hr.2 j c v hc hv
theorem str_S (s : ByteArray) : AV.str s = AV.str (S s.data.toList) := by rw [S_of]
section
variable {H : Type} {enc : TypeId × Value → H} {w : World} {base : Nat} {spare : Nat → Bool} {held : Bool} {g : Gh}
theorem ty_read (hfr : FrzS g w) : ∀ (N n : Nat) (cs : List Value) (y : DataW H × List MemPlace), SizeOf.sizeOf y.1 < N → DataW.trod enc Tryd.prog w base spare held n 81 cs = some y → ∃ t : GT, ReadC TT g w t.av cs ∧ t.wt ≤ Rows.uptoBulk y.1 ∧ ∃ (k : Nat) (s : ByteArray), cs[k]? = some (.string s)
  | 0, n, cs, y, hN, h => by omega
  | N + 1, n, cs, y, hN, h => by
    obtain ⟨ys, m, h1, h2, h3, h4⟩ := struct_cells Tryd.underlying81 (by kernel_rfl) (by kernel_rfl) h
    obtain ⟨c0, c1, c2, rfl⟩ := list3' h1
    obtain ⟨y0, y1, y2, rfl⟩ := list3' h2
    subst h3
    obtain ⟨k, rfl, rfl, _⟩ := int_field Tryd.underlying3 (h4 0 _ _ rfl rfl)
    obtain ⟨s, rfl, rfl, _⟩ := string_field Tryd.underlying9 (h4 1 _ _ rfl rfl)
    obtain ⟨l, v, hv, hone, hz, hl⟩ := row_trod Tryd.underlying79 (size := 3) (by kernel_rfl) (by omega) (T := TT) (g := g) rfl GT.av (fun t d => t.wt ≤ Rows.uptoBulk d) (h4 2 _ _ rfl rfl) hfr (fun n cs y hy _ ht => by
      refine ty_read hfr N n cs y ?_ ht
      obtain ⟨elems, sp, hd, hy⟩ := hy
      have hm := List.sizeOf_lt_of_mem hy
      have h5 : SizeOf.sizeOf y2.1 = 1 + SizeOf.sizeOf elems + SizeOf.sizeOf sp := by rw [hd]; simp only [DataW.slice.sizeOf_spec]
      simp only [List.map_cons, List.map_nil, DataW.agg.sizeOf_spec, List.cons.sizeOf_spec, List.nil.sizeOf_spec] at hN
      omega)
    cases hv
    refine ⟨.mk k s.data.toList l, ?_, ?_, 1, s, rfl⟩
    · rw [GT.av, avs_map, S_of]
      exact readc_cons rfl (.int _ _) (readc_cons rfl (.str _) (readc_cons hone hz readc_nil))
    · have := slice_bulk GT.wt hl
      rw [GT.wt, wts_sum]
      show s.data.toList.length + 1 + sumW GT.wt l ≤ (1 + ((s.data.toList.length + 1) + (Rows.uptoBulk y2.1 + 0))) + 1
      omega
theorem fd_read (hfr : FrzS g w) {n : Nat} {cs : List Value} {y : DataW H × List MemPlace} (h : DataW.trod enc Tryd.prog w base spare held n 83 cs = some y) : ∃ f : GF, ReadC TT g w f.av cs ∧ (InI f.tag ∧ f.wt ≤ Rows.uptoBulk y.1) ∧ ∃ (k : Nat) (s : ByteArray), cs[k]? = some (.string s) := by
  obtain ⟨ys, m, _, hx, hl, hyl, hf⟩ := DataW.trod_struct Tryd.underlying83 h
  have hl' : cs.length = 5 := hl.trans (by kernel_rfl)
  have h0 := hf 0 _ rfl
  have h1 := hf 1 _ rfl
  have h2 := hf 2 _ rfl
  obtain ⟨y0, y1, y2, rfl⟩ := list3' hyl
  obtain ⟨x0, x1, x2, x3, x4, rfl⟩ := list5' hl'
  subst hx
  obtain ⟨tg, rfl, rfl, w0⟩ := int_field Tryd.underlying3 h0
  obtain ⟨s, rfl, rfl, _⟩ := string_field Tryd.underlying9 h1
  obtain ⟨t, t1, t2, _⟩ := ty_read hfr _ _ [x2, x3, x4] _ (Nat.lt_succ_self _) h2
  refine ⟨⟨tg, s.data.toList, t⟩, ?_, ⟨bounds_i64 w0, ?_⟩, 1, s, rfl⟩
  · rw [GF.av]
    simp only
    rw [S_of]
    exact readc_cons rfl (.int _ _) (readc_cons rfl (.str _) t1)
  · show s.data.toList.length + 1 + t.wt ≤ (1 + ((s.data.toList.length + 1) + (Rows.uptoBulk y2.1 + 0))) + 1
    omega
theorem md_read {n : Nat} {cs : List Value} {y : DataW H × List MemPlace} (h : DataW.trod enc Tryd.prog w base spare held n 123 cs = some y) : ∃ f : GM, ReadC TT g w f.av cs ∧ (InI f.tag ∧ f.wt ≤ Rows.uptoBulk y.1) ∧ ∃ (k : Nat) (s : ByteArray), cs[k]? = some (.string s) := by
  obtain ⟨ys, m, h1, h2, h3, h4⟩ := struct_cells Tryd.underlying123 (by kernel_rfl) (by kernel_rfl) h
  obtain ⟨c0, c1, c2, c3, c4, rfl⟩ := list5' h1
  obtain ⟨y0, y1, y2, y3, y4, rfl⟩ := list5' h2
  subst h3
  obtain ⟨tg, rfl, rfl, w0⟩ := int_field Tryd.underlying3 (h4 0 _ _ rfl rfl)
  obtain ⟨s1, rfl, rfl, _⟩ := string_field Tryd.underlying9 (h4 1 _ _ rfl rfl)
  obtain ⟨s2, rfl, rfl, _⟩ := string_field Tryd.underlying9 (h4 2 _ _ rfl rfl)
  obtain ⟨s3, rfl, rfl, _⟩ := string_field Tryd.underlying9 (h4 3 _ _ rfl rfl)
  obtain ⟨b, rfl, rfl⟩ := bool_field Tryd.underlying4 (h4 4 _ _ rfl rfl)
  refine ⟨⟨tg, s1.data.toList, s2.data.toList, s3.data.toList, b⟩, ?_, ⟨bounds_i64 w0, ?_⟩, 1, s1, rfl⟩
  · rw [GM.av]
    simp only
    rw [S_of, S_of, S_of]
    exact readc_cons rfl (.int _ _) (readc_cons rfl (.str _) (readc_cons rfl (.str _) (readc_cons rfl (.str _) (readc_cons rfl (.bool _) readc_nil))))
  · show s1.data.toList.length + s2.data.toList.length + s3.data.toList.length + 1 ≤ (1 + ((s1.data.toList.length + 1) + ((s2.data.toList.length + 1) + ((s3.data.toList.length + 1) + (1 + 0))))) + 1
    omega
theorem all_of {α : Type} {l : List α} {d : DataW H} {R : α → DataW H → Prop} {Q : α → Prop} (h : (d = .nil ∧ l = []) ∨ ∃ elems sp : List (DataW H), d = .slice elems sp ∧ elems.length = l.length ∧ ∀ (i : Nat) (a : α) (y : DataW H), l[i]? = some a → elems[i]? = some y → R a y) (hq : ∀ a y, R a y → Q a) : ∀ a ∈ l, Q a := fun a ha => by
  rcases h with ⟨_, rfl⟩ | ⟨elems, sp, _, h1, h2⟩
  · cases ha
  · obtain ⟨i, hi⟩ := List.getElem?_of_mem ha
    have hil := (List.getElem?_eq_some_iff.1 hi).1
    exact hq a _ (h2 i a _ hi (List.getElem?_eq_getElem (by omega)))
theorem bulk_of {α : Type} {l : List α} {d : DataW H} {R : α → DataW H → Prop} {f : α → Nat} (h : (d = .nil ∧ l = []) ∨ ∃ elems sp : List (DataW H), d = .slice elems sp ∧ elems.length = l.length ∧ ∀ (i : Nat) (a : α) (y : DataW H), l[i]? = some a → elems[i]? = some y → R a y) (hq : ∀ a y, R a y → f a ≤ Rows.uptoBulk y) : sumW f l + 1 ≤ Rows.uptoBulk d := by
  refine slice_bulk f ?_
  rcases h with h | ⟨elems, sp, h0, h1, h2⟩
  · exact .inl h
  · exact .inr ⟨elems, sp, h0, h1, fun i a y ha hy => hq a y (h2 i a y ha hy)⟩
theorem gd_read (hfr : FrzS g w) {n : Nat} {cs : List Value} {y : DataW H × List MemPlace} (h : DataW.trod enc Tryd.prog w base spare held n 77 cs = some y) : ∃ d : GD, ReadC TT g w d.av cs ∧ (d.ok ∧ d.wt ≤ Rows.uptoBulk y.1) ∧ ∃ (k : Nat) (s : ByteArray), cs[k]? = some (.string s) := by
  obtain ⟨ys, m, h1, h2, h3, h4⟩ := struct_cells Tryd.underlying77 (by kernel_rfl) (by kernel_rfl) h
  obtain ⟨c0, c1, c2, c3, c4, rfl⟩ := list5' h1
  obtain ⟨y0, y1, y2, y3, y4, rfl⟩ := list5' h2
  subst h3
  obtain ⟨kd, rfl, rfl, _⟩ := int_field Tryd.underlying3 (h4 0 _ _ rfl rfl)
  obtain ⟨s, rfl, rfl, _⟩ := string_field Tryd.underlying9 (h4 1 _ _ rfl rfl)
  obtain ⟨pa, rfl, rfl, _⟩ := int_field Tryd.underlying3 (h4 4 _ _ rfl rfl)
  obtain ⟨fs, v, hv, hone, hz, hl⟩ := row_trod Tryd.underlying74 (size := 5) (by kernel_rfl) (by omega) (T := TT) (g := g) rfl GF.av (fun t d => InI t.tag ∧ t.wt ≤ Rows.uptoBulk d) (h4 2 _ _ rfl rfl) hfr (fun n cs y _ _ ht => fd_read hfr ht)
  cases hv
  obtain ⟨ms, v, hv, hone2, hz2, hl2⟩ := row_trod Tryd.underlying75 (size := 5) (by kernel_rfl) (by omega) (T := TT) (g := g) rfl GM.av (fun t d => InI t.tag ∧ t.wt ≤ Rows.uptoBulk d) (h4 3 _ _ rfl rfl) hfr (fun n cs y _ _ ht => md_read ht)
  cases hv
  refine ⟨⟨kd, s.data.toList, fs, ms, pa⟩, ?_, ⟨⟨all_of hl fun a y h => h.1, all_of hl2 fun a y h => h.1⟩, ?_⟩, 1, s, rfl⟩
  · rw [GD.av]
    simp only
    rw [S_of]
    exact readc_cons rfl (.int _ _) (readc_cons rfl (.str _) (readc_cons hone hz (readc_cons hone2 hz2 (readc_cons rfl (.int _ _) readc_nil))))
  · have b1 := bulk_of hl fun a y h => h.2
    have b2 := bulk_of hl2 fun a y h => h.2
    show s.data.toList.length + 1 + sumW GF.wt fs + sumW GM.wt ms ≤ (1 + ((s.data.toList.length + 1) + (Rows.uptoBulk y2.1 + (Rows.uptoBulk y3.1 + (1 + 0))))) + 1
    omega
theorem decls_arg {r : Reach} {b0 : Nat} {v : Value} {d : DataW H} {p : List MemPlace} (hfr : FrzS g w) (hv : Value.okWide Tryd.prog w r b0 34 v) (h : DataW.Trod enc Tryd.prog w base spare held 34 v d p) :
    ∃ l : List GD, Dz TT g w (.slc 77 (l.map GD.av)) v ∧ (∀ x ∈ l, x.ok) ∧ sumW GD.wt l + 1 ≤ Rows.uptoBulk d := by
  obtain ⟨a0, len0, cap0, rfl⟩ := okWide_slice Tryd.underlying34 hv
  obtain ⟨fuel, hf⟩ := h
  obtain ⟨l, v, hv, hone, hz, hl⟩ := row_trod Tryd.underlying34 (size := 5) (by kernel_rfl) (by omega) (T := TT) (g := g) rfl GD.av (fun t d => t.ok ∧ t.wt ≤ Rows.uptoBulk d) (cs := [Value.slice a0 len0 cap0]) (by simpa [Value.cells] using hf) hfr (fun n cs y _ _ ht => gd_read hfr ht)
  cases hv
  exact ⟨l, hz, all_of hl fun a y h => h.1, bulk_of hl fun a y h => h.2⟩
end
end Go.Proofs.YtofhakbmmgpgdaaDoor
