/- Values as arguments: what they read as. -/
import Derived.Test.YtgedlbfdhekdgaaDoorRdg
import Derived.Test.YtgedlbfdhekdgaaDoorValP
import Derived.Test.YtgedlbfdhekdgaaDoorFrame
set_option maxRecDepth 100000
set_option linter.unusedSimpArgs false
namespace Go.Proofs.YtgedlbfdhekdgaaDoor
open Go Go.RowKit Go.ChangeShapes Go.WideShapes Go.ChangeAt Go.Deep Go.Proofs

def tagA (n : Int) : List AV := [.int .i64 n]
mutual
def VT.av : VT → List AV
  | .mk k n s tags l => [.int .i64 k, .int .i64 n, .str (S s), .slc 3 (tags.map tagA), .slc 25 (VT.avs l)]
def VT.avs : List VT → List (List AV)
  | [] => []
  | t :: r => VT.av t :: VT.avs r
end
theorem vavs_map : ∀ l : List VT, VT.avs l = l.map VT.av
  | [] => by rw [VT.avs]; rfl
  | t :: r => by rw [VT.avs, vavs_map r]; rfl
theorem vavs_len (l : List VT) : (VT.avs l).length = l.length := by rw [vavs_map]; simp
theorem vavs_at {l : List VT} {i : Nat} {k n : Int} {s : List UInt8} {tags : List Int} {l' : List VT} (h : l[i]? = some (.mk k n s tags l')) : (VT.avs l)[((i : Nat) : Int).toNat]? = some [.int .i64 k, .int .i64 n, .str (S s), .slc 3 (tags.map tagA), .slc 25 (VT.avs l')] := by
  rw [vavs_map, Int.toNat_natCast, List.getElem?_map, h, Option.map_some, VT.av]
/-- numbers within their bounds, all the way down; texts that fit -/
inductive VT.In : VT → Prop
  | mk (k n : Int) (s : List UInt8) (tags : List Int) (l : List VT) (hk : -9223372036854775808 ≤ k ∧ k ≤ 9223372036854775807) (hn : -9223372036854775808 ≤ n ∧ n ≤ 9223372036854775807) (ht : ∀ t ∈ tags, -9223372036854775808 ≤ t ∧ t ≤ 9223372036854775807) (hl : ∀ x ∈ l, VT.In x) : VT.In (.mk k n s tags l)
def GoodV (u : Value) : Prop := (∃ s, u = .string s) ∨ ∃ n, u = .int .i64 n
theorem vlist5 {α : Type} {l : List α} (h : l.length = 5) : ∃ a b c d e, l = [a, b, c, d, e] := by match l, h with | [a, b, c, d, e], _ => exact ⟨a, b, c, d, e, rfl⟩
theorem rc_nil {T : TypeId → TR} {g : Gh} {w : World} : ReadC T g w [] [] := ⟨rfl, fun j c u h => by simp at h⟩
theorem rc_cons {T : TypeId → TR} {g : Gh} {w : World} {a : AV} {u : Value} {r : List AV} {s : List Value} (h1 : u.oneCell' = true) (h : Dz T g w a u) (hr : ReadC T g w r s) : ReadC T g w (a :: r) (u :: s) := by
  refine ⟨by simp [hr.1], fun j c v hc hv => ?_⟩
  cases j with
  | zero => cases hc; cases hv; exact ⟨h1, h⟩
  | succ j => exact hr.2 j c v hc hv
section
variable {H : Type} {enc : TypeId × Value → H} {w : World} {base : Nat} {spare : Nat → Bool} {held : Bool} {g : Gh}
theorem vall_of {α : Type} {l : List α} {d : DataW H} {R : α → DataW H → Prop} {Q : α → Prop} (h : (d = .nil ∧ l = []) ∨ ∃ elems sp : List (DataW H), d = .slice elems sp ∧ elems.length = l.length ∧ ∀ (i : Nat) (a : α) (y : DataW H), l[i]? = some a → elems[i]? = some y → R a y) (hq : ∀ a y, R a y → Q a) : ∀ a ∈ l, Q a := fun a ha => by
  rcases h with ⟨_, rfl⟩ | ⟨elems, sp, _, h1, h2⟩
  · cases ha
  · obtain ⟨i, hi⟩ := List.getElem?_of_mem ha
    have hil := (List.getElem?_eq_some_iff.1 hi).1
    exact hq a _ (h2 i a _ hi (List.getElem?_eq_getElem (by omega)))
theorem val_read (hfr : ∀ b off u i, w.cell? ⟨b, off, none⟩ = some u → GoodV u → g.frz b i) : ∀ (N n : Nat) (cs : List Value) (y : DataW H × List MemPlace), SizeOf.sizeOf y.1 < N → DataW.trod enc Tryd.prog w base spare held n 25 cs = some y → ∃ v : VT, ReadC TT g w v.av cs ∧ v.In ∧ ∃ (k : Nat) (u : Value), cs[k]? = some u ∧ GoodV u
  | 0, n, cs, y, hN, h => by omega
  | N + 1, n, cs, y, hN, h => by
    obtain ⟨ys, m, h1, h2, h3, h4⟩ := struct_cells Tryd.underlying25 (by kernel_rfl) (by kernel_rfl) h
    obtain ⟨c0, c1, c2, c3, c4, rfl⟩ := vlist5 h1
    obtain ⟨y0, y1, y2, y3, y4, rfl⟩ := vlist5 h2
    subst h3
    obtain ⟨k, rfl, rfl, w0⟩ := int_field Tryd.underlying3 (h4 0 _ _ rfl rfl)
    obtain ⟨nm, rfl, rfl, w1⟩ := int_field Tryd.underlying2 (h4 1 _ _ rfl rfl)
    obtain ⟨s, rfl, rfl, _⟩ := string_field Tryd.underlying9 (h4 2 _ _ rfl rfl)
    obtain ⟨tags, v3, hv3, hone3, hz3, hl3⟩ := row_trodG Tryd.underlying22 (size := 1) (by kernel_rfl) (by omega) (T := TT) (g := g) rfl tagA (fun n _ => -9223372036854775808 ≤ n ∧ n ≤ 9223372036854775807) (h4 3 _ _ rfl rfl) GoodV hfr (fun n cs y _ hl ht => by
      obtain ⟨x, rfl, _, hw⟩ := elem_int Tryd.underlying3 n cs y hl ht
      exact ⟨x, rc_cons rfl (.int _ _) rc_nil, bounds_i64 hw, 0, _, rfl, .inr ⟨x, rfl⟩⟩)
    cases hv3
    obtain ⟨l, v, hv, hone, hz, hl⟩ := row_trodG Tryd.underlying23 (size := 5) (by kernel_rfl) (by omega) (T := TT) (g := g) rfl VT.av (fun t _ => t.In) (h4 4 _ _ rfl rfl) GoodV hfr (fun n cs y hy _ ht => by
      refine val_read hfr N n cs y ?_ ht
      obtain ⟨elems, sp, hd, hy⟩ := hy
      have hm := List.sizeOf_lt_of_mem hy
      have h5 : SizeOf.sizeOf y4.1 = 1 + SizeOf.sizeOf elems + SizeOf.sizeOf sp := by rw [hd]; simp only [DataW.slice.sizeOf_spec]
      simp only [List.map_cons, List.map_nil, DataW.agg.sizeOf_spec, List.cons.sizeOf_spec, List.nil.sizeOf_spec] at hN
      omega)
    cases hv
    refine ⟨.mk k nm s.data.toList tags l, ?_, .mk _ _ _ _ _ (bounds_i64 w0) (bounds_i64 w1) (vall_of hl3 fun a y h => h) (vall_of hl fun a y h => h), 2, _, rfl, .inl ⟨s, rfl⟩⟩
    rw [VT.av, vavs_map, S_of]
    exact rc_cons rfl (.int _ _) (rc_cons rfl (.int _ _) (rc_cons rfl (.str _) (rc_cons hone3 hz3 (rc_cons hone hz rc_nil))))
theorem val_arg {r : Reach} {b0 : Nat} {v : Value} {d : DataW H} {p : List MemPlace} (hfr : ∀ b off u i, w.cell? ⟨b, off, none⟩ = some u → GoodV u → g.frz b i) (hv : Value.okWide Tryd.prog w r b0 25 v) (h : DataW.Trod enc Tryd.prog w base spare held 25 v d p) :
    ∃ x : VT, Dz TT g w (.agg x.av) v ∧ x.In := by
  obtain ⟨cs, rfl, hsz⟩ := okWide_struct Tryd.underlying25 hv
  obtain ⟨fuel, hf⟩ := h
  obtain ⟨x, h1, h2, _⟩ := val_read hfr _ _ cs.toList _ (Nat.lt_succ_self _) (by simpa [Value.cells] using hf)
  have hl : x.av.length = cs.size := by have := h1.1; simpa using this
  refine ⟨x, .agg _ _ hl (fun u hu => ?_) (fun i c u hc hu => (h1.2 i c u hc (by simpa using hu)).2), h2⟩
  obtain ⟨i, hi⟩ := List.getElem?_of_mem (Array.mem_toList_iff.2 hu)
  have hil := (List.getElem?_eq_some_iff.1 hi).1
  exact (h1.2 i _ u (List.getElem?_eq_getElem (by simp at hil; omega)) hi).1
end
end Go.Proofs.YtgedlbfdhekdgaaDoor
