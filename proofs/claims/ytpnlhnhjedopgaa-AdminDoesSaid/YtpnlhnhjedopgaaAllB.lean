/- The keys of a map of numbers, in order: from the model to the abstract run. Printed from XNamB by text substitution. -/
import Derived.Test.YtpnlhnhjedopgaaAllA
import Derived.Test.YtpnlhnhjedopgaaAdmF
import Derived.Test.YtpnlhnhjedopgaaNamB
set_option maxRecDepth 100000
namespace Go.Proofs.Ytpnlhnhjedopgaa
open Go Go.RowKit Go.Proofs Go.Maps Go.Sort
open Go.WideElems (Fit rg)
open Go.WideShapes (sorted_perm)
open Go.MapKept (Stamped)

/-- the numbers of a map, in order -/
def keyZ {α : Type} (l : List (Int × α)) : List Int := (l.map fun x => x.1).mergeSort leI
def keysZ {α : Type} (l : List (Int × α)) : List (List AV) := (keyZ l).map fun n => [.int .i64 n]
def BkG' (G : Glob) (b : Nat) (mv : AV) (m : List (AV × AV)) : Prop := G b = some (.cells [mv]) ∧ ((mv = .nilm ∧ m = []) ∨ ∃ mb, mv = .mp mb ∧ G mb = some (.map (some .i64) m))
/-- a map of texts, as the kit's laws have it -/
theorem map_ownsI {α : Type} {T : TypeId → TR} {g : Gh} {w : World} {mb : Nat} {f : α → AV} {l : List (Int × α)} (h : BoxAt T g w mb (.map (some .i64) (bz f l))) (hl : l.length ≤ maxLen) (hs : ∀ x ∈ l, (Lit.int .i64 x.1).wf = true) :
    ∃ (n : Nat) (D0 : DataW Unit), w.ownsMap Try.prog 3 rdAnyI (g.beta mb) n D0 ∧ Maps.size D0 = l.length ∧ (intKeys D0).Perm (l.map fun x => x.1) := by
  obtain ⟨es, clock, hb, hst, hz, hp⟩ := h
  have hz' : es.toList.length = l.length := by simpa [bz] using hz
  have key : ∀ (i : Nat) (x : Int × α) (y : MapEntry), l[i]? = some x → es.toList[i]? = some y → y.key = .int .i64 x.1 := fun i x y hx hy => by
    have hh := (hp i (.int .i64 x.1, f x.2) y (by simp [bz, hx]) (by simpa using hy)).1
    cases hk : y.key <;> rw [hk] at hh <;> first | exact hh.elim | skip
    simp only [keyAt] at hh
    obtain ⟨_, rfl, rfl⟩ := hh
    rfl
  have rd1 : ∀ (i : Nat) (x : Int × α) (y : MapEntry), l[i]? = some x → es.toList[i]? = some y → Go.WideElems.rd Try.prog 3 rdAnyI y = some (.int .i64 x.1, .nil) := fun i x y hx hy => by
    have := hs x (List.mem_of_getElem? hx)
    simp only [Go.WideElems.rd, key i x y hx hy, keyOf_int_mk Try.underlying3 this, rdAnyI]
    rfl
  have F : Fit Try.prog 3 rdAnyI es clock := by
    refine ⟨by rw [← Array.length_toList]; omega, hst, fun y hy => ?_⟩
    obtain ⟨i, hi⟩ := List.getElem?_of_mem hy
    have hlt : i < l.length := by rw [← hz']; exact (List.getElem?_eq_some_iff.1 hi).1
    exact ⟨_, rd1 i _ y (List.getElem?_eq_getElem hlt) hi⟩
  refine ⟨es.size, _, ⟨es, clock, hb, F, Nat.le_refl _, rfl⟩, ?_, ?_⟩
  · rw [size_eq, (sorted_perm _).length_eq]
    simp
    rw [← Array.length_toList]
    exact hz'
  · show (List.map _ _).Perm _
    refine ((sorted_perm _).map _).trans ?_
    rw [List.map_map]
    refine .of_eq (ext_list hz' fun i y x hy hx => ?_)
    show Go.intOf (rg Try.prog 3 rdAnyI y).1 = _
    unfold rg
    rw [rd1 i x y hx hy]
    rfl
theorem all_bridge {α : Type} {T : TypeId → TR} {fid : FuncId} (hs1 : (T 3).cells = 1) (he : ∃ fn, (Try.prog).funcs[fid]? = some fn ∧ (fn.name == "runtime.NumGoroutine") = false ∧ fn.body.isNone = false)
    (hA : ∀ (bb bm n : Nat) (D0 : DataW Unit) (w : World), w.cell? ⟨bb, 0, none⟩ = some (.map (some bm)) → w.ownsMap Try.prog 3 rdAnyI bm n D0 → Maps.size D0 ≤ 1000000 → Calls Try.prog fid #[.pointer (some ⟨bb, 0, none⟩)] w fun e w' => ∃ (v : Value) (ss : List Int), e = .returned v ∧ ss.Perm (intKeys D0) ∧
      w'.ownsRow w.heap.size 3 1 v ss.length ((ss.mergeSort (fun x y => decide (x ≤ y))).map encZ) ∧ (v = .slice none 0 0 ↔ ss = []) ∧ Up w w')
    (hN : ∀ (bb : Nat) (w : World), w.cell? ⟨bb, 0, none⟩ = some (.map none) → Calls Try.prog fid #[.pointer (some ⟨bb, 0, none⟩)] w fun e w' => e = .returned (.slice none 0 0) ∧ Up w w')
    (f : α → AV) (G : Glob) (b : Nat) (mv : AV) (l : List (Int × α)) (h : BkG' G b mv (bz f l)) (hl : l.length ≤ 1000000) (hs : ∀ x ∈ l, (Lit.int .i64 x.1).wf = true) :
    CallOk Try.prog T fid [.gptr b 0] G (fun v G' => v = .slc 3 (keysZ l) ∧ G' = G) := by
  refine ⟨he, fun g us w hG hu hd => ?_⟩
  obtain ⟨h1, h2⟩ := h
  obtain ⟨u, rfl⟩ : ∃ u, us = #[u] := by
    obtain ⟨us⟩ := us
    match us, hu with
    | [u], _ => exact ⟨u, rfl⟩
  have hp := hd 0 _ u rfl rfl
  obtain ⟨hb1, hb2, cs, e0, hb3, hb4, hb5, hb6⟩ := hG b _ h1
  cases hp
  have c0 : ∃ u, cs[0]? = some u ∧ w.cell? ⟨g.beta b, 0, none⟩ = some u ∧ Dz T g w mv u := by
    simp only [List.length_cons, List.length_nil] at hb4
    have : 0 < cs.size := by omega
    refine ⟨cs[0], by simp [this], ?_, hb6 0 _ _ rfl (by simp [this])⟩
    simp [World.cell?, hb3, this]
  obtain ⟨u0, c1, c2, c3⟩ := c0
  rcases h2 with ⟨rfl, hnil⟩ | ⟨mb, rfl, h2⟩
  · have hl0 : l = [] := by simpa [bz] using hnil
    subst hl0
    cases c3
    refine (hN _ w c2).mono fun e w' hh => ?_
    obtain ⟨rfl, hup⟩ := hh
    exact ⟨_, g.still w, G, _, rfl, ⟨rfl, rfl⟩, still_rel hG hup, still_ext hup, by rw [show keysZ ([] : List (Int × α)) = [] by simp [keysZ, keyZ]]; exact nils_dz _ .nils⟩
  · obtain ⟨-, -, hm⟩ := hG mb _ h2
    cases c3
    obtain ⟨nn, D0, hown, hsz, hP⟩ := map_ownsI hm (by unfold maxLen; omega) hs
    refine (hA _ _ nn D0 w c2 hown (by omega)).mono fun e w' hh => ?_
    obtain ⟨v, ss, rfl, hperm, hrow, -, hup⟩ := hh
    refine ⟨v, g.still w, G, _, rfl, ⟨rfl, rfl⟩, still_rel hG hup, still_ext hup, ?_⟩
    have hsort : ss.mergeSort (fun x y => decide (x ≤ y)) = keyZ l := mergeSort_of_perm_i (hperm.trans hP)
    rw [hsort] at hrow
    have hlen : ss.length = (keysZ l).length := by rw [keysZ, List.length_map, ← hsort, List.length_mergeSort]
    refine own_dz hrow hs1 hlen fun i cells hc => ?_
    simp only [keysZ, List.getElem?_map, Option.map_eq_some_iff] at hc
    obtain ⟨s, hs', rfl⟩ := hc
    refine ⟨rfl, fun j x hx => ?_⟩
    match j with
    | 0 =>
      simp at hx
      subst hx
      exact ⟨encZ s, by simp [hs'], by simp [Value.oneCell'], .int _ _⟩
    | j + 1 => simp at hx
theorem aall_ok (G : Glob) (b : Nat) (mv : AV) (l : TenL) (h : BkG G b mv l) (hl : l.length ≤ 1000000) (hs : ∀ x ∈ l, (Lit.int .i64 x.1).wf = true) :
    CallOk Try.prog TT 89 [.gptr b 0] G (fun v G' => v = .slc 3 (keysZ l) ∧ G' = G) :=
  all_bridge rfl ⟨_, Try.func89, by decide, rfl⟩ aall_any aall_none tav G b mv l ⟨h.1, by
    rcases h.2 with ⟨h1, h2⟩ | h2
    · exact .inl ⟨h1, by rw [h2]; rfl⟩
    · exact .inr h2⟩ hl hs
end Go.Proofs.Ytpnlhnhjedopgaa
