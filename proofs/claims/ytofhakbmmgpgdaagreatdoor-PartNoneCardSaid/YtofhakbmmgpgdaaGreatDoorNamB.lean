/- The keys of a map of texts, in order: from the loop in the model to the abstract run. -/
import Derived.Test.YtofhakbmmgpgdaaGreatDoorNamA
import Derived.Test.YtofhakbmmgpgdaaGreatDoorMapA
set_option maxRecDepth 100000
namespace Go.Proofs.YtofhakbmmgpgdaaGreatDoor
open Go Go.RowKit Go.Proofs Go.Maps Go.Sort
open Go.WideElems (Fit rg)
open Go.WideShapes (sorted_perm)
open Go.WideMaps (keyOf_string_mk)
open Go.MapKept (Stamped)

/-- the texts of a map, in order -/
def keyL {α : Type} (l : List (ByteArray × α)) : List (List UInt8) := (l.map fun x => x.1.data.toList).mergeSort leB
def keysE {α : Type} (l : List (ByteArray × α)) : List (List AV) := (keyL l).map fun s => [.str (S s)]
theorem ext_list {α β γ : Type} {f : α → γ} {g : β → γ} : ∀ {l : List α} {m : List β}, l.length = m.length → (∀ (i : Nat) (x : α) (y : β), l[i]? = some x → m[i]? = some y → f x = g y) → l.map f = m.map g
  | [], [], _, _ => rfl
  | [], _ :: _, h, _ => by simp at h
  | _ :: _, [], h, _ => by simp at h
  | x :: l, y :: m, h, hp => by
    simp only [List.map_cons]
    rw [hp 0 x y rfl rfl, ext_list (l := l) (m := m) (by simpa using h) fun i x y hx hy => hp (i + 1) x y (by simpa using hx) (by simpa using hy)]
/-- a map of texts, as the kit's laws have it -/
theorem map_owns {α : Type} {T : TypeId → TR} {g : Gh} {w : World} {mb : Nat} {f : α → AV} {l : List (ByteArray × α)} (h : BoxAt T g w mb (.map none (bk f l))) (hl : l.length ≤ maxLen) (hs : ∀ x ∈ l, x.1.size ≤ maxLen) :
    ∃ (n : Nat) (D0 : DataW Unit), w.ownsMap Tryz.prog 9 rdAny (g.beta mb) n D0 ∧ Maps.size D0 = l.length ∧ (strKeys D0).Perm (l.map fun x => x.1.data.toList) := by
  obtain ⟨es, clock, hb, hst, hz, hp⟩ := h
  have hz' : es.toList.length = l.length := by simpa [bk] using hz
  have key : ∀ (i : Nat) (x : ByteArray × α) (y : MapEntry), l[i]? = some x → es.toList[i]? = some y → y.key = .string x.1 := fun i x y hx hy => by
    have hh := (hp i (.str x.1, f x.2) y (by simp [bk, hx]) (by simpa using hy)).1
    cases hk : y.key <;> rw [hk] at hh <;> first | exact hh.elim | skip
    simp only [keyAt] at hh
    rw [hh]
  have rd1 : ∀ (i : Nat) (x : ByteArray × α) (y : MapEntry), l[i]? = some x → es.toList[i]? = some y → Go.WideElems.rd Tryz.prog 9 rdAny y = some (.string x.1.data.toList, .nil) := fun i x y hx hy => by
    have := hs x (List.mem_of_getElem? hx)
    simp only [Go.WideElems.rd, key i x y hx hy, keyOf_string_mk Tryz.underlying9 this, rdAny]
    rfl
  have F : Fit Tryz.prog 9 rdAny es clock := by
    refine ⟨by rw [← Array.length_toList]; omega, hst, fun y hy => ?_⟩
    obtain ⟨i, hi⟩ := List.getElem?_of_mem hy
    have hlt : i < l.length := by rw [← hz']; exact (List.getElem?_eq_some_iff.1 hi).1
    exact ⟨_, rd1 i _ y (List.getElem?_eq_getElem hlt) hi⟩
  refine ⟨es.size, _, ⟨es, clock, hb, F, Nat.le_refl _, rfl⟩, ?_, ?_⟩
  · rw [size_eq, (sorted_perm _).length_eq]
    simp
    rw [← Array.length_toList]
    exact hz'
  · show (List.map _ _).Perm _
    refine ((sorted_perm _).map _).trans ?_
    rw [List.map_map]
    refine .of_eq (ext_list hz' fun i y x hy hx => ?_)
    show strOf (rg Tryz.prog 9 rdAny y).1 = _
    unfold rg
    rw [rd1 i x y hx hy]
    rfl
theorem names_bridge {α : Type} {T : TypeId → TR} {fid : FuncId} (hs1 : (T 9).cells = 1) (he : ∃ fn, (Tryz.prog).funcs[fid]? = some fn ∧ (fn.name == "runtime.NumGoroutine") = false ∧ fn.body.isNone = false)
    (hA : ∀ (bb bm n : Nat) (D0 : DataW Unit) (w : World), w.cell? ⟨bb, 0, none⟩ = some (.map (some bm)) → w.ownsMap Tryz.prog 9 rdAny bm n D0 → Maps.size D0 ≤ 1000000 → Calls Tryz.prog fid #[.pointer (some ⟨bb, 0, none⟩)] w fun e w' => ∃ (v : Value) (ss : List (List UInt8)), e = .returned v ∧ ss.Perm (strKeys D0) ∧
      w'.ownsRow w.heap.size 9 1 v ss.length ((ss.mergeSort (fun x y => decide (x ≤ y))).map encStr) ∧ Up w w')
    (hN : ∀ (bb : Nat) (w : World), w.cell? ⟨bb, 0, none⟩ = some (.map none) → Calls Tryz.prog fid #[.pointer (some ⟨bb, 0, none⟩)] w fun e w' => e = .returned (.slice none 0 0) ∧ Up w w')
    (f : α → AV) (G : Glob) (b : Nat) (mv : AV) (n : Int) (l : List (ByteArray × α)) (h : StG G b mv n (bk f l)) (hl : l.length ≤ 1000000) (hs : ∀ x ∈ l, x.1.size ≤ maxLen) :
    CallOk Tryz.prog T fid [.gptr b 0] G (fun v G' => v = .slc 9 (keysE l) ∧ G' = G) := by
  refine ⟨he, fun g us w hG hu hd => ?_⟩
  obtain ⟨h1, h2⟩ := h
  obtain ⟨u, rfl⟩ : ∃ u, us = #[u] := by
    obtain ⟨us⟩ := us
    match us, hu with
    | [u], _ => exact ⟨u, rfl⟩
  have hp := hd 0 _ u rfl rfl
  obtain ⟨hb1, hb2, cs, e0, hb3, hb4, hb5, hb6⟩ := hG b _ h1
  cases hp
  have c0 : ∃ u, cs[0]? = some u ∧ w.cell? ⟨g.beta b, 0, none⟩ = some u ∧ Dz T g w mv u := by
    simp only [List.length_cons, List.length_nil] at hb4
    have : 0 < cs.size := by omega
    refine ⟨cs[0], by simp [this], ?_, hb6 0 _ _ rfl (by simp [this])⟩
    simp [World.cell?, hb3, this]
  obtain ⟨u0, c1, c2, c3⟩ := c0
  rcases h2 with ⟨rfl, hnil⟩ | ⟨mb, rfl, h2⟩
  · have hl0 : l = [] := by simpa [bk] using hnil
    subst hl0
    cases c3
    refine (hN _ w c2).mono fun e w' hh => ?_
    obtain ⟨rfl, hup⟩ := hh
    exact ⟨_, g.still w, G, _, rfl, ⟨rfl, rfl⟩, still_rel hG hup, still_ext hup, by rw [show keysE ([] : List (ByteArray × α)) = [] by simp [keysE, keyL]]; exact nils_dz _ .nils⟩
  · obtain ⟨-, -, hm⟩ := hG mb _ h2
    cases c3
    obtain ⟨nn, D0, hown, hsz, hP⟩ := map_owns hm (by unfold maxLen; omega) hs
    refine (hA _ _ nn D0 w c2 hown (by omega)).mono fun e w' hh => ?_
    obtain ⟨v, ss, rfl, hperm, hrow, hup⟩ := hh
    refine ⟨v, g.still w, G, _, rfl, ⟨rfl, rfl⟩, still_rel hG hup, still_ext hup, ?_⟩
    have hsort : ss.mergeSort (fun x y => decide (x ≤ y)) = keyL l := mergeSort_of_perm (hperm.trans hP)
    rw [hsort] at hrow
    have hlen : ss.length = (keysE l).length := by rw [keysE, List.length_map, ← hsort, List.length_mergeSort]
    refine own_dz hrow hs1 hlen fun i cells hc => ?_
    simp only [keysE, List.getElem?_map, Option.map_eq_some_iff] at hc
    obtain ⟨s, hs', rfl⟩ := hc
    refine ⟨rfl, fun j x hx => ?_⟩
    match j with
    | 0 =>
      simp at hx
      subst hx
      exact ⟨encStr s, by simp [hs'], by simp [Value.oneCell'], .str _⟩
    | j + 1 => simp at hx
theorem cnames_ok (G : Glob) (b : Nat) (mv : AV) (n : Int) {α : Type} (f : α → AV) (l : List (ByteArray × α)) (h : StG G b mv n (bk f l)) (hl : l.length ≤ 1000000) (hs : ∀ x ∈ l, x.1.size ≤ maxLen) :
    CallOk Tryz.prog TT 33 [.gptr b 0] G (fun v G' => v = .slc 9 (keysE l) ∧ G' = G) :=
  names_bridge rfl ⟨_, Tryz.func33, by decide, rfl⟩ cnames_any cnames_none f G b mv n l h hl hs
end Go.Proofs.YtofhakbmmgpgdaaGreatDoor
