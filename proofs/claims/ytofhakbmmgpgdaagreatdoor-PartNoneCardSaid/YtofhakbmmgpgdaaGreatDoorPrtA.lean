/- part: names of leases where there is no map, at the place where they lie in a partition. -/
import Derived.Test.YtofhakbmmgpgdaaGreatDoorLnaA
set_option maxRecDepth 100000
set_option linter.unusedSimpArgs false
namespace Go.Proofs.YtofhakbmmgpgdaaGreatDoor
open Go Go.RowKit Go.Proofs Go.Maps Go.Sort Go.Shelf

set_option maxHeartbeats 1000000 in
theorem pnames_nomap (bb : Nat) (w : World) (hc0 : w.cell? ⟨bb, 6, none⟩ = some (.map none)) : Calls Tryz.prog 41 #[.pointer (some ⟨bb, 6, none⟩)] w fun e w' => e = .returned (.slice none 0 0) ∧ Up w w' := by
  refine (callsIn_wide (n := 6)).1 ?_
  have hseq : SeqGives Fence.wide 2 Tryz.prog 103 #[.pointer (some ⟨w.heap.size, 0, none⟩)] encStr (fun ss : List (List UInt8) => ss = []) 0 (w.alloc (.cells #[.map none] 61)) :=
    AnyZ.keys_gives_nil (ρ := keysLe_ren) { keysLe with } Fence.wide _ trivial rfl w.heap.size _ (by simp) (by simp)
  have cK : ∀ mb W, CallsIn Fence.wide 5 Tryz.prog 77 #[.map mb] W fun e w' => e = .returned (.func (.func 103) #[] #[.pointer (some ⟨W.heap.size, 0, none⟩)]) ∧ w' = W.alloc (.cells #[.map mb] 61) := fun mb W => AnyZ.keys_in keysLe Fence.wide 5 trivial rfl mb W
  have cS := AnyZ.sorted_in sortedLe Fence.wide 5 trivial trivial trivial trivial rfl (by omega) (sortsLe _) (enters_of Tryz.func71 (by kernel_rfl) rfl) 103 #[.pointer (some ⟨w.heap.size, 0, none⟩)] trivial (enters_of Tryz.func103 (by kernel_rfl) rfl) _ 0 (Nat.zero_le _) (by omega) _ hseq
  change CallsIn _ _ Tryz.prog 76 _ _ _ at cS
  have hfK : Fence.wide.fn 77 := trivial
  have hfS : Fence.wide.fn 76 := trivial
  refine callsIn_of_wp Tryz.func41 rfl trivial ?_ rfl
  simp only [Tryz.ntmps41, List.size_toArray, List.length_cons, List.length_nil, Nat.reduceAdd, Nat.reduceSub, Array.replicate_succ, Array.replicate_zero, List.push_toArray, List.append_toArray, List.nil_append, List.cons_append]
  gi_wp2_with (first
    | (gi_at_call 77; refine (cK _ _).mono ?_; rintro e w' ⟨rfl, rfl⟩)
    | (gi_at_call 76; refine cS.mono ?_; rintro e w' ⟨v, ss, rfl, rfl, hrow, hnil, hb⟩; obtain rfl : v = .slice none 0 0 := hnil.2 rfl))
  go_ret
  exact ⟨rfl, ((Below.refl _ w).alloc (Nat.le_refl _) _).trans (hb.mono (by simp))⟩
theorem pnames_ok (G : Glob) (b : Nat) (cs : List AV) (h : G b = some (.cells cs)) (h6 : cs[6]? = some .nilm) : CallOk Tryz.prog TT 41 [.gptr b 6] G (fun v G' => v = .nils ∧ G' = G) := by
  refine ⟨⟨_, Tryz.func41, by decide, rfl⟩, fun g us w hr hl hd => ?_⟩
  obtain ⟨us⟩ := us
  match us, hl with
  | [u0], _ =>
    obtain ⟨b1, b2, vs, e, h1, h2, h3, h4⟩ := hr b _ h
    have e0 := hd 0 _ u0 rfl rfl
    cases e0 with
    | gptr _ _ hb =>
      have hlt : 6 < vs.size := by rw [h2]; exact (List.getElem?_eq_some_iff.1 h6).1
      have hv : vs[6]? = some vs[6] := by simp [hlt]
      have hz := h4 6 _ _ h6 hv
      generalize vs[6] = v6 at hv hz
      cases hz
      refine (pnames_nomap (g.beta b) w (by rw [blk_cell h1, hv])).mono fun e w' hh => ?_
      obtain ⟨rfl, hu⟩ := hh
      have ext := up_ext hu g
      exact ⟨_, g, G, .nils, rfl, ⟨rfl, rfl⟩, hr.keep ext.dx fun b k _ _ hlt => ⟨rfl, hu.block hlt⟩, ext, .nils⟩
end Go.Proofs.YtofhakbmmgpgdaaGreatDoor
