/- strings.Builder at the beginning of show.out, in the abstract run. -/
import Derived.Test.YtofhakbmmgpgdaaDoorOut
set_option maxRecDepth 100000
namespace Go.Proofs.YtofhakbmmgpgdaaDoor
open Go Go.RowKit Go.Proofs Go.Shelf

theorem box_obld {g : Gh} {w : World} {b : Nat} {s : ByteArray} {y : AV} (h : BoxAt TT g w b (.obld 90 s y)) : ∃ p v x, OBld w (g.beta b) p v x (Lib.strCells s) ∧ (∀ k, v.ownBlock = some k → g.own k = .gtok b 1 0) ∧ x.oneCell' = true ∧ Dz TT g w y x := by
  obtain ⟨e, p, v, x, h0, h1, h2, h3, h4, h5, h6, h7, h8⟩ := h
  have he : (TT 90).obld = some 5 := rfl
  rw [he] at h0
  cases h0
  refine ⟨p, v, x, ⟨h1, h2, by rw [Lib.strCells_length]; exact h3, h4, fun hn => h6 ?_⟩, h5, h7, h8⟩
  rw [← Lib.strCells_length s, hn]; rfl
theorem obld_box {g : Gh} {w : World} {b : Nat} {s : ByteArray} {p v x : Value} {y : AV} (h : OBld w (g.beta b) p v x (Lib.strCells s)) (ho : ∀ k, v.ownBlock = some k → g.own k = .gtok b 1 0) (h7 : x.oneCell' = true) (h8 : Dz TT g w y x) : BoxAt TT g w b (.obld 90 s y) :=
  ⟨5, p, v, x, rfl, h.blk, h.adr, by have := h.own; rw [Lib.strCells_length] at this; exact this, h.ne, ho, fun hs => h.nil (List.eq_nil_of_length_eq_zero (by rw [Lib.strCells_length]; exact hs)), h7, h8⟩
theorem owrite_ok (s t : ByteArray) (y : AV) (b : Nat) (G : Glob) (hG : G b = some (.obld 90 s y)) (hl : s.size + t.size ≤ 140737488355328) :
    CallOk Tryd.prog TT 103 [.gptr b 0, .str t] G (fun v G' => v = .tup [.int .i64 t.size, .nili] ∧ G' = setG G b (.obld 90 (s ++ t) y)) := by
  refine ⟨⟨_, Tryd.func103, by decide, rfl⟩, fun g us w hr hl' hd => ?_⟩
  obtain ⟨us⟩ := us
  match us, hl' with
  | [u0, u1], _ =>
    obtain ⟨b1, b2, b3⟩ := hr b _ hG
    cases hd 1 _ u1 rfl rfl
    have e0 := hd 0 _ u0 rfl rfl
    cases e0 with
    | gptr _ _ hb =>
      obtain ⟨p, v, x, hB, ho, h7, h8⟩ := box_obld b3
      refine (owrite_any (g.beta b) p v x (Lib.strCells s) t w hB (by rw [Lib.strCells_length]; exact hl)).mono ?_
      rintro e w' ⟨rfl, v', hB', ht, hat⟩
      refine ⟨_, { g with own := fun i => if v'.ownBlock = some i then .gtok b 1 0 else g.own i }, setG G b (.obld 90 (s ++ t) y), .tup [.int .i64 t.size, .nili], rfl, ⟨rfl, rfl⟩, ?_, ?_, .tup _ _ rfl fun i c u hc hu => ?_⟩
      rotate_left 2
      · match i with
        | 0 => simp at hc hu; subst hc hu; exact .int _ _
        | 1 => simp at hc hu; subst hc hu; exact .nili
        | i + 2 => simp at hc
      all_goals (
        have hg : ∀ k, k < w.heap.size → (if v'.ownBlock = some k then Own.gtok b 1 0 else g.own k) = g.own k := fun k hk => by
          split
          · rename_i hv
            rcases hat with hat | ⟨j, hj, hjl⟩
            · exact (ho k (by rw [← hat]; exact hv)).symm
            · rw [hj] at hv; simp only [Option.some.injEq] at hv; omega
          · rfl
        obtain ⟨r1, r2⟩ := two_rest (g' := { g with own := fun i => if v'.ownBlock = some i then .gtok b 1 0 else g.own i }) hr b2 ho ht hg rfl rfl)
      · intro i bx hi
        by_cases hib : i = b
        · subst hib
          rw [setG_same, Option.some.injEq] at hi
          subst hi
          exact ⟨b1, by rw [← b2]; exact hg _ b3.lt, obld_box (by rw [strCells_app]; exact hB') (fun k hk => if_pos hk) h7 (h8.mono r1.dx)⟩
        · rw [setG_ne _ _ hib] at hi
          exact r2 i bx hib hi
      · exact r1
theorem ostring_ok (s : ByteArray) (y : AV) (b : Nat) (G : Glob) (hG : G b = some (.obld 90 s y)) : CallOk Tryd.prog TT 65 [.gptr b 0] G (fun v G' => v = .str s ∧ G' = delG G b) := by
  refine ⟨⟨_, Tryd.func65, by decide, rfl⟩, fun g us w hr hl hd => ?_⟩
  obtain ⟨us⟩ := us
  match us, hl with
  | [u0], _ =>
    obtain ⟨b1, b2, b3⟩ := hr b _ hG
    have e0 := hd 0 _ u0 rfl rfl
    cases e0 with
    | gptr _ _ hb =>
      obtain ⟨p, v, x, hB, ho, _, _⟩ := box_obld b3
      refine (ostring_any (g.beta b) p v x s w hB).mono ?_
      rintro e w' ⟨rfl, ht⟩
      obtain ⟨r1, r2⟩ := two_rest (g' := g) hr b2 ho ht (fun _ _ => rfl) rfl rfl
      refine ⟨_, g, delG G b, .str s, rfl, ⟨rfl, rfl⟩, fun i bx hi => ?_, r1, .str s⟩
      have hib : i ≠ b := fun e => by subst e; simp [delG] at hi
      rw [delG_ne _ hib] at hi
      exact r2 i bx hib hi
end Go.Proofs.YtofhakbmmgpgdaaDoor
