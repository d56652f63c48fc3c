/- The document's Same says yes to declarations that are alike; how many rows the parser gives. -/
import Derived.Test.YtofhakbmmgpgdaaDoorGg
import Derived.Test.YtofhakbmmgpgdaaDoorSm9c
set_option maxRecDepth 100000
set_option linter.unusedSimpArgs false
namespace Go.Proofs.YtofhakbmmgpgdaaDoor
open Go Go.RowKit Go.Proofs Go.Shelf

theorem rows_len {α : Type} (L : List Tok) (row : PS → α × PS) : ∀ (f n : Nat) (p : PS), (rowsP L row f n p).1.length ≤ f
  | 0, n, p => Nat.le_refl _
  | f + 1, n, p => by
    rw [rowsP]
    split
    · exact Nat.zero_le _
    · split
      · exact Nat.zero_le _
      · generalize (if n = 16 ∧ (cur L p).kind ≠ 4 then failP L p 3 else p) = q
        have h1 := rows_len L row f (n + 1) (needP L (row q).2 [59])
        have h2 := rows_len L row f (n + 1) q
        show (if q.err = 0 then ((row q).1 :: (rowsP L row f (n + 1) (needP L (row q).2 [59])).1, (rowsP L row f (n + 1) (needP L (row q).2 [59])).2) else rowsP L row f (n + 1) q).1.length ≤ f + 1
        split
        · simp only [List.length_cons]; omega
        · omega
theorem decl_len (L : List Tok) (p : PS) : (declP L p).1.fields.length ≤ 18 ∧ (declP L p).1.methods.length ≤ 18 := by
  unfold declP
  simp only
  split
  · exact ⟨Nat.zero_le _, rows_len L _ 18 0 _⟩
  · exact ⟨rows_len L _ 18 0 _, Nat.zero_le _⟩
theorem decls_rows (L : List Tok) : ∀ (f n : Nat) (p : PS), ∀ d ∈ (declsP L f n p).1, d.fields.length ≤ 18 ∧ d.methods.length ≤ 18
  | 0, n, p, d, h => by cases h
  | f + 1, n, p, d, h => by
    rw [declsP] at h
    split at h
    · cases h
    · split at h
      · cases h
      · rcases List.mem_cons.1 h with rfl | h
        · exact decl_len L p
        · exact decls_rows L f _ _ d h
theorem parse_rows (s : List UInt8) : ∀ d ∈ (parseT s).1, d.fields.length ≤ 18 ∧ d.methods.length ≤ 18 := fun d h => by
  unfold parseT at h
  simp only at h
  split at h
  · cases h
  · split at h
    · cases h
    · exact decls_rows _ _ _ _ d h
theorem parse_len (s : List UInt8) : (parseT s).1.length ≤ 16 := by
  unfold parseT
  simp only
  split
  · exact Nat.zero_le _
  · split
    · exact Nat.zero_le _
    · have := decls_len (tokT s).1 17 0 ⟨0, 0, 0⟩ (by omega); omega
theorem like_at : ∀ {a b : List Dc}, LikeDs a b → ∀ (i : Nat) (x y : Dc), a[i]? = some x → b[i]? = some y → likeD x y
  | x' :: a, y' :: b, h, 0, x, y, hx, hy => by cases hx; cases hy; exact h.1
  | x' :: a, y' :: b, h, i + 1, x, y, hx, hy => like_at h.2 i x y hx hy
theorem fd_same (l : List Fd) : ∀ (i : Nat) (a b : List AV), (l.map Fd.av)[i]? = some a → (l.map Fd.av)[i]? = some b → SameF a b := fun i a b ha hb => by
  rw [ha] at hb; cases hb
  rw [List.getElem?_map] at ha
  cases h : l[i]? with
  | none => rw [h] at ha; cases ha
  | some f =>
    rw [h] at ha; cases ha
    exact ⟨_, _, _, _, rfl, rfl, f.ty.same⟩
theorem md_same (l : List Md) : ∀ (i : Nat) (a b : List AV), (l.map Md.av)[i]? = some a → (l.map Md.av)[i]? = some b → SameM a b := fun i a b ha hb => by
  rw [ha] at hb; cases hb
  rw [List.getElem?_map] at ha
  cases h : l[i]? with
  | none => rw [h] at ha; cases ha
  | some f => rw [h] at ha; cases ha; exact ⟨_, _, _, _, _, rfl, rfl⟩
theorem dc_same {x y : Dc} (h : likeD x y) (hf : y.fields.length ≤ 18) (hm : y.methods.length ≤ 18) : ∃ k nm f1 f2 m1 m2 pa pb, SameC x.nav y.nav k nm f1 f2 m1 m2 pa pb := by
  obtain ⟨h1, h2, h3, h4⟩ := h
  unfold Dc.nav
  rw [h1, h2, h3, h4]
  by_cases k4 : y.kind = 4
  · simp only [if_pos k4]
    exact ⟨_, _, _, _, _, _, _, _, rfl, rfl, rfl, rfl, by simp, by simp; omega, fun i a b h => by simp at h, md_same _⟩
  · simp only [if_neg k4]
    exact ⟨_, _, _, _, _, _, _, _, rfl, rfl, rfl, rfl, by simp; omega, by simp, fd_same _, fun i a b h => by simp at h⟩
theorem same_like {z l : List Dc} (h : LikeDs z l) (hl : l.length ≤ 1000) (hr : ∀ d ∈ l, d.fields.length ≤ 18 ∧ d.methods.length ≤ 18) (G : Glob) :
    CallOk Tryd.prog TT 28 [.slc 77 (z.map Dc.av), .slc 77 (l.map Dc.av), .bool false] G (fun v G' => v = .bool true ∧ G' = G) := by
  have hlen := h.len
  refine (same09_ok (A := z.map Dc.nav) (B := l.map Dc.nav) (by simp [hlen]) (by simp; omega) (fun i a b ha hb => ?_) G).args rfl fun i a ha => ?_
  · rw [List.getElem?_map] at ha hb
    cases hx : z[i]? with
    | none => rw [hx] at ha; cases ha
    | some x =>
      cases hy : l[i]? with
      | none => rw [hy] at hb; cases hb
      | some y =>
        rw [hx] at ha; rw [hy] at hb
        cases ha; cases hb
        have := hr y (List.mem_of_getElem? hy)
        exact dc_same (like_at h i x y hx hy) this.1 this.2
  · match i with
    | 0 => cases ha; exact ⟨_, rfl, fun g w u h => dc_to h⟩
    | 1 => cases ha; exact ⟨_, rfl, fun g w u h => dc_to h⟩
    | 2 => cases ha; exact ⟨_, rfl, fun g w u h => h⟩
    | i + 3 => simp at ha
end Go.Proofs.YtofhakbmmgpgdaaDoor
