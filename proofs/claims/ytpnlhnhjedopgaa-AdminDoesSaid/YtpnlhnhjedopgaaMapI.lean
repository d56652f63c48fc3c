/- Boxes that hold a map of numbers: what stands under a number, in lists. Printed from XMapA by text substitution. -/
import Derived.Test.YtpnlhnhjedopgaaMapA
set_option maxRecDepth 100000
set_option linter.unusedSimpArgs false
namespace Go.Proofs.Ytpnlhnhjedopgaa
open Go Go.RowKit Go.Proofs

def zget {α : Type} : List (Int × α) → Int → Option α
  | [], _ => none
  | (k, v) :: r, x => match decide (x = k) with | true => some v | false => zget r x
def zput {α : Type} : List (Int × α) → Int → α → List (Int × α)
  | [], x, y => [(x, y)]
  | (k, v) :: r, x, y => match decide (x = k) with | true => (x, y) :: r | false => (k, v) :: zput r x y
def zdel {α : Type} : List (Int × α) → Int → List (Int × α)
  | [], _ => []
  | (k, v) :: r, x => match decide (x = k) with | true => r | false => (k, v) :: zdel r x
def bz {α : Type} (f : α → AV) (l : List (Int × α)) : List (AV × AV) := l.map fun x => (.int .i64 x.1, f x.2)
theorem bz_get {α : Type} (f : α → AV) (k : Int) : ∀ l, mget (bz f l) (.int .i64 k) = (zget l k).map f
  | [] => rfl
  | (x, y) :: r => by
    show (match decide (k = x) with | true => some (f y) | false => mget (bz f r) (.int .i64 k)) = _
    rw [bz_get f k r]
    rw [show zget ((x, y) :: r) k = (match decide (k = x) with | true => some y | false => zget r k) from rfl]
    cases decide (k = x) <;> rfl
theorem bz_put {α : Type} (f : α → AV) (k : Int) (v : α) : ∀ l, mput (bz f l) (.int .i64 k) (f v) = bz f (zput l k v)
  | [] => rfl
  | (x, y) :: r => by
    show (match decide (k = x) with | true => (AV.int .i64 k, f v) :: bz f r | false => (AV.int .i64 x, f y) :: mput (bz f r) (.int .i64 k) (f v)) = _
    rw [bz_put f k v r]
    rw [show zput ((x, y) :: r) k v = (match decide (k = x) with | true => (k, v) :: r | false => (x, y) :: zput r k v) from rfl]
    cases decide (k = x) <;> rfl
theorem bz_del {α : Type} (f : α → AV) (k : Int) : ∀ l, mdel (bz f l) (.int .i64 k) = bz f (zdel l k)
  | [] => rfl
  | (x, y) :: r => by
    show (match decide (k = x) with | true => bz f r | false => (AV.int .i64 x, f y) :: mdel (bz f r) (.int .i64 k)) = _
    rw [bz_del f k r]
    rw [show zdel ((x, y) :: r) k = (match decide (k = x) with | true => r | false => (x, y) :: zdel r k) from rfl]
    cases decide (k = x) <;> rfl
theorem zget_put_same {α : Type} (k : Int) (v : α) : ∀ l, zget (zput l k v) k = some v
  | [] => by simp [zput, zget]
  | (x, y) :: r => by
    unfold zput
    by_cases h : k = x
    · simp [h, zget]
    · simp [h, zget, zget_put_same k v r]
theorem zget_put_ne {α : Type} {k z : Int} (hz : z ≠ k) (v : α) : ∀ l, zget (zput l k v) z = zget l z
  | [] => by simp [zput, zget, hz]
  | (x, y) :: r => by
    unfold zput
    by_cases h : k = x
    · subst h; simp [zget, hz]
    · simp only [h, decide_false, zget]
      rw [zget_put_ne hz v r]
theorem zget_mem {α : Type} {k : Int} {x : α} : ∀ {l : List (Int × α)}, zget l k = some x → (k, x) ∈ l
  | [], h => by cases h
  | (z, y) :: r, h => by
    by_cases hz : k = z
    · subst hz
      simp [zget] at h
      simp [h]
    · simp only [zget, hz, decide_false] at h
      exact List.mem_cons_of_mem _ (zget_mem h)
theorem zget_none {α : Type} {k : Int} : ∀ {l : List (Int × α)}, zget l k = none → ∀ e ∈ l, e.1 ≠ k
  | [], _, e, he => by cases he
  | (z, y) :: r, h, e, he => by
    by_cases hz : k = z
    · simp [zget, hz] at h
    · simp only [zget, hz, decide_false] at h
      rcases List.mem_cons.1 he with rfl | he
      · exact fun q => hz q.symm
      · exact zget_none h e he
theorem mem_zput {α : Type} {k : Int} {x : α} {e : Int × α} : ∀ (l : List (Int × α)), (l.map (·.1)).Nodup → e ∈ zput l k x → e = (k, x) ∨ e ∈ l ∧ e.1 ≠ k
  | [], _, h => by simp [zput] at h; exact .inl h
  | (z, y) :: r, hn, h => by
    simp only [List.map_cons, List.nodup_cons] at hn
    by_cases hz : k = z
    · subst hz
      simp only [zput, decide_true] at h
      rcases List.mem_cons.1 h with rfl | h
      · exact .inl rfl
      · exact .inr ⟨List.mem_cons_of_mem _ h, fun q => hn.1 (List.mem_map.2 ⟨e, h, q⟩)⟩
    · simp only [zput, hz, decide_false] at h
      rcases List.mem_cons.1 h with rfl | h
      · exact .inr ⟨by simp, fun q => hz q.symm⟩
      · rcases mem_zput r hn.2 h with h | ⟨h, hk⟩
        · exact .inl h
        · exact .inr ⟨List.mem_cons_of_mem _ h, hk⟩
theorem keys_zput {α : Type} {z k : Int} {x : α} : ∀ (l : List (Int × α)), z ∈ (zput l k x).map (·.1) → z = k ∨ z ∈ l.map (·.1)
  | [], h => by simp [zput] at h; exact .inl h
  | (y, u) :: r, h => by
    by_cases hz : k = y
    · subst hz
      simp only [zput, decide_true, List.map_cons, List.mem_cons] at h ⊢
      rcases h with h | h
      · exact .inl h
      · exact .inr (.inr h)
    · simp only [zput, hz, decide_false, List.map_cons, List.mem_cons] at h ⊢
      rcases h with h | h
      · exact .inr (.inl h)
      · rcases keys_zput r h with h | h
        · exact .inl h
        · exact .inr (.inr h)
theorem nodup_zput {α : Type} (k : Int) (x : α) : ∀ (l : List (Int × α)), (l.map (·.1)).Nodup → ((zput l k x).map (·.1)).Nodup
  | [], _ => by simp [zput]
  | (z, y) :: r, hn => by
    simp only [List.map_cons, List.nodup_cons] at hn
    by_cases hz : k = z
    · subst hz
      simp only [zput, decide_true, List.map_cons, List.nodup_cons]
      exact hn
    · simp only [zput, hz, decide_false, List.map_cons, List.nodup_cons]
      refine ⟨fun h => ?_, nodup_zput k x r hn.2⟩
      rcases keys_zput r h with h | h
      · exact hz h.symm
      · exact hn.1 h
theorem mem_zdel {α : Type} {k : Int} {e : Int × α} : ∀ (l : List (Int × α)), (l.map (·.1)).Nodup → e ∈ zdel l k → e ∈ l ∧ e.1 ≠ k
  | [], _, h => by simp [zdel] at h
  | (z, y) :: r, hn, h => by
    simp only [List.map_cons, List.nodup_cons] at hn
    by_cases hz : k = z
    · subst hz
      simp only [zdel, decide_true] at h
      exact ⟨List.mem_cons_of_mem _ h, fun q => hn.1 (List.mem_map.2 ⟨e, h, q⟩)⟩
    · simp only [zdel, hz, decide_false] at h
      rcases List.mem_cons.1 h with rfl | h
      · exact ⟨by simp, fun q => hz q.symm⟩
      · obtain ⟨h, hk⟩ := mem_zdel r hn.2 h
        exact ⟨List.mem_cons_of_mem _ h, hk⟩
theorem zdel_sub {α : Type} (k : Int) : ∀ (l : List (Int × α)), (zdel l k).Sublist l
  | [] => .refl _
  | (z, y) :: r => by
    by_cases hz : k = z
    · simp [zdel, hz]
    · simp only [zdel, hz, decide_false]
      exact (zdel_sub k r).cons_cons _
theorem nodup_zdel {α : Type} (k : Int) (l : List (Int × α)) (h : (l.map (·.1)).Nodup) : ((zdel l k).map (·.1)).Nodup :=
  h.sublist ((zdel_sub k l).map _)

end Go.Proofs.Ytpnlhnhjedopgaa
