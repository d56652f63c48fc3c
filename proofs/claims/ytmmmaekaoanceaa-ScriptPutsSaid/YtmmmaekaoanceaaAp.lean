/- Less is known: what is to be shown of it, worked out. -/
import Derived.Test.YtmmmaekaoanceaaAo
namespace Go.Proofs.Ytmmmaekaoanceaa
open Go Go.RowKit

def le0W (rs : List (Option Nat)) (nl : Nat) : AV → AV → Prop → Prop
  | _, .top, K => K
  | .own j e els, .own i e' els', K => (match rs[i]? with
    | some (some q) => (match decide (q = j), decide (e = e') with
      | true, true => els = els' ∧ K
      | _, _ => False)
    | _ => False)
  | .nils, .own i _ els', K => (match rs[i]? with
    | some none => els' = [] ∧ K
    | _ => False)
  | .own _ e els, .slc e' els', K => (match decide (e = e') with
    | true => els = els' ∧ K
    | false => False)
  | .slc e els, .slc e' els', K => (match decide (e = e') with
    | true => els = els' ∧ K
    | false => False)
  | .nils, .slc _ els', K => els' = [] ∧ K
  | .nils, .nils, K => K
  | .int k n, .int k' n', K => (match decide (k = k') with
    | true => n = n' ∧ K
    | false => False)
  | .bool b, .bool b', K => b = b' ∧ K
  | .str s, .str s', K => s = s' ∧ K
  | .lptr j o, .lptr j' o', K => (match decide (j = j'), decide (j < nl) with
    | true, true => o = o' ∧ K
    | _, _ => False)
  | .gptr b o, .gptr b' o', K => b = b' ∧ o = o' ∧ K
  | .nilp, .nilp, K => K
  | .nilf, .nilf, K => K
  | .nili, .nili, K => K
  | .nilm, .nilm, K => K
  | .mp b, .mp b', K => b = b' ∧ K
  | .eref c o, .eref c' o', K => c = c' ∧ o = o' ∧ K
  | _, _, _ => False
def le0sW (rs : List (Option Nat)) (nl : Nat) : List AV → List AV → Prop → Prop
  | [], [], K => K
  | v :: r, v' :: r', K => le0W rs nl v v' (le0sW rs nl r r' K)
  | _, _, _ => False
def le1W (rs : List (Option Nat)) (nl : Nat) (v v' : AV) (K : Prop) : Prop :=
  match v, v' with
  | .agg cs, .agg ds => le0sW rs nl cs ds K
  | .fn f a b, .fn f' a' b' => f = f' ∧ le0sW rs nl a a' (le0sW rs nl b b' K)
  | v, v' => le0W rs nl v v' K
def le1sW (rs : List (Option Nat)) (nl : Nat) : List AV → List AV → Prop → Prop
  | [], [], K => K
  | v :: r, v' :: r', K => le1W rs nl v v' (le1sW rs nl r r' K)
  | _, _, _ => False
def leLW (rs : List (Option Nat)) (nl : Nat) : List LB → List LB → Prop → Prop
  | _, [], K => K
  | .live org cells :: r, .live org' cells' :: r', K => org = org' ∧ le1sW rs nl cells cells' (leLW rs nl r r' K)
  | .away b :: r, .away b' :: r', K => b = b' ∧ leLW rs nl r r' K
  | _ :: r, .dead :: r', K => leLW rs nl r r' K
  | _, _, _ => False
def weakW (rs : List (Option Nat)) (c' c : Cf) : Prop :=
  match c', c with
  | ⟨env', L', nl', nt', G'⟩, ⟨env, L, nl, nt, G⟩ => le1sW rs nl' env env' (leLW rs nl' L L' ((∀ b x, G' b = some x → G b = some x) ∧ L'.length = nl' ∧ nl' ≤ nl ∧ nt' = rs.length ∧ nodupB nt rs = true))
theorem le0W_ok {rs : List (Option Nat)} {nl : Nat} {v v' : AV} {K : Prop} (h : le0W rs nl v v' K) : le0 rs nl v v' ∧ K := by
  unfold le0W at h
  split at h
  case h_2 =>
    split at h
    · rename_i q hq
      split at h
      · rename_i h1 h2
        have h1 := of_decide_eq_true h1
        have h2 := of_decide_eq_true h2
        subst h1
        exact ⟨⟨hq, h2, h.1⟩, h.2⟩
      · exact h.elim
    · exact h.elim
  case h_3 =>
    split at h
    · rename_i hq
      exact ⟨⟨hq, h.1⟩, h.2⟩
    · exact h.elim
  case h_4 =>
    split at h
    · rename_i h1
      exact ⟨⟨of_decide_eq_true h1, h.1⟩, h.2⟩
    · exact h.elim
  case h_5 =>
    split at h
    · rename_i h1
      exact ⟨⟨of_decide_eq_true h1, h.1⟩, h.2⟩
    · exact h.elim
  case h_8 =>
    split at h
    · rename_i h1
      exact ⟨⟨of_decide_eq_true h1, h.1⟩, h.2⟩
    · exact h.elim
  case h_11 =>
    split at h
    · rename_i h1 h2
      exact ⟨⟨⟨of_decide_eq_true h1, of_decide_eq_true h2⟩, h.1⟩, h.2⟩
    · exact h.elim
  all_goals first | exact h.elim | exact ⟨⟨h.1, h.2.1⟩, h.2.2⟩ | exact ⟨h.1, h.2⟩ | skip
  all_goals first | exact ⟨trivial, h⟩ | skip
theorem le0sW_ok {rs : List (Option Nat)} {nl : Nat} : ∀ {l l' : List AV} {K : Prop}, le0sW rs nl l l' K → le0s rs nl l l' ∧ K
  | [], [], _, h => ⟨trivial, h⟩
  | v :: r, v' :: r', K, h => by
    obtain ⟨h1, h2⟩ := le0W_ok (K := le0sW rs nl r r' K) h
    obtain ⟨h3, h4⟩ := le0sW_ok h2
    exact ⟨⟨h1, h3⟩, h4⟩
  | [], _ :: _, _, h => h.elim
  | _ :: _, [], _, h => h.elim
theorem le1W_ok {rs : List (Option Nat)} {nl : Nat} {v v' : AV} {K : Prop} (h : le1W rs nl v v' K) : le1 rs nl v v' ∧ K := by
  unfold le1W at h
  split at h
  · exact le0sW_ok h
  · obtain ⟨h0, h1⟩ := h
    obtain ⟨h2, h3⟩ := le0sW_ok h1
    obtain ⟨h4, h5⟩ := le0sW_ok h3
    exact ⟨⟨h0, h2, h4⟩, h5⟩
  · rename_i h1 h2
    obtain ⟨h3, h4⟩ := le0W_ok h
    refine ⟨?_, h4⟩
    unfold le1
    split
    · exact absurd rfl (h1 _ _ rfl)
    · exact absurd rfl (h2 _ _ _ _ _ _ rfl)
    · exact h3
theorem le1sW_ok {rs : List (Option Nat)} {nl : Nat} : ∀ {l l' : List AV} {K : Prop}, le1sW rs nl l l' K → le1s rs nl l l' ∧ K
  | [], [], _, h => ⟨trivial, h⟩
  | v :: r, v' :: r', K, h => by
    obtain ⟨h1, h2⟩ := le1W_ok (K := le1sW rs nl r r' K) h
    obtain ⟨h3, h4⟩ := le1sW_ok h2
    exact ⟨⟨h1, h3⟩, h4⟩
  | [], _ :: _, _, h => h.elim
  | _ :: _, [], _, h => h.elim
theorem leLW_ok {rs : List (Option Nat)} {nl : Nat} : ∀ {l l' : List LB} {K : Prop}, leLW rs nl l l' K → leL rs nl l l' ∧ K
  | [], [], _, h => ⟨trivial, h⟩
  | _ :: _, [], _, h => ⟨trivial, h⟩
  | .live org cells :: r, .live org' cells' :: r', K, h => by
    obtain ⟨h0, h1⟩ := h
    obtain ⟨h2, h3⟩ := le1sW_ok h1
    obtain ⟨h4, h5⟩ := leLW_ok h3
    exact ⟨⟨⟨h0, h2⟩, h4⟩, h5⟩
  | .away b :: r, .away b' :: r', K, h => by
    obtain ⟨h0, h1⟩ := h
    obtain ⟨h4, h5⟩ := leLW_ok h1
    exact ⟨⟨h0, h4⟩, h5⟩
  | .live _ _ :: r, .dead :: r', K, h => leLW_ok (l := r) (l' := r') h
  | .away _ :: r, .dead :: r', K, h => leLW_ok (l := r) (l' := r') h
  | .dead :: r, .dead :: r', K, h => leLW_ok (l := r) (l' := r') h
  | [], _ :: _, _, h => by cases ‹LB› <;> exact h.elim
  | .live _ _ :: _, .away _ :: _, _, h => h.elim
  | .away _ :: _, .live _ _ :: _, _, h => h.elim
  | .dead :: _, .live _ _ :: _, _, h => h.elim
  | .dead :: _, .away _ :: _, _, h => h.elim
theorem weak_by {T : TypeId → TR} (rs : List (Option Nat)) {c' c : Cf} (h : weakW rs c' c) : Weak T c' c := by
  obtain ⟨env', L', nl', nt', G'⟩ := c'
  obtain ⟨env, L, nl, nt, G⟩ := c
  obtain ⟨h1, h2⟩ := le1sW_ok h
  obtain ⟨h3, h4⟩ := leLW_ok h2
  exact weak_of rs ⟨h1, h3, h4⟩
end Go.Proofs.Ytmmmaekaoanceaa
