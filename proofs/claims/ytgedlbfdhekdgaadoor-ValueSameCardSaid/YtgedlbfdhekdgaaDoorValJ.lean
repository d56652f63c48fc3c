/- value.items and value.rows in the abstract run (printed by genvalj.py). -/
import Derived.Test.YtgedlbfdhekdgaaDoorValH
import Derived.Test.YtgedlbfdhekdgaaDoorValC
import Derived.Test.YtgedlbfdhekdgaaDoorUint
import Derived.Test.YtgedlbfdhekdgaaDoorSjn
set_option maxRecDepth 100000
set_option linter.unusedSimpArgs false
namespace Go.Proofs.YtgedlbfdhekdgaaDoor
open Go Go.RowKit Go.Proofs

def pcs : List VT → Nat → Nat → List Int → List (List UInt8)
  | [], _, _, _ => []
  | x :: r, i, how, tags => (tagV i how tags ++ textT x) :: pcs r (i + 1) how tags
theorem pcs_len : ∀ (l : List VT) (i how : Nat) (tags : List Int), (pcs l i how tags).length = l.length
  | [], _, _, _ => rfl
  | x :: r, i, how, tags => by rw [pcs, List.length_cons, pcs_len r, List.length_cons]
theorem pcs_app : ∀ (l : List VT) (x : VT) (i how : Nat) (tags : List Int), pcs (l ++ [x]) i how tags = pcs l i how tags ++ [tagV (i + l.length) how tags ++ textT x]
  | [], x, i, how, tags => by simp [pcs]
  | y :: l, x, i, how, tags => by
    rw [List.cons_append, pcs, pcs_app l x, pcs, List.length_cons, show i + 1 + l.length = i + (l.length + 1) by omega]
    rfl
theorem pcs_take (l : List VT) (how : Nat) (tags : List Int) (k : Nat) (x : VT) (h : l[k]? = some x) : pcs (l.take (k + 1)) 0 how tags = pcs (l.take k) 0 how tags ++ [tagV k how tags ++ textT x] := by
  rw [List.take_add_one, h, Option.toList_some, pcs_app]
  have : (l.take k).length = k := by rw [List.length_take]; have := (List.getElem?_eq_some_iff.1 h).1; omega
  rw [this, Nat.zero_add]
theorem pcs_tail : ∀ (l : List VT) (i how : Nat) (tags : List Int), 0 < i → how < 2 → Lib.joinTail [44] (pcs l i how tags) = itemsT l i how tags
  | [], i, how, tags, _, _ => by simp [pcs, itemsT, Lib.joinTail]
  | x :: r, i, how, tags, hi, hh => by
    have ih := pcs_tail r (i + 1) how tags (by omega) hh
    have e : Lib.joinTail [44] (pcs (x :: r) i how tags) = [44] ++ (tagV i how tags ++ textT x) ++ Lib.joinTail [44] (pcs r (i + 1) how tags) := by simp [pcs, Lib.joinTail]
    rw [e, ih, itemsT]
    have hs : sepV i how = [44] := by unfold sepV; rw [if_neg (by omega), if_pos (.inl hh)]
    rw [hs]; simp
theorem pcs_join (l : List VT) (how : Nat) (tags : List Int) (hh : how < 2) : Lib.join (pcs l 0 how tags) [44] = itemsT l 0 how tags := by
  cases l with
  | nil => simp [pcs, itemsT, Lib.join_nil]
  | cons x r =>
    rw [pcs, Lib.join_cons, pcs_tail r 1 how tags (by omega) hh, itemsT]
    have hs : sepV 0 how = [] := by unfold sepV; rw [if_pos rfl]
    rw [hs]; simp
def pairT : List VT → List (List UInt8)
  | [] => []
  | [x] => [textT x]
  | x :: y :: r => (textT x ++ ([58] ++ textT y)) :: pairT r
theorem tagV2 (i : Nat) (tags : List Int) : tagV i 2 tags = [] := by unfold tagV; rw [if_neg (by decide)]
theorem sepV2 (i : Nat) (h : 0 < i) : sepV i 2 = if i % 2 = 0 then [44] else [58] := by
  unfold sepV
  rw [if_neg (by omega)]
  by_cases h2 : i % 2 = 0
  · rw [if_pos (.inr h2), if_pos h2]
  · rw [if_neg (by omega), if_neg h2]
theorem pair_tail : ∀ (l : List VT) (j : Nat) (tags : List Int), Lib.joinTail [44] (pairT l) = itemsT l (2 * (j + 1)) 2 tags
  | [], j, tags => by simp [pairT, itemsT, Lib.joinTail]
  | [x], j, tags => by
    rw [itemsT, itemsT, tagV2, sepV2 _ (by omega), if_pos (by omega)]
    simp [pairT, Lib.joinTail]
  | x :: y :: r, j, tags => by
    have ih := pair_tail r (j + 1) tags
    have e : Lib.joinTail [44] (pairT (x :: y :: r)) = [44] ++ (textT x ++ ([58] ++ textT y)) ++ Lib.joinTail [44] (pairT r) := by simp [pairT, Lib.joinTail]
    rw [e, ih, itemsT, itemsT, tagV2, tagV2, sepV2 _ (by omega), sepV2 _ (by omega), if_pos (by omega), if_neg (by omega), show 2 * (j + 1) + 1 + 1 = 2 * (j + 1 + 1) by omega]
    simp
theorem pair_join (l : List VT) (tags : List Int) : Lib.join (pairT l) [44] = itemsT l 0 2 tags := by
  match l with
  | [] => simp [pairT, itemsT, Lib.join_nil]
  | [x] => rw [itemsT, itemsT, tagV2]; simp [pairT, Lib.join_one, sepV]
  | x :: y :: r =>
    rw [pairT, Lib.join_cons, pair_tail r 0 tags, itemsT, itemsT, tagV2, tagV2, sepV2 1 (by omega), if_neg (by omega)]
    simp [sepV]
theorem pair_app : ∀ (a b : List VT), a.length % 2 = 0 → pairT (a ++ b) = pairT a ++ pairT b
  | [], b, _ => rfl
  | [x], b, h => by simp at h
  | x :: y :: r, b, h => by
    have := pair_app r b (by simp only [List.length_cons] at h; omega)
    rw [List.cons_append, List.cons_append, pairT, this, pairT]; rfl
theorem pair_len : ∀ (l : List VT), (pairT l).length ≤ l.length
  | [] => Nat.le_refl _
  | [x] => Nat.le_refl _
  | x :: y :: r => by have := pair_len r; rw [pairT, List.length_cons, List.length_cons, List.length_cons]; omega
theorem pair_take1 (l : List VT) (k : Nat) (x : VT) (h : l[2 * k]? = some x) (hl : l.length = 2 * k + 1) : pairT (l.take (2 * (k + 1))) = pairT (l.take (2 * k)) ++ [textT x] := by
  have e : l.take (2 * (k + 1)) = l.take (2 * k) ++ [x] := by
    rw [show 2 * (k + 1) = 2 * k + 1 + 1 by omega, List.take_add_one, List.getElem?_eq_none (by omega), Option.toList_none, List.append_nil, List.take_add_one, h, Option.toList_some]
  rw [e, pair_app _ _ (by rw [List.length_take]; omega)]; rfl
theorem pair_take2 (l : List VT) (k : Nat) (x y : VT) (h : l[2 * k]? = some x) (h2 : l[2 * k + 1]? = some y) : pairT (l.take (2 * (k + 1))) = pairT (l.take (2 * k)) ++ [textT x ++ ([58] ++ textT y)] := by
  have hl := (List.getElem?_eq_some_iff.1 h2).1
  have e : l.take (2 * (k + 1)) = l.take (2 * k) ++ [x, y] := by
    rw [show 2 * (k + 1) = 2 * k + 1 + 1 by omega, List.take_add_one, h2, Option.toList_some, List.take_add_one, h, Option.toList_some, List.append_assoc]; rfl
  rw [e, pair_app _ _ (by rw [List.length_take]; omega)]; rfl
def VTextOk (v : VT) : Prop := ∀ G : Glob, PowOk G → v.In → sizeV v ≤ 100000 → CallOk Tryd.prog TT 7 [.agg v.av] G (fun r G' => r = .str (S (textT v)) ∧ G' = G)
set_option maxHeartbeats 1000000 in
theorem vitems0_ok (kd nm : Int) (s : List UInt8) (tags : List Int) (l : List VT) (ih : ∀ x ∈ l, VTextOk x) (hin : ∀ x ∈ l, x.In) (ht : ∀ t ∈ tags, -9223372036854775808 ≤ t ∧ t ≤ 9223372036854775807) (hl : sizesV l ≤ 100000) {G : Glob} (hG : PowOk G) :
    CallOk Tryd.prog TT 21 [.agg [.int .i64 kd, .int .i64 nm, .str (S s), .slc 3 (tags.map tagA), .slc 25 (VT.avs l)], .bool false] G (fun r G' => r = .str (S (itemsT l 0 0 tags)) ∧ G' = G) := by
  have hlen := vavs_len l
  have htl : (tags.map tagA).length = tags.length := by simp
  have hn := sizes_len l
  have hmx : IntKind.i64.max = 9223372036854775807 := rfl
  have zc61 : (⟨#[61]⟩ : ByteArray).size = 1 := rfl
  have hj := sjoin_any (pcs l 0 0 tags) [44] G (by rw [pcs_len]; omega) (by
    rw [pcs_join l 0 tags (by decide)]
    have := items_len (fun x hx => text_len x (hin x hx)) 0 tags ht 0
    omega)
  rw [pcs_join l 0 tags (by decide)] at hj
  refine call_sem tt_ok Tryd.func21 rfl (by kernel_rfl) Tryd.ntmps21 Tryd.results21 ?_; conv => whnf
  repeat' (first | ((first | refine Sem.reg tt_ok ?_ | refine Sem.condS ?_ | refine Sem.regL tt_ok ?_ | refine Sem.skip tt_ok ?_ | refine Sem.exit tt_ok ?_ | refine Sem.ret tt_ok ?_ | refine BS_t (by assumption) ?_ | refine BS_f (by assumption) ?_ | refine (nthK_iff _ _).2 ⟨_, (by assumption), ?_⟩ | refine ⟨_, ⟨(by omega), (by assumption)⟩, ?_⟩ | refine And.intro (by first | decide | omega) ?_ | fail); conv => whnf) | refine Sem.seqS ?_ | refine Sem.block ?_ | fail)
  refine Sem.loop (ι := VI l.length) (fun x => ⟨(.top :: .bool false :: .lptr 0 0 :: .top :: .str ⟨#[]⟩ :: .own 0 9 ((pcs (l.take x.k) 0 0 tags).map strC) :: .top :: .top :: .top :: .top :: .top :: .slc 25 (VT.avs l) :: .int .i64 ((VT.avs l).length : Nat) :: .int .i64 (x.k : Nat) :: .top :: .top :: .top :: .top :: .top :: .top :: .top :: .top :: .top :: .top :: .top :: .top :: .top :: .top :: .top :: .top :: .top :: .top :: .top :: .top :: .top :: .top :: .top :: .top :: .top :: .top :: .top :: .top :: .top :: []), [.live none [.int .i64 kd, .int .i64 nm, .str (S s), .slc 3 (tags.map tagA), .slc 25 (VT.avs l)]], 1, 1, G⟩) (fun x => l.length - x.k) ⟨0, Nat.zero_le _⟩ ?_ (fun x => ?_)
  · refine weak_by [none] ?_; (conv => whnf); repeat (first | (refine And.intro rfl ?_; conv => whnf) | fail)
    exact ⟨fun i y hy => hy, rfl, Nat.le_refl _, rfl, rfl⟩
  obtain ⟨k, hk⟩ := x
  simp only
  have h0 : (0 : Int) ≤ ((k : Nat) : Int) := by omega
  by_cases hlt : k < l.length
  · obtain ⟨⟨k1, n1, s1, t1, l1⟩, hx⟩ : ∃ x, l[k]? = some x := ⟨_, List.getElem?_eq_getElem hlt⟩
    have tl : decide (((k : Nat) : Int) < ((VT.avs l).length : Nat)) = true := by rw [hlen, decide_eq_true_eq]; omega
    have hm := vavs_at hx
    have hmem : VT.mk k1 n1 s1 t1 l1 ∈ l := List.mem_of_getElem? hx
    have hst := sizes_take l k _ hx
    have hsl := sizes_le l (k + 1)
    have hc := ih _ hmem G hG (hin _ hmem) (by omega)
    rw [VT.av] at hc
    have hft := pcs_take l 0 tags k _ hx
    have hpl : ((pcs (l.take k) 0 0 tags).map strC).length = k := by rw [List.length_map, pcs_len, List.length_take]; omega
    have z1 := S_size (textT (.mk k1 n1 s1 t1 l1))
    have b1 := text_len _ (hin _ hmem)
    have hi : IntKind.i64.wrap ((k : Int) + 1) = ((k + 1 : Nat) : Int) := by rw [IntWalk.i64_in _ (by omega)]; omega
    have htag : tagV k 0 tags = [] := by unfold tagV; rw [if_neg (by decide)]
    repeat' (first | ((first | refine Sem.reg tt_ok ?_ | refine Sem.condS ?_ | refine Sem.regL tt_ok ?_ | refine Sem.skip tt_ok ?_ | refine Sem.exit tt_ok ?_ | refine Sem.ret tt_ok ?_ | refine BS_t (by assumption) ?_ | refine BS_f (by assumption) ?_ | refine (nthK_iff _ _).2 ⟨_, (by assumption), ?_⟩ | refine ⟨_, ⟨(by omega), (by assumption)⟩, ?_⟩ | refine And.intro (by first | decide | omega) ?_ | fail); conv => whnf) | refine Sem.seqS ?_ | refine Sem.block ?_ | fail)
    refine hc.on ?_; conv => whnf
    repeat' (first | ((first | refine Sem.reg tt_ok ?_ | refine Sem.condS ?_ | refine Sem.regL tt_ok ?_ | refine Sem.skip tt_ok ?_ | refine Sem.exit tt_ok ?_ | refine Sem.ret tt_ok ?_ | refine BS_t (by assumption) ?_ | refine BS_f (by assumption) ?_ | refine (nthK_iff _ _).2 ⟨_, (by assumption), ?_⟩ | refine ⟨_, ⟨(by omega), (by assumption)⟩, ?_⟩ | refine And.intro (by first | decide | omega) ?_ | fail); conv => whnf) | refine Sem.seqS ?_ | refine Sem.block ?_ | fail)
    refine And.intro (app_le (by rw [hpl]; show k + 1 ≤ _; omega) (by decide)) ?_; conv => whnf
    repeat' (first | ((first | refine Sem.reg tt_ok ?_ | refine Sem.condS ?_ | refine Sem.regL tt_ok ?_ | refine Sem.skip tt_ok ?_ | refine Sem.exit tt_ok ?_ | refine Sem.ret tt_ok ?_ | refine BS_t (by assumption) ?_ | refine BS_f (by assumption) ?_ | refine (nthK_iff _ _).2 ⟨_, (by assumption), ?_⟩ | refine ⟨_, ⟨(by omega), (by assumption)⟩, ?_⟩ | refine And.intro (by first | decide | omega) ?_ | fail); conv => whnf) | refine Sem.seqS ?_ | refine Sem.block ?_ | fail)
    refine ⟨⟨k + 1, by omega⟩, by show l.length - (k + 1) < l.length - k; omega, ?_⟩
    refine weak_by [some 0] ?_; (conv => whnf); repeat (first | (refine And.intro rfl ?_; conv => whnf) | fail)
    refine And.intro (by rw [hft, htag]; simp [strC]) ?_
    (conv => whnf); repeat (first | (refine And.intro rfl ?_; conv => whnf) | fail)
    refine And.intro hi ?_
    (conv => whnf); repeat (first | (refine And.intro rfl ?_; conv => whnf) | fail)
    exact ⟨fun i y hy => hy, rfl, by omega, rfl, rfl⟩
  · have hk' : k = l.length := by omega
    subst hk'
    have tl : decide (((l.length : Nat) : Int) < ((VT.avs l).length : Nat)) = false := by rw [hlen, decide_eq_false_iff_not]; omega
    rw [List.take_length]
    repeat' (first | ((first | refine Sem.reg tt_ok ?_ | refine Sem.condS ?_ | refine Sem.regL tt_ok ?_ | refine Sem.skip tt_ok ?_ | refine Sem.exit tt_ok ?_ | refine Sem.ret tt_ok ?_ | refine BS_t (by assumption) ?_ | refine BS_f (by assumption) ?_ | refine (nthK_iff _ _).2 ⟨_, (by assumption), ?_⟩ | refine ⟨_, ⟨(by omega), (by assumption)⟩, ?_⟩ | refine And.intro (by first | decide | omega) ?_ | fail); conv => whnf) | refine Sem.seqS ?_ | refine Sem.block ?_ | fail)
    refine hj.on ?_; conv => whnf
    repeat' (first | ((first | refine Sem.reg tt_ok ?_ | refine Sem.condS ?_ | refine Sem.regL tt_ok ?_ | refine Sem.skip tt_ok ?_ | refine Sem.exit tt_ok ?_ | refine Sem.ret tt_ok ?_ | refine BS_t (by assumption) ?_ | refine BS_f (by assumption) ?_ | refine (nthK_iff _ _).2 ⟨_, (by assumption), ?_⟩ | refine ⟨_, ⟨(by omega), (by assumption)⟩, ?_⟩ | refine And.intro (by first | decide | omega) ?_ | fail); conv => whnf) | refine Sem.seqS ?_ | refine Sem.block ?_ | fail)
    exact ⟨_, fun _ _ h => h, rfl, rfl⟩
set_option maxHeartbeats 1000000 in
theorem vitems1_ok (kd nm : Int) (s : List UInt8) (tags : List Int) (l : List VT) (ih : ∀ x ∈ l, VTextOk x) (hin : ∀ x ∈ l, x.In) (ht : ∀ t ∈ tags, -9223372036854775808 ≤ t ∧ t ≤ 9223372036854775807) (hl : sizesV l ≤ 100000) {G : Glob} (hG : PowOk G) :
    CallOk Tryd.prog TT 21 [.agg [.int .i64 kd, .int .i64 nm, .str (S s), .slc 3 (tags.map tagA), .slc 25 (VT.avs l)], .bool true] G (fun r G' => r = .str (S (itemsT l 0 1 tags)) ∧ G' = G) := by
  have hlen := vavs_len l
  have htl : (tags.map tagA).length = tags.length := by simp
  have hn := sizes_len l
  have hmx : IntKind.i64.max = 9223372036854775807 := rfl
  have zc61 : (⟨#[61]⟩ : ByteArray).size = 1 := rfl
  have hj := sjoin_any (pcs l 0 1 tags) [44] G (by rw [pcs_len]; omega) (by
    rw [pcs_join l 1 tags (by decide)]
    have := items_len (fun x hx => text_len x (hin x hx)) 1 tags ht 0
    omega)
  rw [pcs_join l 1 tags (by decide)] at hj
  refine call_sem tt_ok Tryd.func21 rfl (by kernel_rfl) Tryd.ntmps21 Tryd.results21 ?_; conv => whnf
  repeat' (first | ((first | refine Sem.reg tt_ok ?_ | refine Sem.condS ?_ | refine Sem.regL tt_ok ?_ | refine Sem.skip tt_ok ?_ | refine Sem.exit tt_ok ?_ | refine Sem.ret tt_ok ?_ | refine BS_t (by assumption) ?_ | refine BS_f (by assumption) ?_ | refine (nthK_iff _ _).2 ⟨_, (by assumption), ?_⟩ | refine ⟨_, ⟨(by omega), (by assumption)⟩, ?_⟩ | refine And.intro (by first | decide | omega) ?_ | fail); conv => whnf) | refine Sem.seqS ?_ | refine Sem.block ?_ | fail)
  refine Sem.loop (ι := VI l.length) (fun x => ⟨(.top :: .bool true :: .lptr 0 0 :: .top :: .str ⟨#[]⟩ :: .own 0 9 ((pcs (l.take x.k) 0 1 tags).map strC) :: .top :: .top :: .top :: .top :: .top :: .slc 25 (VT.avs l) :: .int .i64 ((VT.avs l).length : Nat) :: .int .i64 (x.k : Nat) :: .top :: .top :: .top :: .top :: .top :: .top :: .top :: .top :: .top :: .top :: .top :: .top :: .top :: .top :: .top :: .top :: .top :: .top :: .top :: .top :: .top :: .top :: .top :: .top :: .top :: .top :: .top :: .top :: .top :: []), [.live none [.int .i64 kd, .int .i64 nm, .str (S s), .slc 3 (tags.map tagA), .slc 25 (VT.avs l)]], 1, 1, G⟩) (fun x => l.length - x.k) ⟨0, Nat.zero_le _⟩ ?_ (fun x => ?_)
  · refine weak_by [none] ?_; (conv => whnf); repeat (first | (refine And.intro rfl ?_; conv => whnf) | fail)
    exact ⟨fun i y hy => hy, rfl, Nat.le_refl _, rfl, rfl⟩
  obtain ⟨k, hk⟩ := x
  simp only
  have h0 : (0 : Int) ≤ ((k : Nat) : Int) := by omega
  by_cases hlt : k < l.length
  · obtain ⟨⟨k1, n1, s1, t1, l1⟩, hx⟩ : ∃ x, l[k]? = some x := ⟨_, List.getElem?_eq_getElem hlt⟩
    have tl : decide (((k : Nat) : Int) < ((VT.avs l).length : Nat)) = true := by rw [hlen, decide_eq_true_eq]; omega
    have hm := vavs_at hx
    have hmem : VT.mk k1 n1 s1 t1 l1 ∈ l := List.mem_of_getElem? hx
    have hst := sizes_take l k _ hx
    have hsl := sizes_le l (k + 1)
    have hc := ih _ hmem G hG (hin _ hmem) (by omega)
    rw [VT.av] at hc
    have hft := pcs_take l 1 tags k _ hx
    have hpl : ((pcs (l.take k) 0 1 tags).map strC).length = k := by rw [List.length_map, pcs_len, List.length_take]; omega
    have z1 := S_size (textT (.mk k1 n1 s1 t1 l1))
    have b1 := text_len _ (hin _ hmem)
    have hi : IntKind.i64.wrap ((k : Int) + 1) = ((k + 1 : Nat) : Int) := by rw [IntWalk.i64_in _ (by omega)]; omega
    by_cases hkt : k < tags.length
    · have ct : decide (((k : Nat) : Int) < ((tags.map tagA).length : Nat)) = true := by rw [htl, decide_eq_true_eq]; omega
      have hmt := tag_at hkt
      have htb : -9223372036854775808 ≤ tags.getD k 0 ∧ tags.getD k 0 ≤ 9223372036854775807 := by rw [List.getD_eq_getElem?_getD, List.getElem?_eq_getElem hkt]; exact ht _ (List.getElem_mem hkt)
      have htag : tagV k 1 tags = Lib.itoa (tags.getD k 0) ++ [61] := by unfold tagV; rw [if_pos rfl]
      generalize tags.getD k 0 = tg at *
      have zg := vitoa_len (n := tg) (by exact htb)
      have zi := S_size (Lib.itoa (tg))
      have zj : (S (Lib.itoa (tg)) ++ (⟨#[61]⟩ : ByteArray)).size = (Lib.itoa (tg)).length + 1 := by rw [ByteArray.size_append, zi]; rfl
      have hsg := itoa_ok (tg) htb.1 htb.2 hG
      have ee : S (Lib.itoa (tg)) ++ (⟨#[61]⟩ : ByteArray) ++ S (textT (.mk k1 n1 s1 t1 l1)) = S (tagV k 1 tags ++ textT (.mk k1 n1 s1 t1 l1)) := by
        rw [htag]; apply ByteArray.ext; simp [S, ByteArray.data_append]
      repeat' (first | ((first | refine Sem.reg tt_ok ?_ | refine Sem.condS ?_ | refine Sem.regL tt_ok ?_ | refine Sem.skip tt_ok ?_ | refine Sem.exit tt_ok ?_ | refine Sem.ret tt_ok ?_ | refine BS_t (by assumption) ?_ | refine BS_f (by assumption) ?_ | refine (nthK_iff _ _).2 ⟨_, (by assumption), ?_⟩ | refine ⟨_, ⟨(by omega), (by assumption)⟩, ?_⟩ | refine And.intro (by first | decide | omega) ?_ | fail); conv => whnf) | refine Sem.seqS ?_ | refine Sem.block ?_ | fail)
      refine hc.on ?_; conv => whnf
      repeat' (first | ((first | refine Sem.reg tt_ok ?_ | refine Sem.condS ?_ | refine Sem.regL tt_ok ?_ | refine Sem.skip tt_ok ?_ | refine Sem.exit tt_ok ?_ | refine Sem.ret tt_ok ?_ | refine BS_t (by assumption) ?_ | refine BS_f (by assumption) ?_ | refine (nthK_iff _ _).2 ⟨_, (by assumption), ?_⟩ | refine ⟨_, ⟨(by omega), (by assumption)⟩, ?_⟩ | refine And.intro (by first | decide | omega) ?_ | fail); conv => whnf) | refine Sem.seqS ?_ | refine Sem.block ?_ | fail)
      refine hsg.on ?_; conv => whnf
      repeat' (first | ((first | refine Sem.reg tt_ok ?_ | refine Sem.condS ?_ | refine Sem.regL tt_ok ?_ | refine Sem.skip tt_ok ?_ | refine Sem.exit tt_ok ?_ | refine Sem.ret tt_ok ?_ | refine BS_t (by assumption) ?_ | refine BS_f (by assumption) ?_ | refine (nthK_iff _ _).2 ⟨_, (by assumption), ?_⟩ | refine ⟨_, ⟨(by omega), (by assumption)⟩, ?_⟩ | refine And.intro (by first | decide | omega) ?_ | fail); conv => whnf) | refine Sem.seqS ?_ | refine Sem.block ?_ | fail)
      refine And.intro (app_le (by rw [hpl]; show k + 1 ≤ _; omega) (by decide)) ?_; conv => whnf
      repeat' (first | ((first | refine Sem.reg tt_ok ?_ | refine Sem.condS ?_ | refine Sem.regL tt_ok ?_ | refine Sem.skip tt_ok ?_ | refine Sem.exit tt_ok ?_ | refine Sem.ret tt_ok ?_ | refine BS_t (by assumption) ?_ | refine BS_f (by assumption) ?_ | refine (nthK_iff _ _).2 ⟨_, (by assumption), ?_⟩ | refine ⟨_, ⟨(by omega), (by assumption)⟩, ?_⟩ | refine And.intro (by first | decide | omega) ?_ | fail); conv => whnf) | refine Sem.seqS ?_ | refine Sem.block ?_ | fail)
      refine ⟨⟨k + 1, by omega⟩, by show l.length - (k + 1) < l.length - k; omega, ?_⟩
      refine weak_by [some 0] ?_; (conv => whnf); repeat (first | (refine And.intro rfl ?_; conv => whnf) | fail)
      refine And.intro (by rw [hft, ee]; simp [strC]) ?_
      (conv => whnf); repeat (first | (refine And.intro rfl ?_; conv => whnf) | fail)
      refine And.intro hi ?_
      (conv => whnf); repeat (first | (refine And.intro rfl ?_; conv => whnf) | fail)
      exact ⟨fun i y hy => hy, rfl, by omega, rfl, rfl⟩
    have ct : decide (((k : Nat) : Int) < ((tags.map tagA).length : Nat)) = false := by rw [htl, decide_eq_false_iff_not]; omega
    have htb : -9223372036854775808 ≤ (0 : Int) ∧ (0 : Int) ≤ 9223372036854775807 := by decide
    have htag : tagV k 1 tags = Lib.itoa 0 ++ [61] := by unfold tagV; rw [if_pos rfl, List.getD_eq_getElem?_getD, List.getElem?_eq_none (by omega)]; rfl
    have zg := vitoa_len (n := 0) (by exact htb)
    have zi := S_size (Lib.itoa (0))
    have zj : (S (Lib.itoa (0)) ++ (⟨#[61]⟩ : ByteArray)).size = (Lib.itoa (0)).length + 1 := by rw [ByteArray.size_append, zi]; rfl
    have hsg := itoa_ok (0) htb.1 htb.2 hG
    have ee : S (Lib.itoa (0)) ++ (⟨#[61]⟩ : ByteArray) ++ S (textT (.mk k1 n1 s1 t1 l1)) = S (tagV k 1 tags ++ textT (.mk k1 n1 s1 t1 l1)) := by
      rw [htag]; apply ByteArray.ext; simp [S, ByteArray.data_append]
    generalize Lib.itoa 0 = it at *
    repeat' (first | ((first | refine Sem.reg tt_ok ?_ | refine Sem.condS ?_ | refine Sem.regL tt_ok ?_ | refine Sem.skip tt_ok ?_ | refine Sem.exit tt_ok ?_ | refine Sem.ret tt_ok ?_ | refine BS_t (by assumption) ?_ | refine BS_f (by assumption) ?_ | refine (nthK_iff _ _).2 ⟨_, (by assumption), ?_⟩ | refine ⟨_, ⟨(by omega), (by assumption)⟩, ?_⟩ | refine And.intro (by first | decide | omega) ?_ | fail); conv => whnf) | refine Sem.seqS ?_ | refine Sem.block ?_ | fail)
    refine hc.on ?_; conv => whnf
    repeat' (first | ((first | refine Sem.reg tt_ok ?_ | refine Sem.condS ?_ | refine Sem.regL tt_ok ?_ | refine Sem.skip tt_ok ?_ | refine Sem.exit tt_ok ?_ | refine Sem.ret tt_ok ?_ | refine BS_t (by assumption) ?_ | refine BS_f (by assumption) ?_ | refine (nthK_iff _ _).2 ⟨_, (by assumption), ?_⟩ | refine ⟨_, ⟨(by omega), (by assumption)⟩, ?_⟩ | refine And.intro (by first | decide | omega) ?_ | fail); conv => whnf) | refine Sem.seqS ?_ | refine Sem.block ?_ | fail)
    refine hsg.on ?_; conv => whnf
    repeat' (first | ((first | refine Sem.reg tt_ok ?_ | refine Sem.condS ?_ | refine Sem.regL tt_ok ?_ | refine Sem.skip tt_ok ?_ | refine Sem.exit tt_ok ?_ | refine Sem.ret tt_ok ?_ | refine BS_t (by assumption) ?_ | refine BS_f (by assumption) ?_ | refine (nthK_iff _ _).2 ⟨_, (by assumption), ?_⟩ | refine ⟨_, ⟨(by omega), (by assumption)⟩, ?_⟩ | refine And.intro (by first | decide | omega) ?_ | fail); conv => whnf) | refine Sem.seqS ?_ | refine Sem.block ?_ | fail)
    refine And.intro (app_le (by rw [hpl]; show k + 1 ≤ _; omega) (by decide)) ?_; conv => whnf
    repeat' (first | ((first | refine Sem.reg tt_ok ?_ | refine Sem.condS ?_ | refine Sem.regL tt_ok ?_ | refine Sem.skip tt_ok ?_ | refine Sem.exit tt_ok ?_ | refine Sem.ret tt_ok ?_ | refine BS_t (by assumption) ?_ | refine BS_f (by assumption) ?_ | refine (nthK_iff _ _).2 ⟨_, (by assumption), ?_⟩ | refine ⟨_, ⟨(by omega), (by assumption)⟩, ?_⟩ | refine And.intro (by first | decide | omega) ?_ | fail); conv => whnf) | refine Sem.seqS ?_ | refine Sem.block ?_ | fail)
    refine ⟨⟨k + 1, by omega⟩, by show l.length - (k + 1) < l.length - k; omega, ?_⟩
    refine weak_by [some 0] ?_; (conv => whnf); repeat (first | (refine And.intro rfl ?_; conv => whnf) | fail)
    refine And.intro (by rw [hft, ee]; simp [strC]) ?_
    (conv => whnf); repeat (first | (refine And.intro rfl ?_; conv => whnf) | fail)
    refine And.intro hi ?_
    (conv => whnf); repeat (first | (refine And.intro rfl ?_; conv => whnf) | fail)
    exact ⟨fun i y hy => hy, rfl, by omega, rfl, rfl⟩
  · have hk' : k = l.length := by omega
    subst hk'
    have tl : decide (((l.length : Nat) : Int) < ((VT.avs l).length : Nat)) = false := by rw [hlen, decide_eq_false_iff_not]; omega
    rw [List.take_length]
    repeat' (first | ((first | refine Sem.reg tt_ok ?_ | refine Sem.condS ?_ | refine Sem.regL tt_ok ?_ | refine Sem.skip tt_ok ?_ | refine Sem.exit tt_ok ?_ | refine Sem.ret tt_ok ?_ | refine BS_t (by assumption) ?_ | refine BS_f (by assumption) ?_ | refine (nthK_iff _ _).2 ⟨_, (by assumption), ?_⟩ | refine ⟨_, ⟨(by omega), (by assumption)⟩, ?_⟩ | refine And.intro (by first | decide | omega) ?_ | fail); conv => whnf) | refine Sem.seqS ?_ | refine Sem.block ?_ | fail)
    refine hj.on ?_; conv => whnf
    repeat' (first | ((first | refine Sem.reg tt_ok ?_ | refine Sem.condS ?_ | refine Sem.regL tt_ok ?_ | refine Sem.skip tt_ok ?_ | refine Sem.exit tt_ok ?_ | refine Sem.ret tt_ok ?_ | refine BS_t (by assumption) ?_ | refine BS_f (by assumption) ?_ | refine (nthK_iff _ _).2 ⟨_, (by assumption), ?_⟩ | refine ⟨_, ⟨(by omega), (by assumption)⟩, ?_⟩ | refine And.intro (by first | decide | omega) ?_ | fail); conv => whnf) | refine Sem.seqS ?_ | refine Sem.block ?_ | fail)
    exact ⟨_, fun _ _ h => h, rfl, rfl⟩
structure PI (n : Nat) where
  k : Nat
  hk : 2 * k ≤ n + 1
set_option maxHeartbeats 1000000 in
theorem vrows_ok (kd nm : Int) (s : List UInt8) (tags : List Int) (l : List VT) (ih : ∀ x ∈ l, VTextOk x) (hin : ∀ x ∈ l, x.In) (ht : ∀ t ∈ tags, -9223372036854775808 ≤ t ∧ t ≤ 9223372036854775807) (hl : sizesV l ≤ 100000) {G : Glob} (hG : PowOk G) :
    CallOk Tryd.prog TT 22 [.agg [.int .i64 kd, .int .i64 nm, .str (S s), .slc 3 (tags.map tagA), .slc 25 (VT.avs l)]] G (fun r G' => r = .str (S (itemsT l 0 2 tags)) ∧ G' = G) := by
  have hlen := vavs_len l
  have hn := sizes_len l
  have hmx : IntKind.i64.max = 9223372036854775807 := rfl
  have zc58 : (⟨#[58]⟩ : ByteArray).size = 1 := rfl
  have hpl0 := pair_len l
  have hj := sjoin_any (pairT l) [44] G (by omega) (by
    rw [pair_join l tags]
    have := items_len (fun x hx => text_len x (hin x hx)) 2 tags ht 0
    omega)
  rw [pair_join l tags] at hj
  refine call_sem tt_ok Tryd.func22 rfl (by kernel_rfl) Tryd.ntmps22 Tryd.results22 ?_; conv => whnf
  repeat' (first | ((first | refine Sem.reg tt_ok ?_ | refine Sem.condS ?_ | refine Sem.regL tt_ok ?_ | refine Sem.skip tt_ok ?_ | refine Sem.exit tt_ok ?_ | refine Sem.ret tt_ok ?_ | refine BS_t (by assumption) ?_ | refine BS_f (by assumption) ?_ | refine (nthK_iff _ _).2 ⟨_, (by assumption), ?_⟩ | refine ⟨_, ⟨(by omega), (by assumption)⟩, ?_⟩ | refine And.intro (by first | decide | omega) ?_ | fail); conv => whnf) | refine Sem.seqS ?_ | refine Sem.block ?_ | fail)
  refine Sem.loop (ι := PI l.length) (fun x => ⟨(.top :: .lptr 0 0 :: .str ⟨#[]⟩ :: .own 0 9 ((pairT (l.take (2 * x.k))).map strC) :: .int .i64 ((2 * x.k : Nat) : Int) :: .top :: .top :: .top :: .top :: .top :: .top :: .top :: .top :: .top :: .top :: .top :: .top :: .top :: .top :: .top :: .top :: .top :: .top :: .top :: .top :: .top :: .top :: .top :: .top :: .top :: .top :: .top :: .top :: .top :: .top :: .top :: .top :: .top :: .top :: .top :: .top :: []), [.live none [.int .i64 kd, .int .i64 nm, .str (S s), .slc 3 (tags.map tagA), .slc 25 (VT.avs l)]], 1, 1, G⟩) (fun x => l.length + 2 - 2 * x.k) ⟨0, by omega⟩ ?_ (fun x => ?_)
  · refine weak_by [none] ?_; (conv => whnf); repeat (first | (refine And.intro rfl ?_; conv => whnf) | fail)
    exact ⟨fun i y hy => hy, rfl, Nat.le_refl _, rfl, rfl⟩
  obtain ⟨k, hk⟩ := x
  simp only
  have h0 : (0 : Int) ≤ ((2 * k : Nat) : Int) := by omega
  by_cases hlt : 2 * k < l.length
  · obtain ⟨⟨k1, n1, s1, t1, l1⟩, hx⟩ : ∃ x, l[2 * k]? = some x := ⟨_, List.getElem?_eq_getElem hlt⟩
    have tl : decide (((2 * k : Nat) : Int) < ((VT.avs l).length : Nat)) = true := by rw [hlen, decide_eq_true_eq]; omega
    have hm := vavs_at hx
    have hmem : VT.mk k1 n1 s1 t1 l1 ∈ l := List.mem_of_getElem? hx
    have hst := sizes_take l (2 * k) _ hx
    have hsl := sizes_le l (2 * k + 1)
    have hc := ih _ hmem G hG (hin _ hmem) (by omega)
    rw [VT.av] at hc
    have hpl : ((pairT (l.take (2 * k))).map strC).length ≤ 2 * k := by rw [List.length_map]; have := pair_len (l.take (2 * k)); rw [List.length_take] at this; omega
    have z1 := S_size (textT (.mk k1 n1 s1 t1 l1))
    have b1 := text_len _ (hin _ hmem)
    have hi : IntKind.i64.wrap (((2 * k : Nat) : Int) + 2) = ((2 * (k + 1) : Nat) : Int) := by rw [IntWalk.i64_in _ (by omega)]; omega
    have hi1 : IntKind.i64.wrap (((2 * k : Nat) : Int) + 1) = ((2 * k + 1 : Nat) : Int) := by rw [IntWalk.i64_in _ (by omega)]; omega
    by_cases hlt2 : 2 * k + 1 < l.length
    · obtain ⟨⟨k2, n2, s2, t2, l2⟩, hx2⟩ : ∃ x, l[2 * k + 1]? = some x := ⟨_, List.getElem?_eq_getElem hlt2⟩
      have hft := pair_take2 l k _ _ hx hx2
      have tl2 : decide (IntKind.i64.wrap (((2 * k : Nat) : Int) + 1) < ((VT.avs l).length : Nat)) = true := by rw [hi1, hlen, decide_eq_true_eq]; omega
      have hm2 := vavs_at hx2
      have hmem2 : VT.mk k2 n2 s2 t2 l2 ∈ l := List.mem_of_getElem? hx2
      have hst2 := sizes_take l (2 * k + 1) _ hx2
      have hsl2 := sizes_le l (2 * k + 1 + 1)
      have hc2 := ih _ hmem2 G hG (hin _ hmem2) (by omega)
      rw [VT.av] at hc2
      have z2 := S_size (textT (.mk k2 n2 s2 t2 l2))
      have b2 := text_len _ (hin _ hmem2)
      have z3 : ((⟨#[58]⟩ : ByteArray) ++ S (textT (.mk k2 n2 s2 t2 l2))).size = 1 + (textT (.mk k2 n2 s2 t2 l2)).length := by rw [ByteArray.size_append, z2]; rfl
      have h01 : (0 : Int) ≤ ((2 * k + 1 : Nat) : Int) := by omega
      have ee : S (textT (.mk k1 n1 s1 t1 l1)) ++ ((⟨#[58]⟩ : ByteArray) ++ S (textT (.mk k2 n2 s2 t2 l2))) = S (textT (.mk k1 n1 s1 t1 l1) ++ ([58] ++ textT (.mk k2 n2 s2 t2 l2))) := by
        apply ByteArray.ext; simp [S, ByteArray.data_append]
      repeat' (first | ((first | refine Sem.reg tt_ok ?_ | refine Sem.condS ?_ | refine Sem.regL tt_ok ?_ | refine Sem.skip tt_ok ?_ | refine Sem.exit tt_ok ?_ | refine Sem.ret tt_ok ?_ | refine BS_t (by assumption) ?_ | refine BS_f (by assumption) ?_ | refine (nthK_iff _ _).2 ⟨_, (by assumption), ?_⟩ | refine ⟨_, ⟨(by omega), (by assumption)⟩, ?_⟩ | refine And.intro (by first | decide | omega) ?_ | fail); conv => whnf) | refine Sem.seqS ?_ | refine Sem.block ?_ | fail)
      refine hc.on ?_; conv => whnf
      repeat' (first | ((first | refine Sem.reg tt_ok ?_ | refine Sem.condS ?_ | refine Sem.regL tt_ok ?_ | refine Sem.skip tt_ok ?_ | refine Sem.exit tt_ok ?_ | refine Sem.ret tt_ok ?_ | refine BS_t (by assumption) ?_ | refine BS_f (by assumption) ?_ | refine (nthK_iff _ _).2 ⟨_, (by assumption), ?_⟩ | refine ⟨_, ⟨(by omega), (by assumption)⟩, ?_⟩ | refine And.intro (by first | decide | omega) ?_ | fail); conv => whnf) | refine Sem.seqS ?_ | refine Sem.block ?_ | fail)
      rw [hi1]
      repeat' (first | ((first | refine Sem.reg tt_ok ?_ | refine Sem.condS ?_ | refine Sem.regL tt_ok ?_ | refine Sem.skip tt_ok ?_ | refine Sem.exit tt_ok ?_ | refine Sem.ret tt_ok ?_ | refine BS_t (by assumption) ?_ | refine BS_f (by assumption) ?_ | refine (nthK_iff _ _).2 ⟨_, (by assumption), ?_⟩ | refine ⟨_, ⟨(by omega), (by assumption)⟩, ?_⟩ | refine And.intro (by first | decide | omega) ?_ | fail); conv => whnf) | refine Sem.seqS ?_ | refine Sem.block ?_ | fail)
      refine hc2.on ?_; conv => whnf
      repeat' (first | ((first | refine Sem.reg tt_ok ?_ | refine Sem.condS ?_ | refine Sem.regL tt_ok ?_ | refine Sem.skip tt_ok ?_ | refine Sem.exit tt_ok ?_ | refine Sem.ret tt_ok ?_ | refine BS_t (by assumption) ?_ | refine BS_f (by assumption) ?_ | refine (nthK_iff _ _).2 ⟨_, (by assumption), ?_⟩ | refine ⟨_, ⟨(by omega), (by assumption)⟩, ?_⟩ | refine And.intro (by first | decide | omega) ?_ | fail); conv => whnf) | refine Sem.seqS ?_ | refine Sem.block ?_ | fail)
      refine And.intro (app_le (by show _ + 1 ≤ _; omega) (by decide)) ?_; conv => whnf
      repeat' (first | ((first | refine Sem.reg tt_ok ?_ | refine Sem.condS ?_ | refine Sem.regL tt_ok ?_ | refine Sem.skip tt_ok ?_ | refine Sem.exit tt_ok ?_ | refine Sem.ret tt_ok ?_ | refine BS_t (by assumption) ?_ | refine BS_f (by assumption) ?_ | refine (nthK_iff _ _).2 ⟨_, (by assumption), ?_⟩ | refine ⟨_, ⟨(by omega), (by assumption)⟩, ?_⟩ | refine And.intro (by first | decide | omega) ?_ | fail); conv => whnf) | refine Sem.seqS ?_ | refine Sem.block ?_ | fail)
      refine ⟨⟨k + 1, by omega⟩, by show l.length + 2 - 2 * (k + 1) < l.length + 2 - 2 * k; omega, ?_⟩
      refine weak_by [some 0] ?_; (conv => whnf); repeat (first | (refine And.intro rfl ?_; conv => whnf) | fail)
      refine And.intro (by rw [hft, ee]; simp [strC]) ?_
      (conv => whnf); repeat (first | (refine And.intro rfl ?_; conv => whnf) | fail)
      refine And.intro hi ?_
      (conv => whnf); repeat (first | (refine And.intro rfl ?_; conv => whnf) | fail)
      exact ⟨fun i y hy => hy, rfl, by omega, rfl, rfl⟩
    · have hft := pair_take1 l k _ hx (by omega)
      have tl2 : decide (IntKind.i64.wrap (((2 * k : Nat) : Int) + 1) < ((VT.avs l).length : Nat)) = false := by rw [hi1, hlen, decide_eq_false_iff_not]; omega
      repeat' (first | ((first | refine Sem.reg tt_ok ?_ | refine Sem.condS ?_ | refine Sem.regL tt_ok ?_ | refine Sem.skip tt_ok ?_ | refine Sem.exit tt_ok ?_ | refine Sem.ret tt_ok ?_ | refine BS_t (by assumption) ?_ | refine BS_f (by assumption) ?_ | refine (nthK_iff _ _).2 ⟨_, (by assumption), ?_⟩ | refine ⟨_, ⟨(by omega), (by assumption)⟩, ?_⟩ | refine And.intro (by first | decide | omega) ?_ | fail); conv => whnf) | refine Sem.seqS ?_ | refine Sem.block ?_ | fail)
      refine hc.on ?_; conv => whnf
      repeat' (first | ((first | refine Sem.reg tt_ok ?_ | refine Sem.condS ?_ | refine Sem.regL tt_ok ?_ | refine Sem.skip tt_ok ?_ | refine Sem.exit tt_ok ?_ | refine Sem.ret tt_ok ?_ | refine BS_t (by assumption) ?_ | refine BS_f (by assumption) ?_ | refine (nthK_iff _ _).2 ⟨_, (by assumption), ?_⟩ | refine ⟨_, ⟨(by omega), (by assumption)⟩, ?_⟩ | refine And.intro (by first | decide | omega) ?_ | fail); conv => whnf) | refine Sem.seqS ?_ | refine Sem.block ?_ | fail)
      refine And.intro (app_le (by show _ + 1 ≤ _; omega) (by decide)) ?_; conv => whnf
      repeat' (first | ((first | refine Sem.reg tt_ok ?_ | refine Sem.condS ?_ | refine Sem.regL tt_ok ?_ | refine Sem.skip tt_ok ?_ | refine Sem.exit tt_ok ?_ | refine Sem.ret tt_ok ?_ | refine BS_t (by assumption) ?_ | refine BS_f (by assumption) ?_ | refine (nthK_iff _ _).2 ⟨_, (by assumption), ?_⟩ | refine ⟨_, ⟨(by omega), (by assumption)⟩, ?_⟩ | refine And.intro (by first | decide | omega) ?_ | fail); conv => whnf) | refine Sem.seqS ?_ | refine Sem.block ?_ | fail)
      refine ⟨⟨k + 1, by omega⟩, by show l.length + 2 - 2 * (k + 1) < l.length + 2 - 2 * k; omega, ?_⟩
      refine weak_by [some 0] ?_; (conv => whnf); repeat (first | (refine And.intro rfl ?_; conv => whnf) | fail)
      refine And.intro (by rw [hft]; simp [strC]) ?_
      (conv => whnf); repeat (first | (refine And.intro rfl ?_; conv => whnf) | fail)
      refine And.intro hi ?_
      (conv => whnf); repeat (first | (refine And.intro rfl ?_; conv => whnf) | fail)
      exact ⟨fun i y hy => hy, rfl, by omega, rfl, rfl⟩
  · have tl : decide (((2 * k : Nat) : Int) < ((VT.avs l).length : Nat)) = false := by rw [hlen, decide_eq_false_iff_not]; omega
    rw [List.take_of_length_le (by omega)]
    repeat' (first | ((first | refine Sem.reg tt_ok ?_ | refine Sem.condS ?_ | refine Sem.regL tt_ok ?_ | refine Sem.skip tt_ok ?_ | refine Sem.exit tt_ok ?_ | refine Sem.ret tt_ok ?_ | refine BS_t (by assumption) ?_ | refine BS_f (by assumption) ?_ | refine (nthK_iff _ _).2 ⟨_, (by assumption), ?_⟩ | refine ⟨_, ⟨(by omega), (by assumption)⟩, ?_⟩ | refine And.intro (by first | decide | omega) ?_ | fail); conv => whnf) | refine Sem.seqS ?_ | refine Sem.block ?_ | fail)
    refine hj.on ?_; conv => whnf
    repeat' (first | ((first | refine Sem.reg tt_ok ?_ | refine Sem.condS ?_ | refine Sem.regL tt_ok ?_ | refine Sem.skip tt_ok ?_ | refine Sem.exit tt_ok ?_ | refine Sem.ret tt_ok ?_ | refine BS_t (by assumption) ?_ | refine BS_f (by assumption) ?_ | refine (nthK_iff _ _).2 ⟨_, (by assumption), ?_⟩ | refine ⟨_, ⟨(by omega), (by assumption)⟩, ?_⟩ | refine And.intro (by first | decide | omega) ?_ | fail); conv => whnf) | refine Sem.seqS ?_ | refine Sem.block ?_ | fail)
    exact ⟨_, fun _ _ h => h, rfl, rfl⟩
end Go.Proofs.YtgedlbfdhekdgaaDoor
