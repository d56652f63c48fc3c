/- The document's items of a value, in the abstract run (printed by genvalh.py). -/
import Derived.Test.YtgedlbfdhekdgaaDoorValG
set_option maxRecDepth 100000
set_option linter.unusedSimpArgs false
namespace Go.Proofs.YtgedlbfdhekdgaaDoor
open Go Go.RowKit Go.Proofs

def RTextOk (v : VT) : Prop := ∀ G : Glob, v.In → sizeV v ≤ 1000000 → CallOk Tryd.prog TT 8 [.agg v.av] G (fun r G' => r = .str (S (textT v)) ∧ G' = G)
theorem items_take (l : List VT) (how : Nat) (tags : List Int) (k : Nat) (x : VT) (h : l[k]? = some x) : itemsT (l.take (k + 1)) 0 how tags = itemsT (l.take k) 0 how tags ++ (sepV k how ++ tagV k how tags ++ textT x) := by
  rw [List.take_add_one, h, Option.toList_some, itemsT_app]
  have : (l.take k).length = k := by rw [List.length_take]; have := (List.getElem?_eq_some_iff.1 h).1; omega
  rw [this, Nat.zero_add]
theorem tag_at {tags : List Int} {k : Nat} (h : k < tags.length) : (tags.map tagA)[((k : Nat) : Int).toNat]? = some [.int .i64 (tags.getD k 0)] := by
  rw [Int.toNat_natCast, List.getElem?_map, List.getD_eq_getElem?_getD, List.getElem?_eq_getElem h]; rfl
set_option maxHeartbeats 1000000 in
theorem ritems0_ok (kd nm : Int) (s : List UInt8) (tags : List Int) (l : List VT) (ih : ∀ x ∈ l, RTextOk x) (hin : ∀ x ∈ l, x.In) (ht : ∀ t ∈ tags, -9223372036854775808 ≤ t ∧ t ≤ 9223372036854775807) (hl : sizesV l ≤ 1000000) (G : Glob) :
    CallOk Tryd.prog TT 26 [.agg [.int .i64 kd, .int .i64 nm, .str (S s), .slc 3 (tags.map tagA), .slc 25 (VT.avs l)], .int .i64 0] G (fun r G' => r = .str (S (itemsT l 0 0 tags)) ∧ G' = G) := by
  have hlen := vavs_len l
  have htl : (tags.map tagA).length = tags.length := by simp
  have hn := sizes_len l
  have hmx : IntKind.i64.max = 9223372036854775807 := rfl
  have zc44 : (⟨#[44]⟩ : ByteArray).size = 1 := rfl
  have zc58 : (⟨#[58]⟩ : ByteArray).size = 1 := rfl
  have zc61 : (⟨#[61]⟩ : ByteArray).size = 1 := rfl
  refine call_sem tt_ok Tryd.func26 rfl (by kernel_rfl) Tryd.ntmps26 Tryd.results26 ?_; conv => whnf
  repeat' (first | ((first | refine Sem.reg tt_ok ?_ | refine Sem.condS ?_ | refine Sem.regL tt_ok ?_ | refine Sem.skip tt_ok ?_ | refine Sem.exit tt_ok ?_ | refine Sem.ret tt_ok ?_ | refine BS_t (by assumption) ?_ | refine BS_f (by assumption) ?_ | refine (nthK_iff _ _).2 ⟨_, (by assumption), ?_⟩ | refine ⟨_, ⟨(by omega), (by assumption)⟩, ?_⟩ | refine And.intro (by first | decide | omega) ?_ | fail); conv => whnf) | refine Sem.seqS ?_ | refine Sem.block ?_ | fail)
  refine Sem.loop (ι := VI l.length) (fun x => ⟨(.top :: .int .i64 0 :: .lptr 0 0 :: .top :: .top :: .str (S (itemsT (l.take x.k) 0 0 tags)) :: .int .i64 (x.k : Nat) :: .top :: .top :: .top :: .top :: .top :: .top :: .top :: .top :: .top :: .top :: .top :: .top :: .top :: .top :: .top :: .top :: .top :: .top :: .top :: .top :: .top :: .top :: .top :: .top :: .top :: .top :: .top :: .top :: .top :: .top :: .top :: .top :: .top :: .top :: .top :: .top :: .top :: .top :: .top :: .top :: .top :: .top :: .top :: .top :: .top :: .top :: .top :: .top :: .top :: .top :: .top :: .top :: .top :: .top :: .top :: .top :: .top :: .top :: .top :: .top :: []), [.live none [.int .i64 kd, .int .i64 nm, .str (S s), .slc 3 (tags.map tagA), .slc 25 (VT.avs l)]], 1, 0, G⟩) (fun x => l.length - x.k) ⟨0, Nat.zero_le _⟩ ?_ (fun x => ?_)
  · refine weak_by [] ?_; (conv => whnf); repeat (first | (refine And.intro rfl ?_; conv => whnf) | fail)
    exact ⟨fun i y hy => hy, rfl, by decide, rfl, rfl⟩
  obtain ⟨k, hk⟩ := x
  simp only
  have h0 : (0 : Int) ≤ ((k : Nat) : Int) := by omega
  by_cases hlt : k < l.length
  · obtain ⟨⟨k1, n1, s1, t1, l1⟩, hx⟩ : ∃ x, l[k]? = some x := ⟨_, List.getElem?_eq_getElem hlt⟩
    have tl : decide (((k : Nat) : Int) < ((VT.avs l).length : Nat)) = true := by rw [hlen, decide_eq_true_eq]; omega
    have hm := vavs_at hx
    have hmem : VT.mk k1 n1 s1 t1 l1 ∈ l := List.mem_of_getElem? hx
    have hst := sizes_take l k _ hx
    have hsl := sizes_le l (k + 1)
    have hc := ih _ hmem G (hin _ hmem) (by omega)
    rw [VT.av] at hc
    have hft := items_take l 0 tags k _ hx
    have z0 := S_size (itemsT (l.take k) 0 0 tags)
    have z1 := S_size (textT (.mk k1 n1 s1 t1 l1))
    have b0 := items_len (l := l.take k) (fun x hx => text_len x (hin x (List.mem_of_mem_take hx))) 0 tags ht 0
    have b1 := text_len _ (hin _ hmem)
    have hi : IntKind.i64.wrap ((k : Int) + 1) = ((k + 1 : Nat) : Int) := by rw [IntWalk.i64_in _ (by omega)]; omega
    have htag : tagV k 0 tags = [] := by unfold tagV; rw [if_neg (by decide)]
    by_cases hk0 : k = 0
    · have c1 : decide (((k : Nat) : Int) > 0) = false := by rw [decide_eq_false_iff_not]; omega
      have hsep : sepV k 0 = [] := by unfold sepV; rw [if_pos hk0]
      have zs : (S (itemsT (l.take k) 0 0 tags)).size = (itemsT (l.take k) 0 0 tags).length := z0
      have ee : S (itemsT (l.take k) 0 0 tags) ++ S (textT (.mk k1 n1 s1 t1 l1)) = S (itemsT (l.take (k + 1)) 0 0 tags) := by
        rw [hft, hsep, htag]
        apply ByteArray.ext; simp [S, ByteArray.data_append]
      repeat' (first | ((first | refine Sem.reg tt_ok ?_ | refine Sem.condS ?_ | refine Sem.regL tt_ok ?_ | refine Sem.skip tt_ok ?_ | refine Sem.exit tt_ok ?_ | refine Sem.ret tt_ok ?_ | refine BS_t (by assumption) ?_ | refine BS_f (by assumption) ?_ | refine (nthK_iff _ _).2 ⟨_, (by assumption), ?_⟩ | refine ⟨_, ⟨(by omega), (by assumption)⟩, ?_⟩ | refine And.intro (by first | decide | omega) ?_ | fail); conv => whnf) | refine Sem.seqS ?_ | refine Sem.block ?_ | fail)
      refine hc.on ?_; conv => whnf
      repeat' (first | ((first | refine Sem.reg tt_ok ?_ | refine Sem.condS ?_ | refine Sem.regL tt_ok ?_ | refine Sem.skip tt_ok ?_ | refine Sem.exit tt_ok ?_ | refine Sem.ret tt_ok ?_ | refine BS_t (by assumption) ?_ | refine BS_f (by assumption) ?_ | refine (nthK_iff _ _).2 ⟨_, (by assumption), ?_⟩ | refine ⟨_, ⟨(by omega), (by assumption)⟩, ?_⟩ | refine And.intro (by first | decide | omega) ?_ | fail); conv => whnf) | refine Sem.seqS ?_ | refine Sem.block ?_ | fail)
      refine ⟨⟨k + 1, by omega⟩, by show l.length - (k + 1) < l.length - k; omega, ?_⟩
      refine weak_by [] ?_; (conv => whnf); repeat (first | (refine And.intro rfl ?_; conv => whnf) | fail)
      refine And.intro ee ?_
      refine And.intro hi ?_
      (conv => whnf); repeat (first | (refine And.intro rfl ?_; conv => whnf) | fail)
      exact ⟨fun i y hy => hy, rfl, by decide, rfl, rfl⟩
    have c1 : decide (((k : Nat) : Int) > 0) = true := by rw [decide_eq_true_eq]; omega
    have hsep : sepV k 0 = [44] := by unfold sepV; rw [if_neg hk0, if_pos (.inl (by decide))]
    have zs : ((S (itemsT (l.take k) 0 0 tags) ++ (⟨#[44]⟩ : ByteArray))).size = (itemsT (l.take k) 0 0 tags).length + 1 := by rw [ByteArray.size_append, z0]; rfl
    have ee : (S (itemsT (l.take k) 0 0 tags) ++ (⟨#[44]⟩ : ByteArray)) ++ S (textT (.mk k1 n1 s1 t1 l1)) = S (itemsT (l.take (k + 1)) 0 0 tags) := by
      rw [hft, hsep, htag]
      apply ByteArray.ext; simp [S, ByteArray.data_append]
    repeat' (first | ((first | refine Sem.reg tt_ok ?_ | refine Sem.condS ?_ | refine Sem.regL tt_ok ?_ | refine Sem.skip tt_ok ?_ | refine Sem.exit tt_ok ?_ | refine Sem.ret tt_ok ?_ | refine BS_t (by assumption) ?_ | refine BS_f (by assumption) ?_ | refine (nthK_iff _ _).2 ⟨_, (by assumption), ?_⟩ | refine ⟨_, ⟨(by omega), (by assumption)⟩, ?_⟩ | refine And.intro (by first | decide | omega) ?_ | fail); conv => whnf) | refine Sem.seqS ?_ | refine Sem.block ?_ | fail)
    refine hc.on ?_; conv => whnf
    repeat' (first | ((first | refine Sem.reg tt_ok ?_ | refine Sem.condS ?_ | refine Sem.regL tt_ok ?_ | refine Sem.skip tt_ok ?_ | refine Sem.exit tt_ok ?_ | refine Sem.ret tt_ok ?_ | refine BS_t (by assumption) ?_ | refine BS_f (by assumption) ?_ | refine (nthK_iff _ _).2 ⟨_, (by assumption), ?_⟩ | refine ⟨_, ⟨(by omega), (by assumption)⟩, ?_⟩ | refine And.intro (by first | decide | omega) ?_ | fail); conv => whnf) | refine Sem.seqS ?_ | refine Sem.block ?_ | fail)
    refine ⟨⟨k + 1, by omega⟩, by show l.length - (k + 1) < l.length - k; omega, ?_⟩
    refine weak_by [] ?_; (conv => whnf); repeat (first | (refine And.intro rfl ?_; conv => whnf) | fail)
    refine And.intro ee ?_
    refine And.intro hi ?_
    (conv => whnf); repeat (first | (refine And.intro rfl ?_; conv => whnf) | fail)
    exact ⟨fun i y hy => hy, rfl, by decide, rfl, rfl⟩
  · have hk' : k = l.length := by omega
    subst hk'
    have tl : decide (((l.length : Nat) : Int) < ((VT.avs l).length : Nat)) = false := by rw [hlen, decide_eq_false_iff_not]; omega
    rw [List.take_length]
    repeat' (first | ((first | refine Sem.reg tt_ok ?_ | refine Sem.condS ?_ | refine Sem.regL tt_ok ?_ | refine Sem.skip tt_ok ?_ | refine Sem.exit tt_ok ?_ | refine Sem.ret tt_ok ?_ | refine BS_t (by assumption) ?_ | refine BS_f (by assumption) ?_ | refine (nthK_iff _ _).2 ⟨_, (by assumption), ?_⟩ | refine ⟨_, ⟨(by omega), (by assumption)⟩, ?_⟩ | refine And.intro (by first | decide | omega) ?_ | fail); conv => whnf) | refine Sem.seqS ?_ | refine Sem.block ?_ | fail)
    exact ⟨_, fun _ _ h => h, rfl, rfl⟩
set_option maxHeartbeats 1000000 in
theorem ritems1_ok (kd nm : Int) (s : List UInt8) (tags : List Int) (l : List VT) (ih : ∀ x ∈ l, RTextOk x) (hin : ∀ x ∈ l, x.In) (ht : ∀ t ∈ tags, -9223372036854775808 ≤ t ∧ t ≤ 9223372036854775807) (hl : sizesV l ≤ 1000000) (G : Glob) :
    CallOk Tryd.prog TT 26 [.agg [.int .i64 kd, .int .i64 nm, .str (S s), .slc 3 (tags.map tagA), .slc 25 (VT.avs l)], .int .i64 1] G (fun r G' => r = .str (S (itemsT l 0 1 tags)) ∧ G' = G) := by
  have hlen := vavs_len l
  have htl : (tags.map tagA).length = tags.length := by simp
  have hn := sizes_len l
  have hmx : IntKind.i64.max = 9223372036854775807 := rfl
  have zc44 : (⟨#[44]⟩ : ByteArray).size = 1 := rfl
  have zc58 : (⟨#[58]⟩ : ByteArray).size = 1 := rfl
  have zc61 : (⟨#[61]⟩ : ByteArray).size = 1 := rfl
  refine call_sem tt_ok Tryd.func26 rfl (by kernel_rfl) Tryd.ntmps26 Tryd.results26 ?_; conv => whnf
  repeat' (first | ((first | refine Sem.reg tt_ok ?_ | refine Sem.condS ?_ | refine Sem.regL tt_ok ?_ | refine Sem.skip tt_ok ?_ | refine Sem.exit tt_ok ?_ | refine Sem.ret tt_ok ?_ | refine BS_t (by assumption) ?_ | refine BS_f (by assumption) ?_ | refine (nthK_iff _ _).2 ⟨_, (by assumption), ?_⟩ | refine ⟨_, ⟨(by omega), (by assumption)⟩, ?_⟩ | refine And.intro (by first | decide | omega) ?_ | fail); conv => whnf) | refine Sem.seqS ?_ | refine Sem.block ?_ | fail)
  refine Sem.loop (ι := VI l.length) (fun x => ⟨(.top :: .int .i64 1 :: .lptr 0 0 :: .top :: .top :: .str (S (itemsT (l.take x.k) 0 1 tags)) :: .int .i64 (x.k : Nat) :: .top :: .top :: .top :: .top :: .top :: .top :: .top :: .top :: .top :: .top :: .top :: .top :: .top :: .top :: .top :: .top :: .top :: .top :: .top :: .top :: .top :: .top :: .top :: .top :: .top :: .top :: .top :: .top :: .top :: .top :: .top :: .top :: .top :: .top :: .top :: .top :: .top :: .top :: .top :: .top :: .top :: .top :: .top :: .top :: .top :: .top :: .top :: .top :: .top :: .top :: .top :: .top :: .top :: .top :: .top :: .top :: .top :: .top :: .top :: .top :: []), [.live none [.int .i64 kd, .int .i64 nm, .str (S s), .slc 3 (tags.map tagA), .slc 25 (VT.avs l)]], 1, 0, G⟩) (fun x => l.length - x.k) ⟨0, Nat.zero_le _⟩ ?_ (fun x => ?_)
  · refine weak_by [] ?_; (conv => whnf); repeat (first | (refine And.intro rfl ?_; conv => whnf) | fail)
    exact ⟨fun i y hy => hy, rfl, by decide, rfl, rfl⟩
  obtain ⟨k, hk⟩ := x
  simp only
  have h0 : (0 : Int) ≤ ((k : Nat) : Int) := by omega
  by_cases hlt : k < l.length
  · obtain ⟨⟨k1, n1, s1, t1, l1⟩, hx⟩ : ∃ x, l[k]? = some x := ⟨_, List.getElem?_eq_getElem hlt⟩
    have tl : decide (((k : Nat) : Int) < ((VT.avs l).length : Nat)) = true := by rw [hlen, decide_eq_true_eq]; omega
    have hm := vavs_at hx
    have hmem : VT.mk k1 n1 s1 t1 l1 ∈ l := List.mem_of_getElem? hx
    have hst := sizes_take l k _ hx
    have hsl := sizes_le l (k + 1)
    have hc := ih _ hmem G (hin _ hmem) (by omega)
    rw [VT.av] at hc
    have hft := items_take l 1 tags k _ hx
    have z0 := S_size (itemsT (l.take k) 0 1 tags)
    have z1 := S_size (textT (.mk k1 n1 s1 t1 l1))
    have b0 := items_len (l := l.take k) (fun x hx => text_len x (hin x (List.mem_of_mem_take hx))) 1 tags ht 0
    have b1 := text_len _ (hin _ hmem)
    have hi : IntKind.i64.wrap ((k : Int) + 1) = ((k + 1 : Nat) : Int) := by rw [IntWalk.i64_in _ (by omega)]; omega
    by_cases hk0 : k = 0
    · have c1 : decide (((k : Nat) : Int) > 0) = false := by rw [decide_eq_false_iff_not]; omega
      have hsep : sepV k 1 = [] := by unfold sepV; rw [if_pos hk0]
      by_cases hkt : k < tags.length
      · have ct : decide (((k : Nat) : Int) < ((tags.map tagA).length : Nat)) = true := by rw [htl, decide_eq_true_eq]; omega
        have hmt := tag_at hkt
        have htb : -9223372036854775808 ≤ tags.getD k 0 ∧ tags.getD k 0 ≤ 9223372036854775807 := by rw [List.getD_eq_getElem?_getD, List.getElem?_eq_getElem hkt]; exact ht _ (List.getElem_mem hkt)
        have htag : tagV k 1 tags = Lib.itoa (tags.getD k 0) ++ [61] := by unfold tagV; rw [if_pos rfl]
        generalize tags.getD k 0 = tg at *
        have zs : (S (itemsT (l.take k) 0 1 tags)).size = (itemsT (l.take k) 0 1 tags).length := z0
        have zg := vitoa_len (n := tg) (by exact htb)
        have zi := S_size (Lib.itoa (tg))
        have zj : (S (Lib.itoa (tg)) ++ (⟨#[61]⟩ : ByteArray)).size = (Lib.itoa (tg)).length + 1 := by rw [ByteArray.size_append, zi]; rfl
        have hsg := signed_ok (tg) G (by have := htb; omega) (by have := htb; omega)
        have zt : (S (itemsT (l.take k) 0 1 tags) ++ (S (Lib.itoa (tg)) ++ (⟨#[61]⟩ : ByteArray))).size = (S (itemsT (l.take k) 0 1 tags)).size + (Lib.itoa (tg)).length + 1 := by rw [ByteArray.size_append, zj]; omega
        have ee : (S (itemsT (l.take k) 0 1 tags) ++ (S (Lib.itoa (tg)) ++ (⟨#[61]⟩ : ByteArray))) ++ S (textT (.mk k1 n1 s1 t1 l1)) = S (itemsT (l.take (k + 1)) 0 1 tags) := by
          rw [hft, hsep, htag]
          apply ByteArray.ext; simp [S, ByteArray.data_append]
        repeat' (first | ((first | refine Sem.reg tt_ok ?_ | refine Sem.condS ?_ | refine Sem.regL tt_ok ?_ | refine Sem.skip tt_ok ?_ | refine Sem.exit tt_ok ?_ | refine Sem.ret tt_ok ?_ | refine BS_t (by assumption) ?_ | refine BS_f (by assumption) ?_ | refine (nthK_iff _ _).2 ⟨_, (by assumption), ?_⟩ | refine ⟨_, ⟨(by omega), (by assumption)⟩, ?_⟩ | refine And.intro (by first | decide | omega) ?_ | fail); conv => whnf) | refine Sem.seqS ?_ | refine Sem.block ?_ | fail)
        refine hsg.on ?_; conv => whnf
        repeat' (first | ((first | refine Sem.reg tt_ok ?_ | refine Sem.condS ?_ | refine Sem.regL tt_ok ?_ | refine Sem.skip tt_ok ?_ | refine Sem.exit tt_ok ?_ | refine Sem.ret tt_ok ?_ | refine BS_t (by assumption) ?_ | refine BS_f (by assumption) ?_ | refine (nthK_iff _ _).2 ⟨_, (by assumption), ?_⟩ | refine ⟨_, ⟨(by omega), (by assumption)⟩, ?_⟩ | refine And.intro (by first | decide | omega) ?_ | fail); conv => whnf) | refine Sem.seqS ?_ | refine Sem.block ?_ | fail)
        refine hc.on ?_; conv => whnf
        repeat' (first | ((first | refine Sem.reg tt_ok ?_ | refine Sem.condS ?_ | refine Sem.regL tt_ok ?_ | refine Sem.skip tt_ok ?_ | refine Sem.exit tt_ok ?_ | refine Sem.ret tt_ok ?_ | refine BS_t (by assumption) ?_ | refine BS_f (by assumption) ?_ | refine (nthK_iff _ _).2 ⟨_, (by assumption), ?_⟩ | refine ⟨_, ⟨(by omega), (by assumption)⟩, ?_⟩ | refine And.intro (by first | decide | omega) ?_ | fail); conv => whnf) | refine Sem.seqS ?_ | refine Sem.block ?_ | fail)
        refine ⟨⟨k + 1, by omega⟩, by show l.length - (k + 1) < l.length - k; omega, ?_⟩
        refine weak_by [] ?_; (conv => whnf); repeat (first | (refine And.intro rfl ?_; conv => whnf) | fail)
        refine And.intro ee ?_
        refine And.intro hi ?_
        (conv => whnf); repeat (first | (refine And.intro rfl ?_; conv => whnf) | fail)
        exact ⟨fun i y hy => hy, rfl, by decide, rfl, rfl⟩
      have ct : decide (((k : Nat) : Int) < ((tags.map tagA).length : Nat)) = false := by rw [htl, decide_eq_false_iff_not]; omega
      have htb : -9223372036854775808 ≤ (0 : Int) ∧ (0 : Int) ≤ 9223372036854775807 := by decide
      have htag : tagV k 1 tags = Lib.itoa 0 ++ [61] := by unfold tagV; rw [if_pos rfl, List.getD_eq_getElem?_getD, List.getElem?_eq_none (by omega)]; rfl
      have zs : (S (itemsT (l.take k) 0 1 tags)).size = (itemsT (l.take k) 0 1 tags).length := z0
      have zg := vitoa_len (n := 0) (by exact htb)
      have zi := S_size (Lib.itoa (0))
      have zj : (S (Lib.itoa (0)) ++ (⟨#[61]⟩ : ByteArray)).size = (Lib.itoa (0)).length + 1 := by rw [ByteArray.size_append, zi]; rfl
      have hsg := signed_ok (0) G (by have := htb; omega) (by have := htb; omega)
      have zt : (S (itemsT (l.take k) 0 1 tags) ++ (S (Lib.itoa (0)) ++ (⟨#[61]⟩ : ByteArray))).size = (S (itemsT (l.take k) 0 1 tags)).size + (Lib.itoa (0)).length + 1 := by rw [ByteArray.size_append, zj]; omega
      have ee : (S (itemsT (l.take k) 0 1 tags) ++ (S (Lib.itoa (0)) ++ (⟨#[61]⟩ : ByteArray))) ++ S (textT (.mk k1 n1 s1 t1 l1)) = S (itemsT (l.take (k + 1)) 0 1 tags) := by
        rw [hft, hsep, htag]
        apply ByteArray.ext; simp [S, ByteArray.data_append]
      generalize Lib.itoa 0 = it at *
      repeat' (first | ((first | refine Sem.reg tt_ok ?_ | refine Sem.condS ?_ | refine Sem.regL tt_ok ?_ | refine Sem.skip tt_ok ?_ | refine Sem.exit tt_ok ?_ | refine Sem.ret tt_ok ?_ | refine BS_t (by assumption) ?_ | refine BS_f (by assumption) ?_ | refine (nthK_iff _ _).2 ⟨_, (by assumption), ?_⟩ | refine ⟨_, ⟨(by omega), (by assumption)⟩, ?_⟩ | refine And.intro (by first | decide | omega) ?_ | fail); conv => whnf) | refine Sem.seqS ?_ | refine Sem.block ?_ | fail)
      refine hsg.on ?_; conv => whnf
      repeat' (first | ((first | refine Sem.reg tt_ok ?_ | refine Sem.condS ?_ | refine Sem.regL tt_ok ?_ | refine Sem.skip tt_ok ?_ | refine Sem.exit tt_ok ?_ | refine Sem.ret tt_ok ?_ | refine BS_t (by assumption) ?_ | refine BS_f (by assumption) ?_ | refine (nthK_iff _ _).2 ⟨_, (by assumption), ?_⟩ | refine ⟨_, ⟨(by omega), (by assumption)⟩, ?_⟩ | refine And.intro (by first | decide | omega) ?_ | fail); conv => whnf) | refine Sem.seqS ?_ | refine Sem.block ?_ | fail)
      refine hc.on ?_; conv => whnf
      repeat' (first | ((first | refine Sem.reg tt_ok ?_ | refine Sem.condS ?_ | refine Sem.regL tt_ok ?_ | refine Sem.skip tt_ok ?_ | refine Sem.exit tt_ok ?_ | refine Sem.ret tt_ok ?_ | refine BS_t (by assumption) ?_ | refine BS_f (by assumption) ?_ | refine (nthK_iff _ _).2 ⟨_, (by assumption), ?_⟩ | refine ⟨_, ⟨(by omega), (by assumption)⟩, ?_⟩ | refine And.intro (by first | decide | omega) ?_ | fail); conv => whnf) | refine Sem.seqS ?_ | refine Sem.block ?_ | fail)
      refine ⟨⟨k + 1, by omega⟩, by show l.length - (k + 1) < l.length - k; omega, ?_⟩
      refine weak_by [] ?_; (conv => whnf); repeat (first | (refine And.intro rfl ?_; conv => whnf) | fail)
      refine And.intro ee ?_
      refine And.intro hi ?_
      (conv => whnf); repeat (first | (refine And.intro rfl ?_; conv => whnf) | fail)
      exact ⟨fun i y hy => hy, rfl, by decide, rfl, rfl⟩
    have c1 : decide (((k : Nat) : Int) > 0) = true := by rw [decide_eq_true_eq]; omega
    have hsep : sepV k 1 = [44] := by unfold sepV; rw [if_neg hk0, if_pos (.inl (by decide))]
    by_cases hkt : k < tags.length
    · have ct : decide (((k : Nat) : Int) < ((tags.map tagA).length : Nat)) = true := by rw [htl, decide_eq_true_eq]; omega
      have hmt := tag_at hkt
      have htb : -9223372036854775808 ≤ tags.getD k 0 ∧ tags.getD k 0 ≤ 9223372036854775807 := by rw [List.getD_eq_getElem?_getD, List.getElem?_eq_getElem hkt]; exact ht _ (List.getElem_mem hkt)
      have htag : tagV k 1 tags = Lib.itoa (tags.getD k 0) ++ [61] := by unfold tagV; rw [if_pos rfl]
      generalize tags.getD k 0 = tg at *
      have zs : ((S (itemsT (l.take k) 0 1 tags) ++ (⟨#[44]⟩ : ByteArray))).size = (itemsT (l.take k) 0 1 tags).length + 1 := by rw [ByteArray.size_append, z0]; rfl
      have zg := vitoa_len (n := tg) (by exact htb)
      have zi := S_size (Lib.itoa (tg))
      have zj : (S (Lib.itoa (tg)) ++ (⟨#[61]⟩ : ByteArray)).size = (Lib.itoa (tg)).length + 1 := by rw [ByteArray.size_append, zi]; rfl
      have hsg := signed_ok (tg) G (by have := htb; omega) (by have := htb; omega)
      have zt : ((S (itemsT (l.take k) 0 1 tags) ++ (⟨#[44]⟩ : ByteArray)) ++ (S (Lib.itoa (tg)) ++ (⟨#[61]⟩ : ByteArray))).size = ((S (itemsT (l.take k) 0 1 tags) ++ (⟨#[44]⟩ : ByteArray))).size + (Lib.itoa (tg)).length + 1 := by rw [ByteArray.size_append, zj]; omega
      have ee : ((S (itemsT (l.take k) 0 1 tags) ++ (⟨#[44]⟩ : ByteArray)) ++ (S (Lib.itoa (tg)) ++ (⟨#[61]⟩ : ByteArray))) ++ S (textT (.mk k1 n1 s1 t1 l1)) = S (itemsT (l.take (k + 1)) 0 1 tags) := by
        rw [hft, hsep, htag]
        apply ByteArray.ext; simp [S, ByteArray.data_append]
      repeat' (first | ((first | refine Sem.reg tt_ok ?_ | refine Sem.condS ?_ | refine Sem.regL tt_ok ?_ | refine Sem.skip tt_ok ?_ | refine Sem.exit tt_ok ?_ | refine Sem.ret tt_ok ?_ | refine BS_t (by assumption) ?_ | refine BS_f (by assumption) ?_ | refine (nthK_iff _ _).2 ⟨_, (by assumption), ?_⟩ | refine ⟨_, ⟨(by omega), (by assumption)⟩, ?_⟩ | refine And.intro (by first | decide | omega) ?_ | fail); conv => whnf) | refine Sem.seqS ?_ | refine Sem.block ?_ | fail)
      refine hsg.on ?_; conv => whnf
      repeat' (first | ((first | refine Sem.reg tt_ok ?_ | refine Sem.condS ?_ | refine Sem.regL tt_ok ?_ | refine Sem.skip tt_ok ?_ | refine Sem.exit tt_ok ?_ | refine Sem.ret tt_ok ?_ | refine BS_t (by assumption) ?_ | refine BS_f (by assumption) ?_ | refine (nthK_iff _ _).2 ⟨_, (by assumption), ?_⟩ | refine ⟨_, ⟨(by omega), (by assumption)⟩, ?_⟩ | refine And.intro (by first | decide | omega) ?_ | fail); conv => whnf) | refine Sem.seqS ?_ | refine Sem.block ?_ | fail)
      refine hc.on ?_; conv => whnf
      repeat' (first | ((first | refine Sem.reg tt_ok ?_ | refine Sem.condS ?_ | refine Sem.regL tt_ok ?_ | refine Sem.skip tt_ok ?_ | refine Sem.exit tt_ok ?_ | refine Sem.ret tt_ok ?_ | refine BS_t (by assumption) ?_ | refine BS_f (by assumption) ?_ | refine (nthK_iff _ _).2 ⟨_, (by assumption), ?_⟩ | refine ⟨_, ⟨(by omega), (by assumption)⟩, ?_⟩ | refine And.intro (by first | decide | omega) ?_ | fail); conv => whnf) | refine Sem.seqS ?_ | refine Sem.block ?_ | fail)
      refine ⟨⟨k + 1, by omega⟩, by show l.length - (k + 1) < l.length - k; omega, ?_⟩
      refine weak_by [] ?_; (conv => whnf); repeat (first | (refine And.intro rfl ?_; conv => whnf) | fail)
      refine And.intro ee ?_
      refine And.intro hi ?_
      (conv => whnf); repeat (first | (refine And.intro rfl ?_; conv => whnf) | fail)
      exact ⟨fun i y hy => hy, rfl, by decide, rfl, rfl⟩
    have ct : decide (((k : Nat) : Int) < ((tags.map tagA).length : Nat)) = false := by rw [htl, decide_eq_false_iff_not]; omega
    have htb : -9223372036854775808 ≤ (0 : Int) ∧ (0 : Int) ≤ 9223372036854775807 := by decide
    have htag : tagV k 1 tags = Lib.itoa 0 ++ [61] := by unfold tagV; rw [if_pos rfl, List.getD_eq_getElem?_getD, List.getElem?_eq_none (by omega)]; rfl
    have zs : ((S (itemsT (l.take k) 0 1 tags) ++ (⟨#[44]⟩ : ByteArray))).size = (itemsT (l.take k) 0 1 tags).length + 1 := by rw [ByteArray.size_append, z0]; rfl
    have zg := vitoa_len (n := 0) (by exact htb)
    have zi := S_size (Lib.itoa (0))
    have zj : (S (Lib.itoa (0)) ++ (⟨#[61]⟩ : ByteArray)).size = (Lib.itoa (0)).length + 1 := by rw [ByteArray.size_append, zi]; rfl
    have hsg := signed_ok (0) G (by have := htb; omega) (by have := htb; omega)
    have zt : ((S (itemsT (l.take k) 0 1 tags) ++ (⟨#[44]⟩ : ByteArray)) ++ (S (Lib.itoa (0)) ++ (⟨#[61]⟩ : ByteArray))).size = ((S (itemsT (l.take k) 0 1 tags) ++ (⟨#[44]⟩ : ByteArray))).size + (Lib.itoa (0)).length + 1 := by rw [ByteArray.size_append, zj]; omega
    have ee : ((S (itemsT (l.take k) 0 1 tags) ++ (⟨#[44]⟩ : ByteArray)) ++ (S (Lib.itoa (0)) ++ (⟨#[61]⟩ : ByteArray))) ++ S (textT (.mk k1 n1 s1 t1 l1)) = S (itemsT (l.take (k + 1)) 0 1 tags) := by
      rw [hft, hsep, htag]
      apply ByteArray.ext; simp [S, ByteArray.data_append]
    generalize Lib.itoa 0 = it at *
    repeat' (first | ((first | refine Sem.reg tt_ok ?_ | refine Sem.condS ?_ | refine Sem.regL tt_ok ?_ | refine Sem.skip tt_ok ?_ | refine Sem.exit tt_ok ?_ | refine Sem.ret tt_ok ?_ | refine BS_t (by assumption) ?_ | refine BS_f (by assumption) ?_ | refine (nthK_iff _ _).2 ⟨_, (by assumption), ?_⟩ | refine ⟨_, ⟨(by omega), (by assumption)⟩, ?_⟩ | refine And.intro (by first | decide | omega) ?_ | fail); conv => whnf) | refine Sem.seqS ?_ | refine Sem.block ?_ | fail)
    refine hsg.on ?_; conv => whnf
    repeat' (first | ((first | refine Sem.reg tt_ok ?_ | refine Sem.condS ?_ | refine Sem.regL tt_ok ?_ | refine Sem.skip tt_ok ?_ | refine Sem.exit tt_ok ?_ | refine Sem.ret tt_ok ?_ | refine BS_t (by assumption) ?_ | refine BS_f (by assumption) ?_ | refine (nthK_iff _ _).2 ⟨_, (by assumption), ?_⟩ | refine ⟨_, ⟨(by omega), (by assumption)⟩, ?_⟩ | refine And.intro (by first | decide | omega) ?_ | fail); conv => whnf) | refine Sem.seqS ?_ | refine Sem.block ?_ | fail)
    refine hc.on ?_; conv => whnf
    repeat' (first | ((first | refine Sem.reg tt_ok ?_ | refine Sem.condS ?_ | refine Sem.regL tt_ok ?_ | refine Sem.skip tt_ok ?_ | refine Sem.exit tt_ok ?_ | refine Sem.ret tt_ok ?_ | refine BS_t (by assumption) ?_ | refine BS_f (by assumption) ?_ | refine (nthK_iff _ _).2 ⟨_, (by assumption), ?_⟩ | refine ⟨_, ⟨(by omega), (by assumption)⟩, ?_⟩ | refine And.intro (by first | decide | omega) ?_ | fail); conv => whnf) | refine Sem.seqS ?_ | refine Sem.block ?_ | fail)
    refine ⟨⟨k + 1, by omega⟩, by show l.length - (k + 1) < l.length - k; omega, ?_⟩
    refine weak_by [] ?_; (conv => whnf); repeat (first | (refine And.intro rfl ?_; conv => whnf) | fail)
    refine And.intro ee ?_
    refine And.intro hi ?_
    (conv => whnf); repeat (first | (refine And.intro rfl ?_; conv => whnf) | fail)
    exact ⟨fun i y hy => hy, rfl, by decide, rfl, rfl⟩
  · have hk' : k = l.length := by omega
    subst hk'
    have tl : decide (((l.length : Nat) : Int) < ((VT.avs l).length : Nat)) = false := by rw [hlen, decide_eq_false_iff_not]; omega
    rw [List.take_length]
    repeat' (first | ((first | refine Sem.reg tt_ok ?_ | refine Sem.condS ?_ | refine Sem.regL tt_ok ?_ | refine Sem.skip tt_ok ?_ | refine Sem.exit tt_ok ?_ | refine Sem.ret tt_ok ?_ | refine BS_t (by assumption) ?_ | refine BS_f (by assumption) ?_ | refine (nthK_iff _ _).2 ⟨_, (by assumption), ?_⟩ | refine ⟨_, ⟨(by omega), (by assumption)⟩, ?_⟩ | refine And.intro (by first | decide | omega) ?_ | fail); conv => whnf) | refine Sem.seqS ?_ | refine Sem.block ?_ | fail)
    exact ⟨_, fun _ _ h => h, rfl, rfl⟩
set_option maxHeartbeats 1000000 in
theorem ritems2_ok (kd nm : Int) (s : List UInt8) (tags : List Int) (l : List VT) (ih : ∀ x ∈ l, RTextOk x) (hin : ∀ x ∈ l, x.In) (ht : ∀ t ∈ tags, -9223372036854775808 ≤ t ∧ t ≤ 9223372036854775807) (hl : sizesV l ≤ 1000000) (G : Glob) :
    CallOk Tryd.prog TT 26 [.agg [.int .i64 kd, .int .i64 nm, .str (S s), .slc 3 (tags.map tagA), .slc 25 (VT.avs l)], .int .i64 2] G (fun r G' => r = .str (S (itemsT l 0 2 tags)) ∧ G' = G) := by
  have hlen := vavs_len l
  have htl : (tags.map tagA).length = tags.length := by simp
  have hn := sizes_len l
  have hmx : IntKind.i64.max = 9223372036854775807 := rfl
  have zc44 : (⟨#[44]⟩ : ByteArray).size = 1 := rfl
  have zc58 : (⟨#[58]⟩ : ByteArray).size = 1 := rfl
  have zc61 : (⟨#[61]⟩ : ByteArray).size = 1 := rfl
  refine call_sem tt_ok Tryd.func26 rfl (by kernel_rfl) Tryd.ntmps26 Tryd.results26 ?_; conv => whnf
  repeat' (first | ((first | refine Sem.reg tt_ok ?_ | refine Sem.condS ?_ | refine Sem.regL tt_ok ?_ | refine Sem.skip tt_ok ?_ | refine Sem.exit tt_ok ?_ | refine Sem.ret tt_ok ?_ | refine BS_t (by assumption) ?_ | refine BS_f (by assumption) ?_ | refine (nthK_iff _ _).2 ⟨_, (by assumption), ?_⟩ | refine ⟨_, ⟨(by omega), (by assumption)⟩, ?_⟩ | refine And.intro (by first | decide | omega) ?_ | fail); conv => whnf) | refine Sem.seqS ?_ | refine Sem.block ?_ | fail)
  refine Sem.loop (ι := VI l.length) (fun x => ⟨(.top :: .int .i64 2 :: .lptr 0 0 :: .top :: .top :: .str (S (itemsT (l.take x.k) 0 2 tags)) :: .int .i64 (x.k : Nat) :: .top :: .top :: .top :: .top :: .top :: .top :: .top :: .top :: .top :: .top :: .top :: .top :: .top :: .top :: .top :: .top :: .top :: .top :: .top :: .top :: .top :: .top :: .top :: .top :: .top :: .top :: .top :: .top :: .top :: .top :: .top :: .top :: .top :: .top :: .top :: .top :: .top :: .top :: .top :: .top :: .top :: .top :: .top :: .top :: .top :: .top :: .top :: .top :: .top :: .top :: .top :: .top :: .top :: .top :: .top :: .top :: .top :: .top :: .top :: .top :: []), [.live none [.int .i64 kd, .int .i64 nm, .str (S s), .slc 3 (tags.map tagA), .slc 25 (VT.avs l)]], 1, 0, G⟩) (fun x => l.length - x.k) ⟨0, Nat.zero_le _⟩ ?_ (fun x => ?_)
  · refine weak_by [] ?_; (conv => whnf); repeat (first | (refine And.intro rfl ?_; conv => whnf) | fail)
    exact ⟨fun i y hy => hy, rfl, by decide, rfl, rfl⟩
  obtain ⟨k, hk⟩ := x
  simp only
  have h0 : (0 : Int) ≤ ((k : Nat) : Int) := by omega
  by_cases hlt : k < l.length
  · obtain ⟨⟨k1, n1, s1, t1, l1⟩, hx⟩ : ∃ x, l[k]? = some x := ⟨_, List.getElem?_eq_getElem hlt⟩
    have tl : decide (((k : Nat) : Int) < ((VT.avs l).length : Nat)) = true := by rw [hlen, decide_eq_true_eq]; omega
    have hm := vavs_at hx
    have hmem : VT.mk k1 n1 s1 t1 l1 ∈ l := List.mem_of_getElem? hx
    have hst := sizes_take l k _ hx
    have hsl := sizes_le l (k + 1)
    have hc := ih _ hmem G (hin _ hmem) (by omega)
    rw [VT.av] at hc
    have hft := items_take l 2 tags k _ hx
    have z0 := S_size (itemsT (l.take k) 0 2 tags)
    have z1 := S_size (textT (.mk k1 n1 s1 t1 l1))
    have b0 := items_len (l := l.take k) (fun x hx => text_len x (hin x (List.mem_of_mem_take hx))) 2 tags ht 0
    have b1 := text_len _ (hin _ hmem)
    have hi : IntKind.i64.wrap ((k : Int) + 1) = ((k + 1 : Nat) : Int) := by rw [IntWalk.i64_in _ (by omega)]; omega
    have htag : tagV k 2 tags = [] := by unfold tagV; rw [if_neg (by decide)]
    by_cases hk0 : k = 0
    · have c1 : decide (((k : Nat) : Int) > 0) = false := by rw [decide_eq_false_iff_not]; omega
      have hsep : sepV k 2 = [] := by unfold sepV; rw [if_pos hk0]
      have zs : (S (itemsT (l.take k) 0 2 tags)).size = (itemsT (l.take k) 0 2 tags).length := z0
      have ee : S (itemsT (l.take k) 0 2 tags) ++ S (textT (.mk k1 n1 s1 t1 l1)) = S (itemsT (l.take (k + 1)) 0 2 tags) := by
        rw [hft, hsep, htag]
        apply ByteArray.ext; simp [S, ByteArray.data_append]
      repeat' (first | ((first | refine Sem.reg tt_ok ?_ | refine Sem.condS ?_ | refine Sem.regL tt_ok ?_ | refine Sem.skip tt_ok ?_ | refine Sem.exit tt_ok ?_ | refine Sem.ret tt_ok ?_ | refine BS_t (by assumption) ?_ | refine BS_f (by assumption) ?_ | refine (nthK_iff _ _).2 ⟨_, (by assumption), ?_⟩ | refine ⟨_, ⟨(by omega), (by assumption)⟩, ?_⟩ | refine And.intro (by first | decide | omega) ?_ | fail); conv => whnf) | refine Sem.seqS ?_ | refine Sem.block ?_ | fail)
      refine hc.on ?_; conv => whnf
      repeat' (first | ((first | refine Sem.reg tt_ok ?_ | refine Sem.condS ?_ | refine Sem.regL tt_ok ?_ | refine Sem.skip tt_ok ?_ | refine Sem.exit tt_ok ?_ | refine Sem.ret tt_ok ?_ | refine BS_t (by assumption) ?_ | refine BS_f (by assumption) ?_ | refine (nthK_iff _ _).2 ⟨_, (by assumption), ?_⟩ | refine ⟨_, ⟨(by omega), (by assumption)⟩, ?_⟩ | refine And.intro (by first | decide | omega) ?_ | fail); conv => whnf) | refine Sem.seqS ?_ | refine Sem.block ?_ | fail)
      refine ⟨⟨k + 1, by omega⟩, by show l.length - (k + 1) < l.length - k; omega, ?_⟩
      refine weak_by [] ?_; (conv => whnf); repeat (first | (refine And.intro rfl ?_; conv => whnf) | fail)
      refine And.intro ee ?_
      refine And.intro hi ?_
      (conv => whnf); repeat (first | (refine And.intro rfl ?_; conv => whnf) | fail)
      exact ⟨fun i y hy => hy, rfl, by decide, rfl, rfl⟩
    have c1 : decide (((k : Nat) : Int) > 0) = true := by rw [decide_eq_true_eq]; omega
    have ctm : ((k : Nat) : Int).tmod 2 = ((k % 2 : Nat) : Int) := by rw [Int.tmod_eq_emod_of_nonneg (by omega)]; omega
    by_cases hev : k % 2 = 0
    · have c2 : (((k : Nat) : Int).tmod 2 == 0) = true := by rw [ctm, hev]; rfl
      have c3 : (((k : Nat) : Int).tmod 2 == 1) = false := by rw [ctm, hev]; rfl
      have hsep : sepV k 2 = [44] := by unfold sepV; rw [if_neg hk0, if_pos (.inr hev)]
      have zs : ((S (itemsT (l.take k) 0 2 tags) ++ (⟨#[44]⟩ : ByteArray))).size = (itemsT (l.take k) 0 2 tags).length + 1 := by rw [ByteArray.size_append, z0]; rfl
      have ee : (S (itemsT (l.take k) 0 2 tags) ++ (⟨#[44]⟩ : ByteArray)) ++ S (textT (.mk k1 n1 s1 t1 l1)) = S (itemsT (l.take (k + 1)) 0 2 tags) := by
        rw [hft, hsep, htag]
        apply ByteArray.ext; simp [S, ByteArray.data_append]
      repeat' (first | ((first | refine Sem.reg tt_ok ?_ | refine Sem.condS ?_ | refine Sem.regL tt_ok ?_ | refine Sem.skip tt_ok ?_ | refine Sem.exit tt_ok ?_ | refine Sem.ret tt_ok ?_ | refine BS_t (by assumption) ?_ | refine BS_f (by assumption) ?_ | refine (nthK_iff _ _).2 ⟨_, (by assumption), ?_⟩ | refine ⟨_, ⟨(by omega), (by assumption)⟩, ?_⟩ | refine And.intro (by first | decide | omega) ?_ | fail); conv => whnf) | refine Sem.seqS ?_ | refine Sem.block ?_ | fail)
      refine hc.on ?_; conv => whnf
      repeat' (first | ((first | refine Sem.reg tt_ok ?_ | refine Sem.condS ?_ | refine Sem.regL tt_ok ?_ | refine Sem.skip tt_ok ?_ | refine Sem.exit tt_ok ?_ | refine Sem.ret tt_ok ?_ | refine BS_t (by assumption) ?_ | refine BS_f (by assumption) ?_ | refine (nthK_iff _ _).2 ⟨_, (by assumption), ?_⟩ | refine ⟨_, ⟨(by omega), (by assumption)⟩, ?_⟩ | refine And.intro (by first | decide | omega) ?_ | fail); conv => whnf) | refine Sem.seqS ?_ | refine Sem.block ?_ | fail)
      refine ⟨⟨k + 1, by omega⟩, by show l.length - (k + 1) < l.length - k; omega, ?_⟩
      refine weak_by [] ?_; (conv => whnf); repeat (first | (refine And.intro rfl ?_; conv => whnf) | fail)
      refine And.intro ee ?_
      refine And.intro hi ?_
      (conv => whnf); repeat (first | (refine And.intro rfl ?_; conv => whnf) | fail)
      exact ⟨fun i y hy => hy, rfl, by decide, rfl, rfl⟩
    have hod : k % 2 = 1 := by omega
    have c2 : (((k : Nat) : Int).tmod 2 == 0) = false := by rw [ctm, hod]; rfl
    have c3 : (((k : Nat) : Int).tmod 2 == 1) = true := by rw [ctm, hod]; rfl
    have hsep : sepV k 2 = [58] := by unfold sepV; rw [if_neg hk0, if_neg (by omega)]
    have zs : ((S (itemsT (l.take k) 0 2 tags) ++ (⟨#[58]⟩ : ByteArray))).size = (itemsT (l.take k) 0 2 tags).length + 1 := by rw [ByteArray.size_append, z0]; rfl
    have ee : (S (itemsT (l.take k) 0 2 tags) ++ (⟨#[58]⟩ : ByteArray)) ++ S (textT (.mk k1 n1 s1 t1 l1)) = S (itemsT (l.take (k + 1)) 0 2 tags) := by
      rw [hft, hsep, htag]
      apply ByteArray.ext; simp [S, ByteArray.data_append]
    repeat' (first | ((first | refine Sem.reg tt_ok ?_ | refine Sem.condS ?_ | refine Sem.regL tt_ok ?_ | refine Sem.skip tt_ok ?_ | refine Sem.exit tt_ok ?_ | refine Sem.ret tt_ok ?_ | refine BS_t (by assumption) ?_ | refine BS_f (by assumption) ?_ | refine (nthK_iff _ _).2 ⟨_, (by assumption), ?_⟩ | refine ⟨_, ⟨(by omega), (by assumption)⟩, ?_⟩ | refine And.intro (by first | decide | omega) ?_ | fail); conv => whnf) | refine Sem.seqS ?_ | refine Sem.block ?_ | fail)
    refine hc.on ?_; conv => whnf
    repeat' (first | ((first | refine Sem.reg tt_ok ?_ | refine Sem.condS ?_ | refine Sem.regL tt_ok ?_ | refine Sem.skip tt_ok ?_ | refine Sem.exit tt_ok ?_ | refine Sem.ret tt_ok ?_ | refine BS_t (by assumption) ?_ | refine BS_f (by assumption) ?_ | refine (nthK_iff _ _).2 ⟨_, (by assumption), ?_⟩ | refine ⟨_, ⟨(by omega), (by assumption)⟩, ?_⟩ | refine And.intro (by first | decide | omega) ?_ | fail); conv => whnf) | refine Sem.seqS ?_ | refine Sem.block ?_ | fail)
    refine ⟨⟨k + 1, by omega⟩, by show l.length - (k + 1) < l.length - k; omega, ?_⟩
    refine weak_by [] ?_; (conv => whnf); repeat (first | (refine And.intro rfl ?_; conv => whnf) | fail)
    refine And.intro ee ?_
    refine And.intro hi ?_
    (conv => whnf); repeat (first | (refine And.intro rfl ?_; conv => whnf) | fail)
    exact ⟨fun i y hy => hy, rfl, by decide, rfl, rfl⟩
  · have hk' : k = l.length := by omega
    subst hk'
    have tl : decide (((l.length : Nat) : Int) < ((VT.avs l).length : Nat)) = false := by rw [hlen, decide_eq_false_iff_not]; omega
    rw [List.take_length]
    repeat' (first | ((first | refine Sem.reg tt_ok ?_ | refine Sem.condS ?_ | refine Sem.regL tt_ok ?_ | refine Sem.skip tt_ok ?_ | refine Sem.exit tt_ok ?_ | refine Sem.ret tt_ok ?_ | refine BS_t (by assumption) ?_ | refine BS_f (by assumption) ?_ | refine (nthK_iff _ _).2 ⟨_, (by assumption), ?_⟩ | refine ⟨_, ⟨(by omega), (by assumption)⟩, ?_⟩ | refine And.intro (by first | decide | omega) ?_ | fail); conv => whnf) | refine Sem.seqS ?_ | refine Sem.block ?_ | fail)
    exact ⟨_, fun _ _ h => h, rfl, rfl⟩
end Go.Proofs.YtgedlbfdhekdgaaDoor

