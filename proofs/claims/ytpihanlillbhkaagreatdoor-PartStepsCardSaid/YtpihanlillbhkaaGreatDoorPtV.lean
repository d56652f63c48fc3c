/- The document's Text. Printed by genptv.py. -/
import Derived.Test.YtpihanlillbhkaaGreatDoorGy
import Derived.Test.YtpihanlillbhkaaGreatDoorPtT
import Derived.Test.YtpihanlillbhkaaGreatDoorPtR
set_option maxRecDepth 100000
set_option linter.unusedSimpArgs false
set_option linter.unusedVariables false
namespace Go.Proofs.YtpihanlillbhkaaGreatDoor
open Go Go.RowKit Go.Proofs

theorem catz {x y : ByteArray} {n m : Nat} (h : x.size = n) (k : y.size = m) : (x ++ y).size = n + m := by rw [ByteArray.size_append, h, k]
/-- one step of a row of lines -/
structure Ln (B : List UInt8) (word : List UInt8) (r : ByteArray → List UInt8) (ns : List ByteArray) (k : Nat) (n : ByteArray) (W : ByteArray) : Prop where
  eq : S (B ++ linesT word r (ns.take k)) ++ (W ++ S (hexT n.data.toList) ++ (⟨#[32]⟩ : ByteArray) ++ S (r n) ++ (⟨#[10]⟩ : ByteArray)) = S (B ++ linesT word r (ns.take (k + 1)))
  z0 : (S (B ++ linesT word r (ns.take k))).size = B.length + (linesT word r (ns.take k)).length
  z1 : W.size = word.length + 1
  z2 : (W ++ S (hexT n.data.toList)).size = word.length + 1 + (hexT n.data.toList).length
  z3 : (W ++ S (hexT n.data.toList) ++ (⟨#[32]⟩ : ByteArray)).size = word.length + 1 + (hexT n.data.toList).length + 1
  z4 : (W ++ S (hexT n.data.toList) ++ (⟨#[32]⟩ : ByteArray) ++ S (r n)).size = word.length + 1 + (hexT n.data.toList).length + 1 + (r n).length
  z5 : (W ++ S (hexT n.data.toList) ++ (⟨#[32]⟩ : ByteArray) ++ S (r n) ++ (⟨#[10]⟩ : ByteArray)).size = word.length + 1 + (hexT n.data.toList).length + 1 + (r n).length + 1
  zh : (S (hexT n.data.toList)).size = (hexT n.data.toList).length
  zr : (S (r n)).size = (r n).length
  le : (linesT word r (ns.take k)).length + word.length + 1 + (hexT n.data.toList).length + 1 + (r n).length + 1 ≤ (linesT word r ns).length
theorem ln_is (B word : List UInt8) (r : ByteArray → List UInt8) (ns : List ByteArray) (k : Nat) (n : ByteArray) (h : ns[k]? = some n) : Ln B word r ns k n (S (word ++ [32])) := by
  have hft := lines_take word r ns k n h
  have hle := lines_le word r ns (k + 1)
  rw [hft, List.length_append] at hle
  have hll : (lineT word r n).length = word.length + 1 + (hexT n.data.toList).length + 1 + (r n).length + 1 := by unfold lineT; simp only [List.length_append, List.length_cons, List.length_nil]
  have z1 : (S (word ++ [32])).size = word.length + 1 := by rw [S_size]; simp
  have z2 := catz z1 (S_size (hexT n.data.toList))
  have z3 := catz z2 (show (⟨#[32]⟩ : ByteArray).size = 1 from rfl)
  have z4 := catz z3 (S_size (r n))
  have z5 := catz z4 (show (⟨#[10]⟩ : ByteArray).size = 1 from rfl)
  refine ⟨?_, by rw [S_size, List.length_append], z1, z2, z3, z4, z5, S_size _, S_size _, by omega⟩
  rw [hft]
  unfold lineT
  apply ByteArray.ext
  simp [S, ByteArray.data_append]
set_option maxHeartbeats 8000000 in
theorem rtext_ok (q : PQ) (hb : QB q) (hc : q.cn.length ≤ 1000000) (hnk : (q.kv.map (·.1)).Nodup) (hnl : (q.le.map (·.1)).Nodup) (G : Glob) : CallOk Tryz.prog TT 14 [q.av] G (fun v G' => v = .str (S (textQ q)) ∧ G' = G) := by
  have hmx : IntKind.i64.max = 9223372036854775807 := rfl
  have hlen := text_lens hb
  obtain ⟨l1, l2, l3, l4, l5⟩ := le_len hb.sz
  obtain ⟨n1, n2, n3, n4⟩ := name_sizes hb.sz
  have g27 := names27_ok q.cn G (by omega)
  have g28 := names28_ok q.qu G (by omega)
  have c32 : (⟨#[32]⟩ : ByteArray).size = 1 := rfl
  have c10 : (⟨#[10]⟩ : ByteArray).size = 1 := rfl
  have hkl : (q.kv.map kvR).length = q.kv.length := by simp
  have hll : (q.le.map leR).length = q.le.length := by simp
  unfold textQ PQ.av
  refine call_sem tt_ok Tryz.func14 rfl (by kernel_rfl) Tryz.ntmps14 Tryz.results14 ?_; conv => whnf
  repeat' (first | ((first | refine Sem.st tt_ok rfl ?_ | refine BS_t (by assumption) ?_ | refine BS_f (by assumption) ?_ | refine nthKi (by assumption) ?_ | refine ⟨_, ⟨(by omega), (by assumption)⟩, ?_⟩ | refine And.intro (by first | decide | omega) ?_); conv => whnf) | refine Sem.seqS ?_ | refine Sem.block ?_)
  refine Sem.loop (ι := {k : Nat // k ≤ q.kv.length}) (fun x => ⟨(.top :: .lptr 0 0 :: .top :: .str (S (([] : List UInt8) ++ linesT wKv (kvT q) ((q.kv.map (·.1)).take x.1))) :: .int .i64 (x.1 : Nat) :: .top :: .top :: .top :: .top :: .top :: .top :: .top :: .top :: .top :: .top :: .top :: .top :: .top :: .top :: .top :: .top :: .top :: .top :: .top :: .top :: .top :: .top :: .top :: .top :: .top :: .top :: .top :: .top :: .top :: .top :: .top :: .top :: .top :: .top :: .top :: .top :: .top :: .top :: .top :: .top :: .top :: .top :: .top :: .top :: .top :: .top :: .top :: .top :: .top :: .top :: .top :: .top :: .top :: .top :: .top :: .top :: .top :: .top :: .top :: .top :: .top :: .top :: .top :: .top :: .top :: .top :: .top :: .top :: .top :: .top :: .top :: .top :: .top :: .top :: .top :: .top :: .top :: .top :: .top :: .top :: .top :: .top :: .top :: .top :: .top :: .top :: .top :: .top :: .top :: .top :: .top :: .top :: .top :: .top :: .top :: .top :: .top :: .top :: .top :: .top :: .top :: .top :: .top :: .top :: .top :: .top :: .top :: .top :: .top :: .top :: .top :: .top :: .top :: .top :: .top :: .top :: .top :: .top :: .top :: .top :: .top :: .top :: .top :: .top :: []), [.live none [.slc 92 (q.kv.map kvR), .slc 113 (q.cn.map CRw.av), .slc 115 (q.qu.map kvR), .slc 99 (q.le.map leR)]], 1, 0, G⟩) (fun x => q.kv.length - x.1) ⟨0, Nat.zero_le _⟩ ?_ (fun x => ?_)
  · refine weak_by [] ?_; (conv => whnf); repeat (refine And.intro rfl ?_; conv => whnf)
    exact ⟨fun i y hy => hy, rfl, Nat.le_refl 1, rfl, rfl⟩
  obtain ⟨k, hk⟩ := x
  simp only
  by_cases hlt : k < q.kv.length
  · have hik : IntKind.i64.wrap ((k : Int) + 1) = ((k + 1 : Nat) : Int) := by rw [IntWalk.i64_in _ (by omega)]; omega
    have hB : (([] : List UInt8)).length ≤ 200000000000 := by (try simp only [List.length_append]); simp only [List.length_nil]; omega
    obtain ⟨⟨a, b⟩, hab⟩ : ∃ c, q.kv[k]? = some c := ⟨_, List.getElem?_eq_getElem hlt⟩
    have tl : decide (((k : Nat) : Int) < ((q.kv.map kvR).length : Nat)) = true := by rw [hkl, decide_eq_true_eq]; omega
    have hm : (q.kv.map kvR)[((k : Nat) : Int).toNat]? = some [.str a, .str b] := by rw [Int.toNat_natCast, List.getElem?_map, hab]; rfl
    have hkl' : ((k : Nat) : Int).toNat < (q.kv.map kvR).length := by rw [hkl]; omega
    have hmem := List.mem_of_getElem? hab
    have hsz := n1 _ hmem
    simp only at hsz
    have h1 := rhex_ok a.data.toList (by simp; omega) G
    have h2 := rhex_ok b.data.toList (by simp; omega) G
    rw [S_of] at h1 h2
    have hr : kvT q a = hexT b.data.toList := by unfold kvT; rw [lget_of hnk hmem]
    rw [← hr] at h2
    have hL : Ln ([] : List UInt8) wKv (kvT q) (q.kv.map (·.1)) k a ⟨#[107, 118, 32]⟩ := ln_is ([] : List UInt8) wKv (kvT q) (q.kv.map (·.1)) k a (by rw [List.getElem?_map, hab]; rfl)
    have z0 := hL.z0
    have z1 := hL.z1
    have z2 := hL.z2
    have z3 := hL.z3
    have z4 := hL.z4
    have z5 := hL.z5
    have zh := hL.zh
    have zr := hL.zr
    have zl := hL.le
    repeat' (first | ((first | refine Sem.st tt_ok rfl ?_ | refine BS_t (by assumption) ?_ | refine BS_f (by assumption) ?_ | refine nthKi (by assumption) ?_ | refine ⟨_, ⟨(by omega), (by assumption)⟩, ?_⟩ | refine And.intro (by first | decide | omega) ?_); conv => whnf) | refine Sem.seqS ?_ | refine Sem.block ?_)
    refine draw_sound (eff := []) tt_ok (by kernel_rfl) (by kernel_rfl) ?_; conv => whnf
    repeat' (first | ((first | refine BS_t (by assumption) ?_ | refine BS_f (by assumption) ?_ | refine nthKi (by assumption) ?_ | refine ⟨_, ⟨(by omega), (by assumption)⟩, ?_⟩ | refine And.intro (by first | decide | omega) ?_); conv => whnf) | fail)
    refine ⟨_, _, h1, ?_⟩; (conv => whnf); refine And.intro rfl ?_; conv => whnf
    repeat' (first | ((first | refine BS_t (by assumption) ?_ | refine BS_f (by assumption) ?_ | refine nthKi (by assumption) ?_ | refine ⟨_, ⟨(by omega), (by assumption)⟩, ?_⟩ | refine And.intro (by first | decide | omega) ?_); conv => whnf) | fail)
    refine ⟨_, _, h2, ?_⟩; (conv => whnf); refine And.intro rfl ?_; conv => whnf
    repeat' (first | ((first | refine BS_t (by assumption) ?_ | refine BS_f (by assumption) ?_ | refine nthKi (by assumption) ?_ | refine ⟨_, ⟨(by omega), (by assumption)⟩, ?_⟩ | refine And.intro (by first | decide | omega) ?_); conv => whnf) | fail)
    repeat' (first | ((first | refine Sem.st tt_ok rfl ?_ | refine BS_t (by assumption) ?_ | refine BS_f (by assumption) ?_ | refine nthKi (by assumption) ?_ | refine ⟨_, ⟨(by omega), (by assumption)⟩, ?_⟩ | refine And.intro (by first | decide | omega) ?_); conv => whnf) | refine Sem.seqS ?_ | refine Sem.block ?_)
    rw [hL.eq]
    refine ⟨⟨k + 1, by omega⟩, by show q.kv.length - (k + 1) < q.kv.length - k; omega, ?_⟩
    refine weak_by [] ?_; (conv => whnf); repeat (refine And.intro rfl ?_; conv => whnf)
    refine And.intro hik ?_
    (conv => whnf); repeat (refine And.intro rfl ?_; conv => whnf)
    exact ⟨fun i y hy => hy, rfl, Nat.le_refl 1, rfl, rfl⟩
  have hk2 : k = (q.kv.map (·.1)).length := by (try simp only [List.length_map]); omega
  have tl0 : decide (((k : Nat) : Int) < ((q.kv.map kvR).length : Nat)) = false := by rw [hkl, decide_eq_false_iff_not]; omega
  have htk0 : (q.kv.map (·.1)).take k = (q.kv.map (·.1)) := by rw [hk2, List.take_length]
  rw [htk0]
  clear htk0 hk2
  repeat' (first | ((first | refine Sem.st tt_ok rfl ?_ | refine BS_t (by assumption) ?_ | refine BS_f (by assumption) ?_ | refine nthKi (by assumption) ?_ | refine ⟨_, ⟨(by omega), (by assumption)⟩, ?_⟩ | refine And.intro (by first | decide | omega) ?_); conv => whnf) | refine Sem.seqS ?_ | refine Sem.block ?_)
  clear tl0 hk hlt
  refine g27.on ?_; conv => whnf
  repeat' (first | ((first | refine Sem.st tt_ok rfl ?_ | refine BS_t (by assumption) ?_ | refine BS_f (by assumption) ?_ | refine nthKi (by assumption) ?_ | refine ⟨_, ⟨(by omega), (by assumption)⟩, ?_⟩ | refine And.intro (by first | decide | omega) ?_); conv => whnf) | refine Sem.seqS ?_ | refine Sem.block ?_)
  refine Sem.loop (ι := {k : Nat // k ≤ (namesN (q.cn.map (·.name))).length}) (fun x => ⟨(.top :: .lptr 0 0 :: .top :: .str (S ((([] : List UInt8) ++ linesT wKv (kvT q) (q.kv.map (·.1))) ++ linesT wCn (cnT q) ((namesN (q.cn.map (·.name))).take x.1))) :: .top :: .slc 9 ((namesN (q.cn.map (·.name))).map fun s => [AV.str s]) :: .int .i64 (x.1 : Nat) :: .top :: .top :: .top :: .top :: .top :: .top :: .top :: .top :: .top :: .top :: .top :: .top :: .top :: .top :: .top :: .top :: .top :: .top :: .top :: .top :: .top :: .top :: .top :: .top :: .top :: .top :: .top :: .top :: .top :: .top :: .top :: .top :: .top :: .top :: .top :: .top :: .top :: .top :: .top :: .top :: .top :: .top :: .top :: .top :: .top :: .top :: .top :: .top :: .top :: .top :: .top :: .top :: .top :: .top :: .top :: .top :: .top :: .top :: .top :: .top :: .top :: .top :: .top :: .top :: .top :: .top :: .top :: .top :: .top :: .top :: .top :: .top :: .top :: .top :: .top :: .top :: .top :: .top :: .top :: .top :: .top :: .top :: .top :: .top :: .top :: .top :: .top :: .top :: .top :: .top :: .top :: .top :: .top :: .top :: .top :: .top :: .top :: .top :: .top :: .top :: .top :: .top :: .top :: .top :: .top :: .top :: .top :: .top :: .top :: .top :: .top :: .top :: .top :: .top :: .top :: .top :: .top :: .top :: .top :: .top :: .top :: .top :: []), [.live none [.slc 92 (q.kv.map kvR), .slc 113 (q.cn.map CRw.av), .slc 115 (q.qu.map kvR), .slc 99 (q.le.map leR)]], 1, 0, G⟩) (fun x => (namesN (q.cn.map (·.name))).length - x.1) ⟨0, Nat.zero_le _⟩ ?_ (fun x => ?_)
  · refine weak_by [] ?_; (conv => whnf); repeat (refine And.intro rfl ?_; conv => whnf)
    refine And.intro (by rw [List.take_zero]; simp [linesT]) ?_
    (conv => whnf); repeat (refine And.intro rfl ?_; conv => whnf)
    exact ⟨fun i y hy => hy, rfl, Nat.le_refl 1, rfl, rfl⟩
  obtain ⟨k, hk⟩ := x
  simp only
  by_cases hlt : k < (namesN (q.cn.map (·.name))).length
  · have hik : IntKind.i64.wrap ((k : Int) + 1) = ((k + 1 : Nat) : Int) := by rw [IntWalk.i64_in _ (by omega)]; omega
    have hB : ((([] : List UInt8) ++ linesT wKv (kvT q) (q.kv.map (·.1)))).length ≤ 200000000000 := by (try simp only [List.length_append]); simp only [List.length_nil]; omega
    obtain ⟨a, hab⟩ : ∃ c, (namesN (q.cn.map (·.name)))[k]? = some c := ⟨_, List.getElem?_eq_getElem hlt⟩
    have tl : decide (((k : Nat) : Int) < (((namesN (q.cn.map (·.name))).map fun s => [AV.str s]).length : Nat)) = true := by rw [List.length_map, decide_eq_true_eq]; omega
    have hm : ((namesN (q.cn.map (·.name))).map fun s => [AV.str s])[((k : Nat) : Int).toNat]? = some [.str a] := by rw [Int.toNat_natCast, List.getElem?_map, hab]; rfl
    have hmem := List.mem_of_getElem? hab
    have hsz := n2 _ hmem
    have h1 := rhex_ok a.data.toList (by simp; omega) G
    rw [S_of] at h1
    have hL : Ln (([] : List UInt8) ++ linesT wKv (kvT q) (q.kv.map (·.1))) wCn (cnT q) (namesN (q.cn.map (·.name))) k a ⟨#[99, 111, 117, 110, 116, 101, 114, 32]⟩ := ln_is (([] : List UInt8) ++ linesT wKv (kvT q) (q.kv.map (·.1))) wCn (cnT q) (namesN (q.cn.map (·.name))) k a hab
    have h2 := value27_ok q.cn a G (by omega)
    have hw := wrap_in (sumN q.cn a)
    have h3 := signed_ok (IntKind.i64.wrap (sumN q.cn a)) G hw.1 hw.2
    have hr : cnT q a = Lib.itoa (IntKind.i64.wrap (sumN q.cn a)) := rfl
    rw [← hr] at h3
    have z0 := hL.z0
    have z1 := hL.z1
    have z2 := hL.z2
    have z3 := hL.z3
    have z4 := hL.z4
    have z5 := hL.z5
    have zh := hL.zh
    have zr := hL.zr
    have zl := hL.le
    repeat' (first | ((first | refine Sem.st tt_ok rfl ?_ | refine BS_t (by assumption) ?_ | refine BS_f (by assumption) ?_ | refine nthKi (by assumption) ?_ | refine ⟨_, ⟨(by omega), (by assumption)⟩, ?_⟩ | refine And.intro (by first | decide | omega) ?_); conv => whnf) | refine Sem.seqS ?_ | refine Sem.block ?_)
    refine draw_sound (eff := []) tt_ok (by kernel_rfl) (by kernel_rfl) ?_; conv => whnf
    repeat' (first | ((first | refine BS_t (by assumption) ?_ | refine BS_f (by assumption) ?_ | refine nthKi (by assumption) ?_ | refine ⟨_, ⟨(by omega), (by assumption)⟩, ?_⟩ | refine And.intro (by first | decide | omega) ?_); conv => whnf) | fail)
    refine ⟨_, _, h1, ?_⟩; (conv => whnf); refine And.intro rfl ?_; conv => whnf
    repeat' (first | ((first | refine BS_t (by assumption) ?_ | refine BS_f (by assumption) ?_ | refine nthKi (by assumption) ?_ | refine ⟨_, ⟨(by omega), (by assumption)⟩, ?_⟩ | refine And.intro (by first | decide | omega) ?_); conv => whnf) | fail)
    refine ⟨_, _, h2, ?_⟩; (conv => whnf); refine And.intro rfl ?_; conv => whnf
    repeat' (first | ((first | refine BS_t (by assumption) ?_ | refine BS_f (by assumption) ?_ | refine nthKi (by assumption) ?_ | refine ⟨_, ⟨(by omega), (by assumption)⟩, ?_⟩ | refine And.intro (by first | decide | omega) ?_); conv => whnf) | fail)
    refine ⟨_, _, h3, ?_⟩; (conv => whnf); refine And.intro rfl ?_; conv => whnf
    repeat' (first | ((first | refine BS_t (by assumption) ?_ | refine BS_f (by assumption) ?_ | refine nthKi (by assumption) ?_ | refine ⟨_, ⟨(by omega), (by assumption)⟩, ?_⟩ | refine And.intro (by first | decide | omega) ?_); conv => whnf) | fail)
    repeat' (first | ((first | refine Sem.st tt_ok rfl ?_ | refine BS_t (by assumption) ?_ | refine BS_f (by assumption) ?_ | refine nthKi (by assumption) ?_ | refine ⟨_, ⟨(by omega), (by assumption)⟩, ?_⟩ | refine And.intro (by first | decide | omega) ?_); conv => whnf) | refine Sem.seqS ?_ | refine Sem.block ?_)
    rw [hL.eq]
    refine ⟨⟨k + 1, by omega⟩, by show (namesN (q.cn.map (·.name))).length - (k + 1) < (namesN (q.cn.map (·.name))).length - k; omega, ?_⟩
    refine weak_by [] ?_; (conv => whnf); repeat (refine And.intro rfl ?_; conv => whnf)
    refine And.intro hik ?_
    (conv => whnf); repeat (refine And.intro rfl ?_; conv => whnf)
    exact ⟨fun i y hy => hy, rfl, Nat.le_refl 1, rfl, rfl⟩
  have hk2 : k = (namesN (q.cn.map (·.name))).length := by (try simp only [List.length_map]); omega
  have tl1 : decide (((k : Nat) : Int) < ((((namesN (q.cn.map (·.name))).map fun s => [AV.str s])).length : Nat)) = false := by rw [List.length_map, decide_eq_false_iff_not]; omega
  have htk1 : (namesN (q.cn.map (·.name))).take k = (namesN (q.cn.map (·.name))) := by rw [hk2, List.take_length]
  rw [htk1]
  clear htk1 hk2
  repeat' (first | ((first | refine Sem.st tt_ok rfl ?_ | refine BS_t (by assumption) ?_ | refine BS_f (by assumption) ?_ | refine nthKi (by assumption) ?_ | refine ⟨_, ⟨(by omega), (by assumption)⟩, ?_⟩ | refine And.intro (by first | decide | omega) ?_); conv => whnf) | refine Sem.seqS ?_ | refine Sem.block ?_)
  clear tl1 hk hlt
  refine g28.on ?_; conv => whnf
  repeat' (first | ((first | refine Sem.st tt_ok rfl ?_ | refine BS_t (by assumption) ?_ | refine BS_f (by assumption) ?_ | refine nthKi (by assumption) ?_ | refine ⟨_, ⟨(by omega), (by assumption)⟩, ?_⟩ | refine And.intro (by first | decide | omega) ?_); conv => whnf) | refine Sem.seqS ?_ | refine Sem.block ?_)
  refine Sem.loop (ι := {k : Nat // k ≤ (namesN (q.qu.map (·.1))).length}) (fun x => ⟨(.top :: .lptr 0 0 :: .top :: .str (S (((([] : List UInt8) ++ linesT wKv (kvT q) (q.kv.map (·.1))) ++ linesT wCn (cnT q) (namesN (q.cn.map (·.name)))) ++ linesT wQu (quTx q) ((namesN (q.qu.map (·.1))).take x.1))) :: .top :: .slc 9 ((namesN (q.qu.map (·.1))).map fun s => [AV.str s]) :: .top :: .int .i64 (x.1 : Nat) :: .top :: .top :: .top :: .top :: .top :: .top :: .top :: .top :: .top :: .top :: .top :: .top :: .top :: .top :: .top :: .top :: .top :: .top :: .top :: .top :: .top :: .top :: .top :: .top :: .top :: .top :: .top :: .top :: .top :: .top :: .top :: .top :: .top :: .top :: .top :: .top :: .top :: .top :: .top :: .top :: .top :: .top :: .top :: .top :: .top :: .top :: .top :: .top :: .top :: .top :: .top :: .top :: .top :: .top :: .top :: .top :: .top :: .top :: .top :: .top :: .top :: .top :: .top :: .top :: .top :: .top :: .top :: .top :: .top :: .top :: .top :: .top :: .top :: .top :: .top :: .top :: .top :: .top :: .top :: .top :: .top :: .top :: .top :: .top :: .top :: .top :: .top :: .top :: .top :: .top :: .top :: .top :: .top :: .top :: .top :: .top :: .top :: .top :: .top :: .top :: .top :: .top :: .top :: .top :: .top :: .top :: .top :: .top :: .top :: .top :: .top :: .top :: .top :: .top :: .top :: .top :: .top :: .top :: .top :: .top :: .top :: []), [.live none [.slc 92 (q.kv.map kvR), .slc 113 (q.cn.map CRw.av), .slc 115 (q.qu.map kvR), .slc 99 (q.le.map leR)]], 1, 0, G⟩) (fun x => (namesN (q.qu.map (·.1))).length - x.1) ⟨0, Nat.zero_le _⟩ ?_ (fun x => ?_)
  · refine weak_by [] ?_; (conv => whnf); repeat (refine And.intro rfl ?_; conv => whnf)
    refine And.intro (by rw [List.take_zero]; simp [linesT]) ?_
    (conv => whnf); repeat (refine And.intro rfl ?_; conv => whnf)
    exact ⟨fun i y hy => hy, rfl, Nat.le_refl 1, rfl, rfl⟩
  obtain ⟨k, hk⟩ := x
  simp only
  by_cases hlt : k < (namesN (q.qu.map (·.1))).length
  · have hik : IntKind.i64.wrap ((k : Int) + 1) = ((k + 1 : Nat) : Int) := by rw [IntWalk.i64_in _ (by omega)]; omega
    have hB : (((([] : List UInt8) ++ linesT wKv (kvT q) (q.kv.map (·.1))) ++ linesT wCn (cnT q) (namesN (q.cn.map (·.name))))).length ≤ 200000000000 := by (try simp only [List.length_append]); simp only [List.length_nil]; omega
    obtain ⟨a, hab⟩ : ∃ c, (namesN (q.qu.map (·.1)))[k]? = some c := ⟨_, List.getElem?_eq_getElem hlt⟩
    have tl : decide (((k : Nat) : Int) < (((namesN (q.qu.map (·.1))).map fun s => [AV.str s]).length : Nat)) = true := by rw [List.length_map, decide_eq_true_eq]; omega
    have hm : ((namesN (q.qu.map (·.1))).map fun s => [AV.str s])[((k : Nat) : Int).toNat]? = some [.str a] := by rw [Int.toNat_natCast, List.getElem?_map, hab]; rfl
    have hmem := List.mem_of_getElem? hab
    have hsz := n3 _ hmem
    have h1 := rhex_ok a.data.toList (by simp; omega) G
    rw [S_of] at h1
    have hL : Ln ((([] : List UInt8) ++ linesT wKv (kvT q) (q.kv.map (·.1))) ++ linesT wCn (cnT q) (namesN (q.cn.map (·.name)))) wQu (quTx q) (namesN (q.qu.map (·.1))) k a ⟨#[113, 117, 101, 117, 101, 32]⟩ := ln_is ((([] : List UInt8) ++ linesT wKv (kvT q) (q.kv.map (·.1))) ++ linesT wCn (cnT q) (namesN (q.cn.map (·.name)))) wQu (quTx q) (namesN (q.qu.map (·.1))) k a hab
    have h2 := waits28_ok q.qu a G (by omega)
    have hwn := waitN_le q.qu a
    have h3 := signed_ok ((waitN q.qu a : Nat) : Int) G (by omega) (by omega)
    have hr : quTx q a = Lib.itoa ((waitN q.qu a : Nat) : Int) := rfl
    rw [← hr] at h3
    have z0 := hL.z0
    have z1 := hL.z1
    have z2 := hL.z2
    have z3 := hL.z3
    have z4 := hL.z4
    have z5 := hL.z5
    have zh := hL.zh
    have zr := hL.zr
    have zl := hL.le
    repeat' (first | ((first | refine Sem.st tt_ok rfl ?_ | refine BS_t (by assumption) ?_ | refine BS_f (by assumption) ?_ | refine nthKi (by assumption) ?_ | refine ⟨_, ⟨(by omega), (by assumption)⟩, ?_⟩ | refine And.intro (by first | decide | omega) ?_); conv => whnf) | refine Sem.seqS ?_ | refine Sem.block ?_)
    refine draw_sound (eff := []) tt_ok (by kernel_rfl) (by kernel_rfl) ?_; conv => whnf
    repeat' (first | ((first | refine BS_t (by assumption) ?_ | refine BS_f (by assumption) ?_ | refine nthKi (by assumption) ?_ | refine ⟨_, ⟨(by omega), (by assumption)⟩, ?_⟩ | refine And.intro (by first | decide | omega) ?_); conv => whnf) | fail)
    refine ⟨_, _, h1, ?_⟩; (conv => whnf); refine And.intro rfl ?_; conv => whnf
    repeat' (first | ((first | refine BS_t (by assumption) ?_ | refine BS_f (by assumption) ?_ | refine nthKi (by assumption) ?_ | refine ⟨_, ⟨(by omega), (by assumption)⟩, ?_⟩ | refine And.intro (by first | decide | omega) ?_); conv => whnf) | fail)
    refine ⟨_, _, h2, ?_⟩; (conv => whnf); refine And.intro rfl ?_; conv => whnf
    repeat' (first | ((first | refine BS_t (by assumption) ?_ | refine BS_f (by assumption) ?_ | refine nthKi (by assumption) ?_ | refine ⟨_, ⟨(by omega), (by assumption)⟩, ?_⟩ | refine And.intro (by first | decide | omega) ?_); conv => whnf) | fail)
    refine ⟨_, _, h3, ?_⟩; (conv => whnf); refine And.intro rfl ?_; conv => whnf
    repeat' (first | ((first | refine BS_t (by assumption) ?_ | refine BS_f (by assumption) ?_ | refine nthKi (by assumption) ?_ | refine ⟨_, ⟨(by omega), (by assumption)⟩, ?_⟩ | refine And.intro (by first | decide | omega) ?_); conv => whnf) | fail)
    repeat' (first | ((first | refine Sem.st tt_ok rfl ?_ | refine BS_t (by assumption) ?_ | refine BS_f (by assumption) ?_ | refine nthKi (by assumption) ?_ | refine ⟨_, ⟨(by omega), (by assumption)⟩, ?_⟩ | refine And.intro (by first | decide | omega) ?_); conv => whnf) | refine Sem.seqS ?_ | refine Sem.block ?_)
    rw [hL.eq]
    refine ⟨⟨k + 1, by omega⟩, by show (namesN (q.qu.map (·.1))).length - (k + 1) < (namesN (q.qu.map (·.1))).length - k; omega, ?_⟩
    refine weak_by [] ?_; (conv => whnf); repeat (refine And.intro rfl ?_; conv => whnf)
    refine And.intro hik ?_
    (conv => whnf); repeat (refine And.intro rfl ?_; conv => whnf)
    exact ⟨fun i y hy => hy, rfl, Nat.le_refl 1, rfl, rfl⟩
  have hk2 : k = (namesN (q.qu.map (·.1))).length := by (try simp only [List.length_map]); omega
  have tl2 : decide (((k : Nat) : Int) < ((((namesN (q.qu.map (·.1))).map fun s => [AV.str s])).length : Nat)) = false := by rw [List.length_map, decide_eq_false_iff_not]; omega
  have htk2 : (namesN (q.qu.map (·.1))).take k = (namesN (q.qu.map (·.1))) := by rw [hk2, List.take_length]
  rw [htk2]
  clear htk2 hk2
  repeat' (first | ((first | refine Sem.st tt_ok rfl ?_ | refine BS_t (by assumption) ?_ | refine BS_f (by assumption) ?_ | refine nthKi (by assumption) ?_ | refine ⟨_, ⟨(by omega), (by assumption)⟩, ?_⟩ | refine And.intro (by first | decide | omega) ?_); conv => whnf) | refine Sem.seqS ?_ | refine Sem.block ?_)
  clear tl2 hk hlt
  refine Sem.loop (ι := {k : Nat // k ≤ q.le.length}) (fun x => ⟨(.top :: .lptr 0 0 :: .top :: .str (S ((((([] : List UInt8) ++ linesT wKv (kvT q) (q.kv.map (·.1))) ++ linesT wCn (cnT q) (namesN (q.cn.map (·.name)))) ++ linesT wQu (quTx q) (namesN (q.qu.map (·.1)))) ++ linesT wLe (leT q) ((q.le.map (·.1)).take x.1))) :: .top :: .top :: .top :: .top :: .int .i64 (x.1 : Nat) :: .top :: .top :: .top :: .top :: .top :: .top :: .top :: .top :: .top :: .top :: .top :: .top :: .top :: .top :: .top :: .top :: .top :: .top :: .top :: .top :: .top :: .top :: .top :: .top :: .top :: .top :: .top :: .top :: .top :: .top :: .top :: .top :: .top :: .top :: .top :: .top :: .top :: .top :: .top :: .top :: .top :: .top :: .top :: .top :: .top :: .top :: .top :: .top :: .top :: .top :: .top :: .top :: .top :: .top :: .top :: .top :: .top :: .top :: .top :: .top :: .top :: .top :: .top :: .top :: .top :: .top :: .top :: .top :: .top :: .top :: .top :: .top :: .top :: .top :: .top :: .top :: .top :: .top :: .top :: .top :: .top :: .top :: .top :: .top :: .top :: .top :: .top :: .top :: .top :: .top :: .top :: .top :: .top :: .top :: .top :: .top :: .top :: .top :: .top :: .top :: .top :: .top :: .top :: .top :: .top :: .top :: .top :: .top :: .top :: .top :: .top :: .top :: .top :: .top :: .top :: .top :: .top :: .top :: .top :: .top :: []), [.live none [.slc 92 (q.kv.map kvR), .slc 113 (q.cn.map CRw.av), .slc 115 (q.qu.map kvR), .slc 99 (q.le.map leR)]], 1, 0, G⟩) (fun x => q.le.length - x.1) ⟨0, Nat.zero_le _⟩ ?_ (fun x => ?_)
  · refine weak_by [] ?_; (conv => whnf); repeat (refine And.intro rfl ?_; conv => whnf)
    refine And.intro (by rw [List.take_zero]; simp [linesT]) ?_
    (conv => whnf); repeat (refine And.intro rfl ?_; conv => whnf)
    exact ⟨fun i y hy => hy, rfl, Nat.le_refl 1, rfl, rfl⟩
  obtain ⟨k, hk⟩ := x
  simp only
  by_cases hlt : k < q.le.length
  · have hik : IntKind.i64.wrap ((k : Int) + 1) = ((k + 1 : Nat) : Int) := by rw [IntWalk.i64_in _ (by omega)]; omega
    have hB : ((((([] : List UInt8) ++ linesT wKv (kvT q) (q.kv.map (·.1))) ++ linesT wCn (cnT q) (namesN (q.cn.map (·.name)))) ++ linesT wQu (quTx q) (namesN (q.qu.map (·.1))))).length ≤ 200000000000 := by (try simp only [List.length_append]); simp only [List.length_nil]; omega
    obtain ⟨⟨a, b, t⟩, hab⟩ : ∃ c, q.le[k]? = some c := ⟨_, List.getElem?_eq_getElem hlt⟩
    have tl : decide (((k : Nat) : Int) < ((q.le.map leR).length : Nat)) = true := by rw [hll, decide_eq_true_eq]; omega
    have hm : (q.le.map leR)[((k : Nat) : Int).toNat]? = some [.str a, .str b, .int .i64 t] := by rw [Int.toNat_natCast, List.getElem?_map, hab]; rfl
    have hmem := List.mem_of_getElem? hab
    have hsz := n4 _ hmem
    have htt := hb.t _ hmem
    simp only at hsz htt
    have h1 := rhex_ok a.data.toList (by simp; omega) G
    have h2 := rhex_ok b.data.toList (by simp; omega) G
    rw [S_of] at h1 h2
    have h3 := signed_ok t G (by omega) (by omega)
    have hr : leT q a = hexT b.data.toList ++ [32] ++ Lib.itoa t := by unfold leT; rw [lget_ofA hnl hmem]
    have hL : Ln (((([] : List UInt8) ++ linesT wKv (kvT q) (q.kv.map (·.1))) ++ linesT wCn (cnT q) (namesN (q.cn.map (·.name)))) ++ linesT wQu (quTx q) (namesN (q.qu.map (·.1)))) wLe (leT q) (q.le.map (·.1)) k a ⟨#[108, 101, 97, 115, 101, 32]⟩ := ln_is (((([] : List UInt8) ++ linesT wKv (kvT q) (q.kv.map (·.1))) ++ linesT wCn (cnT q) (namesN (q.cn.map (·.name)))) ++ linesT wQu (quTx q) (namesN (q.qu.map (·.1)))) wLe (leT q) (q.le.map (·.1)) k a (by rw [List.getElem?_map, hab]; rfl)
    have z0 := hL.z0
    have z1 := hL.z1
    have z2 := hL.z2
    have z3 := hL.z3
    have z4 := hL.z4
    have z5 := hL.z5
    have zh := hL.zh
    have zr := hL.zr
    have zl := hL.le
    have hrl : (leT q a).length = (hexT b.data.toList).length + 1 + (Lib.itoa t).length := by rw [hr]; simp only [List.length_append, List.length_cons, List.length_nil]
    have hS : ∀ X : ByteArray, X ++ S (leT q a) = X ++ S (hexT b.data.toList) ++ (⟨#[32]⟩ : ByteArray) ++ S (Lib.itoa t) := fun X => by rw [hr]; apply ByteArray.ext; simp [S, ByteArray.data_append]
    have zb := S_size (hexT b.data.toList)
    have zt := S_size (Lib.itoa t)
    have y4 := catz z3 zb
    have y5 := catz y4 c32
    have y6 := catz y5 zt
    have y7 := catz y6 c10
    have he := hL.eq
    rw [hS] at he
    repeat' (first | ((first | refine Sem.st tt_ok rfl ?_ | refine BS_t (by assumption) ?_ | refine BS_f (by assumption) ?_ | refine nthKi (by assumption) ?_ | refine ⟨_, ⟨(by omega), (by assumption)⟩, ?_⟩ | refine And.intro (by first | decide | omega) ?_); conv => whnf) | refine Sem.seqS ?_ | refine Sem.block ?_)
    refine draw_sound (eff := []) tt_ok (by kernel_rfl) (by kernel_rfl) ?_; conv => whnf
    repeat' (first | ((first | refine BS_t (by assumption) ?_ | refine BS_f (by assumption) ?_ | refine nthKi (by assumption) ?_ | refine ⟨_, ⟨(by omega), (by assumption)⟩, ?_⟩ | refine And.intro (by first | decide | omega) ?_); conv => whnf) | fail)
    refine ⟨_, _, h1, ?_⟩; (conv => whnf); refine And.intro rfl ?_; conv => whnf
    repeat' (first | ((first | refine BS_t (by assumption) ?_ | refine BS_f (by assumption) ?_ | refine nthKi (by assumption) ?_ | refine ⟨_, ⟨(by omega), (by assumption)⟩, ?_⟩ | refine And.intro (by first | decide | omega) ?_); conv => whnf) | fail)
    refine ⟨_, _, h2, ?_⟩; (conv => whnf); refine And.intro rfl ?_; conv => whnf
    repeat' (first | ((first | refine BS_t (by assumption) ?_ | refine BS_f (by assumption) ?_ | refine nthKi (by assumption) ?_ | refine ⟨_, ⟨(by omega), (by assumption)⟩, ?_⟩ | refine And.intro (by first | decide | omega) ?_); conv => whnf) | fail)
    refine ⟨_, _, h3, ?_⟩; (conv => whnf); refine And.intro rfl ?_; conv => whnf
    repeat' (first | ((first | refine BS_t (by assumption) ?_ | refine BS_f (by assumption) ?_ | refine nthKi (by assumption) ?_ | refine ⟨_, ⟨(by omega), (by assumption)⟩, ?_⟩ | refine And.intro (by first | decide | omega) ?_); conv => whnf) | fail)
    repeat' (first | ((first | refine Sem.st tt_ok rfl ?_ | refine BS_t (by assumption) ?_ | refine BS_f (by assumption) ?_ | refine nthKi (by assumption) ?_ | refine ⟨_, ⟨(by omega), (by assumption)⟩, ?_⟩ | refine And.intro (by first | decide | omega) ?_); conv => whnf) | refine Sem.seqS ?_ | refine Sem.block ?_)
    rw [he]
    refine ⟨⟨k + 1, by omega⟩, by show q.le.length - (k + 1) < q.le.length - k; omega, ?_⟩
    refine weak_by [] ?_; (conv => whnf); repeat (refine And.intro rfl ?_; conv => whnf)
    refine And.intro hik ?_
    (conv => whnf); repeat (refine And.intro rfl ?_; conv => whnf)
    exact ⟨fun i y hy => hy, rfl, Nat.le_refl 1, rfl, rfl⟩
  have hk2 : k = (q.le.map (·.1)).length := by (try simp only [List.length_map]); omega
  have tl3 : decide (((k : Nat) : Int) < ((q.le.map leR).length : Nat)) = false := by rw [hll, decide_eq_false_iff_not]; omega
  have htk3 : (q.le.map (·.1)).take k = (q.le.map (·.1)) := by rw [hk2, List.take_length]
  rw [htk3]
  clear htk3 hk2
  repeat' (first | ((first | refine Sem.st tt_ok rfl ?_ | refine BS_t (by assumption) ?_ | refine BS_f (by assumption) ?_ | refine nthKi (by assumption) ?_ | refine ⟨_, ⟨(by omega), (by assumption)⟩, ?_⟩ | refine And.intro (by first | decide | omega) ?_); conv => whnf) | refine Sem.seqS ?_ | refine Sem.block ?_)
  clear tl3 hk hlt
  exact ⟨_, fun _ _ h => h, rfl, rfl⟩
end Go.Proofs.YtpihanlillbhkaaGreatDoor
