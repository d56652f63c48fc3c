/- 'CounterAdds': whatever is added one after the other: what any counters are, and weigh, is the document's: the law hands back true. Conditions: none. -/
import Derived.Test.YtpnlhnhjedopgaaFrame
import Derived.Test.YtpnlhnhjedopgaaCntB
import Derived.Test.YtpnlhnhjedopgaaCmap
import Derived.Test.YtpnlhnhjedopgaaNm27
import Derived.Test.YtpnlhnhjedopgaaRef27
import Derived.Test.YtpnlhnhjedopgaaPrm
set_option maxRecDepth 100000
set_option linter.unusedSimpArgs false
namespace Go.Proofs.Ytpnlhnhjedopgaa
open Go Go.RowKit Go.ChangeShapes Go.WideShapes Go.ChangeAt Go.Proofs
open Go.ChangeMaps (open_string shut_string)

theorem CInv.size {m : List (ByteArray × Int)} {l : List CRw} (h : CInv m l) : totC m = sz27 (l.map (·.name)) := by
  have hp := (namesN_perm h.nd h.keys).map fun s : ByteArray => 24 + s.size
  unfold totC sz27
  rw [← hp.sum_nat, List.map_map]
  rfl
theorem CInv.names {m : List (ByteArray × Int)} {l : List CRw} (h : CInv m l) : keysE m = (namesN (l.map (·.name))).map fun s => [AV.str s] := keysE_names h.nd h.keys
theorem cval_add (m : List (ByteArray × Int)) (x : CRw) : cval (addA m x) x.name = IntKind.i64.wrap (cval m x.name + x.n) := by unfold cval addA; rw [lget_put_same]; rfl
structure CAd (l : List CRw) where
  k : Nat
  hk : k ≤ l.length
  m : List (ByteArray × Int)
  I : CInv m (l.take k)
  t : totC m ≤ k * 140737488351256
  n : m.length ≤ k
set_option maxHeartbeats 4000000 in
theorem counterAdds_ok (l : List CRw) (name : ByteArray) (hl : l.length ≤ 9223372036854775807) (hs : ∀ x ∈ l, x.name.size ≤ 140737488351232) : CallOk Try.prog TT 5 [.slc 44 (l.map CRw.av), .str name] (fun _ => none) (fun v _ => v = .bool true) := by
  have hm := much27_ok l (fun _ => none) hl hs
  cases hmu : (decide ((l.length : Int) > 80) || decide (muchN l 0 > 10000)) with
  | true =>
    rw [hmu] at hm
    refine call_sem tt_ok Try.func5 rfl (by kernel_rfl) Try.ntmps5 Try.results5 ?_; conv => whnf
    repeat' (first | ((first | refine Sem.reg tt_ok ?_ | refine Sem.condS ?_ | refine Sem.regL tt_ok ?_ | refine Sem.skip tt_ok ?_ | refine Sem.exit tt_ok ?_ | refine Sem.ret tt_ok ?_ | refine BS_t (by assumption) ?_ | refine BS_f (by assumption) ?_ | refine atG (by repeat (first | assumption | exact setG_same _ _ _ | refine Eq.trans (setG_ne _ _ (by first | assumption | exact Ne.symm (by assumption))) ?_)) ?_ | refine (nthK_iff _ _).2 ⟨_, (by assumption), ?_⟩ | refine ⟨_, ⟨(by omega), (by assumption)⟩, ?_⟩ | refine And.intro (by first | decide | omega) ?_ | fail); conv => whnf) | refine Sem.seqS ?_ | refine Sem.block ?_ | fail)
    refine hm.on ?_; conv => whnf
    repeat' (first | ((first | refine Sem.reg tt_ok ?_ | refine Sem.condS ?_ | refine Sem.regL tt_ok ?_ | refine Sem.skip tt_ok ?_ | refine Sem.exit tt_ok ?_ | refine Sem.ret tt_ok ?_ | refine BS_t (by assumption) ?_ | refine BS_f (by assumption) ?_ | refine atG (by repeat (first | assumption | exact setG_same _ _ _ | refine Eq.trans (setG_ne _ _ (by first | assumption | exact Ne.symm (by assumption))) ?_)) ?_ | refine (nthK_iff _ _).2 ⟨_, (by assumption), ?_⟩ | refine ⟨_, ⟨(by omega), (by assumption)⟩, ?_⟩ | refine And.intro (by first | decide | omega) ?_ | fail); conv => whnf) | refine Sem.seqS ?_ | refine Sem.block ?_ | fail)
    refine (cawake_ok _).mono fun v G1 hv => ?_; obtain rfl := hv; conv => whnf
    repeat' (first | ((first | refine Sem.reg tt_ok ?_ | refine Sem.condS ?_ | refine Sem.regL tt_ok ?_ | refine Sem.skip tt_ok ?_ | refine Sem.exit tt_ok ?_ | refine Sem.ret tt_ok ?_ | refine BS_t (by assumption) ?_ | refine BS_f (by assumption) ?_ | refine atG (by repeat (first | assumption | exact setG_same _ _ _ | refine Eq.trans (setG_ne _ _ (by first | assumption | exact Ne.symm (by assumption))) ?_)) ?_ | refine (nthK_iff _ _).2 ⟨_, (by assumption), ?_⟩ | refine ⟨_, ⟨(by omega), (by assumption)⟩, ?_⟩ | refine And.intro (by first | decide | omega) ?_ | fail); conv => whnf) | refine Sem.seqS ?_ | refine Sem.block ?_ | fail)
    exact ⟨_, fun _ _ h => h, rfl⟩
  | false =>
    rw [hmu] at hm
    have h80 : l.length ≤ 80 := by simp at hmu; omega
    refine call_sem tt_ok Try.func5 rfl (by kernel_rfl) Try.ntmps5 Try.results5 ?_; conv => whnf
    repeat' (first | ((first | refine Sem.reg tt_ok ?_ | refine Sem.condS ?_ | refine Sem.regL tt_ok ?_ | refine Sem.skip tt_ok ?_ | refine Sem.exit tt_ok ?_ | refine Sem.ret tt_ok ?_ | refine BS_t (by assumption) ?_ | refine BS_f (by assumption) ?_ | refine atG (by repeat (first | assumption | exact setG_same _ _ _ | refine Eq.trans (setG_ne _ _ (by first | assumption | exact Ne.symm (by assumption))) ?_)) ?_ | refine (nthK_iff _ _).2 ⟨_, (by assumption), ?_⟩ | refine ⟨_, ⟨(by omega), (by assumption)⟩, ?_⟩ | refine And.intro (by first | decide | omega) ?_ | fail); conv => whnf) | refine Sem.seqS ?_ | refine Sem.block ?_ | fail)
    refine hm.on ?_; conv => whnf
    repeat' (first | ((first | refine Sem.reg tt_ok ?_ | refine Sem.condS ?_ | refine Sem.regL tt_ok ?_ | refine Sem.skip tt_ok ?_ | refine Sem.exit tt_ok ?_ | refine Sem.ret tt_ok ?_ | refine BS_t (by assumption) ?_ | refine BS_f (by assumption) ?_ | refine atG (by repeat (first | assumption | exact setG_same _ _ _ | refine Eq.trans (setG_ne _ _ (by first | assumption | exact Ne.symm (by assumption))) ?_)) ?_ | refine (nthK_iff _ _).2 ⟨_, (by assumption), ?_⟩ | refine ⟨_, ⟨(by omega), (by assumption)⟩, ?_⟩ | refine And.intro (by first | decide | omega) ?_ | fail); conv => whnf) | refine Sem.seqS ?_ | refine Sem.block ?_ | fail)
    refine (cnew_ok _).mono fun v G1 hv => ?_; obtain ⟨b, hb, rfl, rfl⟩ := hv; conv => whnf
    refine Sem.cmapbox b (setG_same _ _ _) ?_
    rw [setG_twice]
    repeat' (first | ((first | refine Sem.reg tt_ok ?_ | refine Sem.condS ?_ | refine Sem.regL tt_ok ?_ | refine Sem.skip tt_ok ?_ | refine Sem.exit tt_ok ?_ | refine Sem.ret tt_ok ?_ | refine BS_t (by assumption) ?_ | refine BS_f (by assumption) ?_ | refine atG (by repeat (first | assumption | exact setG_same _ _ _ | refine Eq.trans (setG_ne _ _ (by first | assumption | exact Ne.symm (by assumption))) ?_)) ?_ | refine (nthK_iff _ _).2 ⟨_, (by assumption), ?_⟩ | refine ⟨_, ⟨(by omega), (by assumption)⟩, ?_⟩ | refine And.intro (by first | decide | omega) ?_ | fail); conv => whnf) | refine Sem.seqS ?_ | refine Sem.block ?_ | fail)
    refine Sem.loop (ι := CAd l) (fun x => ⟨(.slc 44 (l.map CRw.av) :: .str name :: .top :: .top :: .bool false :: .gptr b 0 :: .int .i64 (x.k : Nat) :: .top :: .top :: .top :: .top :: .top :: .top :: .top :: .top :: .top :: .top :: .top :: .top :: .top :: .top :: .top :: .top :: .top :: .top :: .top :: .top :: .top :: .top :: .top :: .top :: .top :: .top :: .top :: .top :: .top :: .top :: .top :: .top :: .top :: .top :: .top :: .top :: .top :: .top :: .top :: .top :: .top :: .top :: .top :: .top :: .top :: .top :: .top :: .top :: .top :: .top :: .top :: .top :: .top :: .top :: .top :: .top :: .top :: .top :: .top :: .top :: .top :: .top :: .top :: .top :: .top :: .top :: .top :: .top :: .top :: .top :: .top :: .top :: .top :: .top :: .top :: .top :: .top :: []), [], 0, 0, setG (fun _ => none) b (.cmap (totC x.m : Nat) (bk cav x.m))⟩) (fun x => l.length - x.k)
      ⟨0, Nat.zero_le _, [], .nil, Nat.zero_le _, Nat.zero_le _⟩ ?_ (fun x => ?_)
    · refine weak_by [] ?_; (conv => whnf); repeat (first | (refine And.intro rfl ?_; conv => whnf) | fail)
      exact ⟨fun i x hx => hx, rfl, Nat.le_refl _, rfl, rfl⟩
    have hk0 := x.hk
    have I := x.I
    have ht0 := x.t
    have hn0 := x.n
    generalize x.k = k at hk0 I ht0 hn0 ⊢
    generalize x.m = m at I ht0 hn0 ⊢
    have hL : (l.map CRw.av).length = l.length := List.length_map _
    have hz : ∀ (m : List (ByteArray × Int)) (r : List CRw), (∀ y ∈ r, y ∈ l) → CInv m r → ∀ x ∈ m, x.1.size ≤ maxLen := fun m r hr I x hx => by
      obtain ⟨y, hy, h1⟩ := List.mem_map.1 ((I.keys x.1).1 (List.mem_map.2 ⟨x, hx, rfl⟩))
      rw [← h1]
      have := hs y (hr y hy)
      unfold maxLen; omega
    repeat' (first | ((first | refine Sem.reg tt_ok ?_ | refine Sem.condS ?_ | refine Sem.regL tt_ok ?_ | refine Sem.skip tt_ok ?_ | refine Sem.exit tt_ok ?_ | refine Sem.ret tt_ok ?_ | refine BS_t (by assumption) ?_ | refine BS_f (by assumption) ?_ | refine atG (by repeat (first | assumption | exact setG_same _ _ _ | refine Eq.trans (setG_ne _ _ (by first | assumption | exact Ne.symm (by assumption))) ?_)) ?_ | refine (nthK_iff _ _).2 ⟨_, (by assumption), ?_⟩ | refine ⟨_, ⟨(by omega), (by assumption)⟩, ?_⟩ | refine And.intro (by first | decide | omega) ?_ | fail); conv => whnf) | refine Sem.seqS ?_ | refine Sem.block ?_ | fail)
    by_cases hks : k < l.length
    · have c0 : decide (((k : Nat) : Int) < (((l.map CRw.av).length : Nat) : Int)) = true := by simp; omega
      obtain ⟨v, hv⟩ : ∃ v, l[k]? = some v := ⟨_, List.getElem?_eq_getElem hks⟩
      have hsm : (l.map CRw.av)[((k : Nat) : Int).toNat]? = some v.av := by rw [Int.toNat_natCast, List.getElem?_map, hv]; rfl
      have hzv := hs v (List.mem_of_getElem? hv)
      have hw1 : IntKind.i64.wrap ((k : Int) + 1) = ((k + 1 : Nat) : Int) := by rw [IntWalk.i64_in _ (by omega)]; omega
      have ht : l.take (k + 1) = l.take k ++ [v] := by rw [List.take_add_one, hv]; rfl
      have I1 := I.add v
      rw [← ht] at I1
      have gA := totC_put v.name (IntKind.i64.wrap (cval m v.name + v.n)) m
      have cA : 0 ≤ cgrow m v.name ∧ cgrow m v.name ≤ 140737488351256 := by unfold cgrow; split <;> omega
      have t80 : totC m ≤ 80 * 140737488351256 := Nat.le_trans ht0 (Nat.mul_le_mul_right _ (by omega))
      have hsl1 : ((l.map CRw.av).drop (0 : Int).toNat).take ((IntKind.i64.wrap ((k : Int) + 1)).toNat - (0 : Int).toNat) = (l.take (k + 1)).map CRw.av := by
        rw [hw1, Int.toNat_natCast, List.map_take]; rfl
      have hsl0 : ((l.map CRw.av).drop (0 : Int).toNat).take (((k : Nat) : Int).toNat - (0 : Int).toNat) = (l.take k).map CRw.av := by
        rw [Int.toNat_natCast, List.map_take]; rfl
      have lk1 : (l.take (k + 1)).length ≤ 1048576 := by rw [List.length_take]; omega
      have lk0 : (l.take k).length ≤ 1048576 := by rw [List.length_take]; omega
      have z0 := I.size
      have z1 := I1.size
      have tA : totC (addA m v) = totC (lput m v.name (IntKind.i64.wrap (cval m v.name + v.n))) := rfl
      have hv1 := I1.val v.name
      rw [cval_add] at hv1
      have hsz1 := size27_ok (l.take (k + 1)) (setG (fun _ => none) b (.cmap (totC m : Nat) (bk cav m))) lk1 (by rw [← z1]; omega)
      have hsz0 := size27_ok (l.take k) (setG (fun _ => none) b (.cmap (totC m : Nat) (bk cav m))) lk0 (by rw [← z0]; omega)
      rw [← z1] at hsz1
      rw [← z0, ← hsl0] at hsz0
      have hG0 : setG (fun _ => none) b (.cmap (totC m : Nat) (bk cav m)) b = some (.cmap (totC m : Nat) (bk cav m)) := setG_same _ _ _
      have hgr := CallOk.cmapR hG0 fun G1 mv h => cgrows_ok G1 b mv (totC m : Nat) m v.name hzv h
      have had := CallOk.cmap hG0 fun G1 mv h => cadd_ok G1 b mv (totC m : Nat) m v.name v.n hzv (by omega) (by omega) h
      have hbk : bk cav (lput m v.name (IntKind.i64.wrap (sumN (l.take (k + 1)) v.name))) = bk cav (addA m v) := by unfold addA; rw [hv1]
      rw [setG_twice, hv1, ← gA, ← tA, hbk] at had
      have hvl := fun G => value27_ok (l.take (k + 1)) v.name G lk1
      have e1 : (cgrow m v.name != IntKind.i64.wrap (((totC (addA m v) : Nat) : Int) - ((totC m : Nat) : Int))) = false := by
        rw [tA, IntWalk.i64_in _ (by omega)]; simp; omega
      have e2 : (IntKind.i64.wrap (sumN (l.take (k + 1)) v.name) != IntKind.i64.wrap (sumN (l.take (k + 1)) v.name)) = false := by simp
      repeat' (first | ((first | refine Sem.reg tt_ok ?_ | refine Sem.condS ?_ | refine Sem.regL tt_ok ?_ | refine Sem.skip tt_ok ?_ | refine Sem.exit tt_ok ?_ | refine Sem.ret tt_ok ?_ | refine BS_t (by assumption) ?_ | refine BS_f (by assumption) ?_ | refine atG (by repeat (first | assumption | exact setG_same _ _ _ | refine Eq.trans (setG_ne _ _ (by first | assumption | exact Ne.symm (by assumption))) ?_)) ?_ | refine (nthK_iff _ _).2 ⟨_, (by assumption), ?_⟩ | refine ⟨_, ⟨(by omega), (by assumption)⟩, ?_⟩ | refine And.intro (by first | decide | omega) ?_ | fail); conv => whnf) | refine Sem.seqS ?_ | refine Sem.block ?_ | fail)
      rw [hsl1]
      repeat' (first | ((first | refine Sem.reg tt_ok ?_ | refine Sem.condS ?_ | refine Sem.regL tt_ok ?_ | refine Sem.skip tt_ok ?_ | refine Sem.exit tt_ok ?_ | refine Sem.ret tt_ok ?_ | refine BS_t (by assumption) ?_ | refine BS_f (by assumption) ?_ | refine atG (by repeat (first | assumption | exact setG_same _ _ _ | refine Eq.trans (setG_ne _ _ (by first | assumption | exact Ne.symm (by assumption))) ?_)) ?_ | refine (nthK_iff _ _).2 ⟨_, (by assumption), ?_⟩ | refine ⟨_, ⟨(by omega), (by assumption)⟩, ?_⟩ | refine And.intro (by first | decide | omega) ?_ | fail); conv => whnf) | refine Sem.seqS ?_ | refine Sem.block ?_ | fail)
      refine draw_perm [(18, 12, 11), (18, 11, 3), (18, 11, 10), (18, 10, 5), (18, 10, 9)] (σ := [0, 1, 2, 3, 4, 5, 6, 7, 8, 9, 10, 11, 12, 13, 14, 15, 16, 17, 19, 20, 21, 18, 22, 23, 24]) (eff := [21]) tt_ok (by kernel_rfl) (by kernel_rfl) (by kernel_rfl) (by kernel_rfl) ?_
      conv => whnf
      repeat' (first | ((first | refine BS_t (by assumption) ?_ | refine BS_f (by assumption) ?_ | refine atG (by repeat (first | assumption | exact setG_same _ _ _ | refine Eq.trans (setG_ne _ _ (by first | assumption | exact Ne.symm (by assumption))) ?_)) ?_ | refine (nthK_iff _ _).2 ⟨_, (by assumption), ?_⟩ | refine ⟨_, ⟨(by omega), (by assumption)⟩, ?_⟩ | refine And.intro (by first | decide | omega) ?_ | fail); conv => whnf) | fail)
      refine ⟨_, _, hgr, ?_⟩; (conv => whnf); refine And.intro rfl ?_; conv => whnf
      repeat' (first | ((first | refine BS_t (by assumption) ?_ | refine BS_f (by assumption) ?_ | refine atG (by repeat (first | assumption | exact setG_same _ _ _ | refine Eq.trans (setG_ne _ _ (by first | assumption | exact Ne.symm (by assumption))) ?_)) ?_ | refine (nthK_iff _ _).2 ⟨_, (by assumption), ?_⟩ | refine ⟨_, ⟨(by omega), (by assumption)⟩, ?_⟩ | refine And.intro (by first | decide | omega) ?_ | fail); conv => whnf) | fail)
      refine ⟨_, _, hsz1, ?_⟩; (conv => whnf); refine And.intro rfl ?_; conv => whnf
      repeat' (first | ((first | refine BS_t (by assumption) ?_ | refine BS_f (by assumption) ?_ | refine atG (by repeat (first | assumption | exact setG_same _ _ _ | refine Eq.trans (setG_ne _ _ (by first | assumption | exact Ne.symm (by assumption))) ?_)) ?_ | refine (nthK_iff _ _).2 ⟨_, (by assumption), ?_⟩ | refine ⟨_, ⟨(by omega), (by assumption)⟩, ?_⟩ | refine And.intro (by first | decide | omega) ?_ | fail); conv => whnf) | fail)
      refine ⟨_, _, hsz0, ?_⟩; (conv => whnf); refine And.intro rfl ?_; conv => whnf
      repeat' (first | ((first | refine BS_t (by assumption) ?_ | refine BS_f (by assumption) ?_ | refine atG (by repeat (first | assumption | exact setG_same _ _ _ | refine Eq.trans (setG_ne _ _ (by first | assumption | exact Ne.symm (by assumption))) ?_)) ?_ | refine (nthK_iff _ _).2 ⟨_, (by assumption), ?_⟩ | refine ⟨_, ⟨(by omega), (by assumption)⟩, ?_⟩ | refine And.intro (by first | decide | omega) ?_ | fail); conv => whnf) | fail)
      refine ⟨_, _, had, ?_⟩; conv => whnf
      repeat' (first | ((first | refine BS_t (by assumption) ?_ | refine BS_f (by assumption) ?_ | refine atG (by repeat (first | assumption | exact setG_same _ _ _ | refine Eq.trans (setG_ne _ _ (by first | assumption | exact Ne.symm (by assumption))) ?_)) ?_ | refine (nthK_iff _ _).2 ⟨_, (by assumption), ?_⟩ | refine ⟨_, ⟨(by omega), (by assumption)⟩, ?_⟩ | refine And.intro (by first | decide | omega) ?_ | fail); conv => whnf) | fail)
      repeat (refine And.intro (by conv => whnf) ?_; conv => whnf)
      repeat' (first | ((first | refine BS_t (by assumption) ?_ | refine BS_f (by assumption) ?_ | refine atG (by repeat (first | assumption | exact setG_same _ _ _ | refine Eq.trans (setG_ne _ _ (by first | assumption | exact Ne.symm (by assumption))) ?_)) ?_ | refine (nthK_iff _ _).2 ⟨_, (by assumption), ?_⟩ | refine ⟨_, ⟨(by omega), (by assumption)⟩, ?_⟩ | refine And.intro (by first | decide | omega) ?_ | fail); conv => whnf) | fail)
      refine ⟨_, _, (hvl _), ?_⟩; (conv => whnf); refine And.intro rfl ?_; conv => whnf
      repeat' (first | ((first | refine BS_t (by assumption) ?_ | refine BS_f (by assumption) ?_ | refine atG (by repeat (first | assumption | exact setG_same _ _ _ | refine Eq.trans (setG_ne _ _ (by first | assumption | exact Ne.symm (by assumption))) ?_)) ?_ | refine (nthK_iff _ _).2 ⟨_, (by assumption), ?_⟩ | refine ⟨_, ⟨(by omega), (by assumption)⟩, ?_⟩ | refine And.intro (by first | decide | omega) ?_ | fail); conv => whnf) | fail)
      have hG1 : setG (fun _ => none) b (.cmap (totC (addA m v) : Nat) (bk cav (addA m v))) b = some (.cmap (totC (addA m v) : Nat) (bk cav (addA m v))) := setG_same _ _ _
      have cv1 := CallOk.cmapR hG1 fun G1 mv h => cvalue_ok G1 b mv _ (addA m v) name h
      rw [I1.val name] at cv1
      have cs1 := CallOk.cmapR hG1 fun G1 mv h => csize_ok G1 b mv _ (addA m v) h
      have ln1 : (addA m v).length ≤ k + 1 := Nat.le_trans (len_put _ _ _) (by omega)
      have cn1 := CallOk.cmapR hG1 fun G1 mv h => cnames_ok G1 b mv _ cav (addA m v) h (by omega) (hz (addA m v) (l.take (k + 1)) (fun y hy => List.mem_of_mem_take hy) I1)
      rw [I1.names] at cn1
      have rv1 := value27_ok (l.take (k + 1)) name (setG (fun _ => none) b (.cmap (totC (addA m v) : Nat) (bk cav (addA m v)))) lk1
      have rs1 := size27_ok (l.take (k + 1)) (setG (fun _ => none) b (.cmap (totC (addA m v) : Nat) (bk cav (addA m v)))) lk1 (by rw [← z1]; omega)
      rw [← z1] at rs1
      have rn1 := names27_ok (l.take (k + 1)) (setG (fun _ => none) b (.cmap (totC (addA m v) : Nat) (bk cav (addA m v)))) lk1
      have nl1 : (namesN ((l.take (k + 1)).map (·.name))).length ≤ 1048576 := by have := len_namesN ((l.take (k + 1)).map (·.name)); rw [List.length_map] at this; omega
      have rt1 := texts04_ok (namesN ((l.take (k + 1)).map (·.name))) (setG (fun _ => none) b (.cmap (totC (addA m v) : Nat) (bk cav (addA m v)))) nl1
      have e3 : (IntKind.i64.wrap (sumN (l.take (k + 1)) name) != IntKind.i64.wrap (sumN (l.take (k + 1)) name)) = false := by simp
      have e4 : (((totC (addA m v) : Nat) : Int) != ((totC (addA m v) : Nat) : Int)) = false := by simp
      repeat' (first | ((first | refine Sem.reg tt_ok ?_ | refine Sem.condS ?_ | refine Sem.regL tt_ok ?_ | refine Sem.skip tt_ok ?_ | refine Sem.exit tt_ok ?_ | refine Sem.ret tt_ok ?_ | refine BS_t (by assumption) ?_ | refine BS_f (by assumption) ?_ | refine atG (by repeat (first | assumption | exact setG_same _ _ _ | refine Eq.trans (setG_ne _ _ (by first | assumption | exact Ne.symm (by assumption))) ?_)) ?_ | refine (nthK_iff _ _).2 ⟨_, (by assumption), ?_⟩ | refine ⟨_, ⟨(by omega), (by assumption)⟩, ?_⟩ | refine And.intro (by first | decide | omega) ?_ | fail); conv => whnf) | refine Sem.seqS ?_ | refine Sem.block ?_ | fail)
      refine cv1.on ?_; conv => whnf
      repeat' (first | ((first | refine Sem.reg tt_ok ?_ | refine Sem.condS ?_ | refine Sem.regL tt_ok ?_ | refine Sem.skip tt_ok ?_ | refine Sem.exit tt_ok ?_ | refine Sem.ret tt_ok ?_ | refine BS_t (by assumption) ?_ | refine BS_f (by assumption) ?_ | refine atG (by repeat (first | assumption | exact setG_same _ _ _ | refine Eq.trans (setG_ne _ _ (by first | assumption | exact Ne.symm (by assumption))) ?_)) ?_ | refine (nthK_iff _ _).2 ⟨_, (by assumption), ?_⟩ | refine ⟨_, ⟨(by omega), (by assumption)⟩, ?_⟩ | refine And.intro (by first | decide | omega) ?_ | fail); conv => whnf) | refine Sem.seqS ?_ | refine Sem.block ?_ | fail)
      refine rv1.on ?_; conv => whnf
      repeat' (first | ((first | refine Sem.reg tt_ok ?_ | refine Sem.condS ?_ | refine Sem.regL tt_ok ?_ | refine Sem.skip tt_ok ?_ | refine Sem.exit tt_ok ?_ | refine Sem.ret tt_ok ?_ | refine BS_t (by assumption) ?_ | refine BS_f (by assumption) ?_ | refine atG (by repeat (first | assumption | exact setG_same _ _ _ | refine Eq.trans (setG_ne _ _ (by first | assumption | exact Ne.symm (by assumption))) ?_)) ?_ | refine (nthK_iff _ _).2 ⟨_, (by assumption), ?_⟩ | refine ⟨_, ⟨(by omega), (by assumption)⟩, ?_⟩ | refine And.intro (by first | decide | omega) ?_ | fail); conv => whnf) | refine Sem.seqS ?_ | refine Sem.block ?_ | fail)
      refine cs1.on ?_; conv => whnf
      repeat' (first | ((first | refine Sem.reg tt_ok ?_ | refine Sem.condS ?_ | refine Sem.regL tt_ok ?_ | refine Sem.skip tt_ok ?_ | refine Sem.exit tt_ok ?_ | refine Sem.ret tt_ok ?_ | refine BS_t (by assumption) ?_ | refine BS_f (by assumption) ?_ | refine atG (by repeat (first | assumption | exact setG_same _ _ _ | refine Eq.trans (setG_ne _ _ (by first | assumption | exact Ne.symm (by assumption))) ?_)) ?_ | refine (nthK_iff _ _).2 ⟨_, (by assumption), ?_⟩ | refine ⟨_, ⟨(by omega), (by assumption)⟩, ?_⟩ | refine And.intro (by first | decide | omega) ?_ | fail); conv => whnf) | refine Sem.seqS ?_ | refine Sem.block ?_ | fail)
      refine rs1.on ?_; conv => whnf
      repeat' (first | ((first | refine Sem.reg tt_ok ?_ | refine Sem.condS ?_ | refine Sem.regL tt_ok ?_ | refine Sem.skip tt_ok ?_ | refine Sem.exit tt_ok ?_ | refine Sem.ret tt_ok ?_ | refine BS_t (by assumption) ?_ | refine BS_f (by assumption) ?_ | refine atG (by repeat (first | assumption | exact setG_same _ _ _ | refine Eq.trans (setG_ne _ _ (by first | assumption | exact Ne.symm (by assumption))) ?_)) ?_ | refine (nthK_iff _ _).2 ⟨_, (by assumption), ?_⟩ | refine ⟨_, ⟨(by omega), (by assumption)⟩, ?_⟩ | refine And.intro (by first | decide | omega) ?_ | fail); conv => whnf) | refine Sem.seqS ?_ | refine Sem.block ?_ | fail)
      refine cn1.on ?_; conv => whnf
      repeat' (first | ((first | refine Sem.reg tt_ok ?_ | refine Sem.condS ?_ | refine Sem.regL tt_ok ?_ | refine Sem.skip tt_ok ?_ | refine Sem.exit tt_ok ?_ | refine Sem.ret tt_ok ?_ | refine BS_t (by assumption) ?_ | refine BS_f (by assumption) ?_ | refine atG (by repeat (first | assumption | exact setG_same _ _ _ | refine Eq.trans (setG_ne _ _ (by first | assumption | exact Ne.symm (by assumption))) ?_)) ?_ | refine (nthK_iff _ _).2 ⟨_, (by assumption), ?_⟩ | refine ⟨_, ⟨(by omega), (by assumption)⟩, ?_⟩ | refine And.intro (by first | decide | omega) ?_ | fail); conv => whnf) | refine Sem.seqS ?_ | refine Sem.block ?_ | fail)
      refine rn1.on ?_; conv => whnf
      repeat' (first | ((first | refine Sem.reg tt_ok ?_ | refine Sem.condS ?_ | refine Sem.regL tt_ok ?_ | refine Sem.skip tt_ok ?_ | refine Sem.exit tt_ok ?_ | refine Sem.ret tt_ok ?_ | refine BS_t (by assumption) ?_ | refine BS_f (by assumption) ?_ | refine atG (by repeat (first | assumption | exact setG_same _ _ _ | refine Eq.trans (setG_ne _ _ (by first | assumption | exact Ne.symm (by assumption))) ?_)) ?_ | refine (nthK_iff _ _).2 ⟨_, (by assumption), ?_⟩ | refine ⟨_, ⟨(by omega), (by assumption)⟩, ?_⟩ | refine And.intro (by first | decide | omega) ?_ | fail); conv => whnf) | refine Sem.seqS ?_ | refine Sem.block ?_ | fail)
      refine rt1.on ?_; conv => whnf
      repeat' (first | ((first | refine Sem.reg tt_ok ?_ | refine Sem.condS ?_ | refine Sem.regL tt_ok ?_ | refine Sem.skip tt_ok ?_ | refine Sem.exit tt_ok ?_ | refine Sem.ret tt_ok ?_ | refine BS_t (by assumption) ?_ | refine BS_f (by assumption) ?_ | refine atG (by repeat (first | assumption | exact setG_same _ _ _ | refine Eq.trans (setG_ne _ _ (by first | assumption | exact Ne.symm (by assumption))) ?_)) ?_ | refine (nthK_iff _ _).2 ⟨_, (by assumption), ?_⟩ | refine ⟨_, ⟨(by omega), (by assumption)⟩, ?_⟩ | refine And.intro (by first | decide | omega) ?_ | fail); conv => whnf) | refine Sem.seqS ?_ | refine Sem.block ?_ | fail)
      refine ⟨⟨k + 1, by omega, addA m v, I1, by rw [tA]; omega, ln1⟩, by show l.length - (k + 1) < l.length - k; omega, ?_⟩
      refine weak_by [] ?_; (conv => whnf); repeat (first | (refine And.intro rfl ?_; conv => whnf) | fail)
      refine And.intro hw1 ?_
      (conv => whnf); repeat (first | (refine And.intro rfl ?_; conv => whnf) | fail)
      exact ⟨fun i y hy => hy, rfl, (by first | exact Nat.le_refl _ | decide | omega), rfl, rfl⟩
    · have c0 : decide (((k : Nat) : Int) < (((l.map CRw.av).length : Nat) : Int)) = false := by simp; omega
      obtain rfl : k = l.length := by omega
      rw [List.take_length] at I
      have hG1 : setG (fun _ => none) b (.cmap (totC m : Nat) (bk cav m)) b = some (.cmap (totC m : Nat) (bk cav m)) := setG_same _ _ _
      have cv1 := CallOk.cmapR hG1 fun G1 mv h => cvalue_ok G1 b mv _ m name h
      rw [I.val name] at cv1
      have rv1 := value27_ok l name (setG (fun _ => none) b (.cmap (totC m : Nat) (bk cav m))) (by omega)
      have e3 : (IntKind.i64.wrap (sumN l name) == IntKind.i64.wrap (sumN l name)) = true := by simp
      repeat' (first | ((first | refine Sem.reg tt_ok ?_ | refine Sem.condS ?_ | refine Sem.regL tt_ok ?_ | refine Sem.skip tt_ok ?_ | refine Sem.exit tt_ok ?_ | refine Sem.ret tt_ok ?_ | refine BS_t (by assumption) ?_ | refine BS_f (by assumption) ?_ | refine atG (by repeat (first | assumption | exact setG_same _ _ _ | refine Eq.trans (setG_ne _ _ (by first | assumption | exact Ne.symm (by assumption))) ?_)) ?_ | refine (nthK_iff _ _).2 ⟨_, (by assumption), ?_⟩ | refine ⟨_, ⟨(by omega), (by assumption)⟩, ?_⟩ | refine And.intro (by first | decide | omega) ?_ | fail); conv => whnf) | refine Sem.seqS ?_ | refine Sem.block ?_ | fail)
      refine cv1.on ?_; conv => whnf
      repeat' (first | ((first | refine Sem.reg tt_ok ?_ | refine Sem.condS ?_ | refine Sem.regL tt_ok ?_ | refine Sem.skip tt_ok ?_ | refine Sem.exit tt_ok ?_ | refine Sem.ret tt_ok ?_ | refine BS_t (by assumption) ?_ | refine BS_f (by assumption) ?_ | refine atG (by repeat (first | assumption | exact setG_same _ _ _ | refine Eq.trans (setG_ne _ _ (by first | assumption | exact Ne.symm (by assumption))) ?_)) ?_ | refine (nthK_iff _ _).2 ⟨_, (by assumption), ?_⟩ | refine ⟨_, ⟨(by omega), (by assumption)⟩, ?_⟩ | refine And.intro (by first | decide | omega) ?_ | fail); conv => whnf) | refine Sem.seqS ?_ | refine Sem.block ?_ | fail)
      refine rv1.on ?_; conv => whnf
      repeat' (first | ((first | refine Sem.reg tt_ok ?_ | refine Sem.condS ?_ | refine Sem.regL tt_ok ?_ | refine Sem.skip tt_ok ?_ | refine Sem.exit tt_ok ?_ | refine Sem.ret tt_ok ?_ | refine BS_t (by assumption) ?_ | refine BS_f (by assumption) ?_ | refine atG (by repeat (first | assumption | exact setG_same _ _ _ | refine Eq.trans (setG_ne _ _ (by first | assumption | exact Ne.symm (by assumption))) ?_)) ?_ | refine (nthK_iff _ _).2 ⟨_, (by assumption), ?_⟩ | refine ⟨_, ⟨(by omega), (by assumption)⟩, ?_⟩ | refine And.intro (by first | decide | omega) ?_ | fail); conv => whnf) | refine Sem.seqS ?_ | refine Sem.block ?_ | fail)
      refine (cawake_ok _).mono fun v G1 hv => ?_; obtain rfl := hv; conv => whnf
      repeat' (first | ((first | refine Sem.reg tt_ok ?_ | refine Sem.condS ?_ | refine Sem.regL tt_ok ?_ | refine Sem.skip tt_ok ?_ | refine Sem.exit tt_ok ?_ | refine Sem.ret tt_ok ?_ | refine BS_t (by assumption) ?_ | refine BS_f (by assumption) ?_ | refine atG (by repeat (first | assumption | exact setG_same _ _ _ | refine Eq.trans (setG_ne _ _ (by first | assumption | exact Ne.symm (by assumption))) ?_)) ?_ | refine (nthK_iff _ _).2 ⟨_, (by assumption), ?_⟩ | refine ⟨_, ⟨(by omega), (by assumption)⟩, ?_⟩ | refine And.intro (by first | decide | omega) ?_ | fail); conv => whnf) | refine Sem.seqS ?_ | refine Sem.block ?_ | fail)
      exact ⟨_, fun _ _ h => h, rfl⟩
theorem counterAdds_walk (v : Value) (sl : List CRw) {w0 : World} (hr0 : Row w0 v sl 2 (fun x => [.string x.name, .int .i64 x.n])) (hok0 : ∀ x ∈ sl, x.name.size ≤ 140737488351232 ∧ (-9223372036854775808 ≤ x.n ∧ x.n ≤ 9223372036854775807) ∧ True) (t : ByteArray) (_ : t.size ≤ 140737488351232) (_ : World) :
    Calls Try.prog 5 #[v, .string t] w0 (Gives w0 (.bool true)) := by
  refine law_of (counterAdds_ok sl t ?_ fun x hx => (hok0 x hx).1) (fun v G h => h) rfl fun i x u hx hu => ?_
  · obtain ⟨p, cap, _, h1, h2, _⟩ := hr0
    unfold maxLen at h2
    omega
  match i with
  | 0 => simp at hx hu; subst hx hu; exact crows_dz hr0
  | 1 => simp at hx hu; subst hx hu; exact .str _
  | i + 2 => simp at hx

set_option linter.unusedVariables false in
set_option maxRecDepth 100000 in
theorem counterAdds_contract (H : Type) (enc : TypeId × Value → H) (W : World) (base : Nat) (args : Array Value) (ds gs : List (DataW H)) (before : List MemPlace)
    (hval : ∀ (j : Nat) t v, Try.f5.params[j]? = some t → args[j]? = some v → Value.okWide Try.prog W .any base t v)
    (hW : DataW.Whole enc Try.prog Try.f5.params.toList Rows.counterAddsSpec.vars false W args.toList ds gs before)
    (hsz : (DataW.weightsEach Try.prog (Try.f5.params.toList ++ (Rows.counterAddsSpec).plain.varTypes Try.prog) (ds ++ gs)).all (· ≤ reachBytes) = true) :
    Calls Try.prog 5 args W fun e W' => ∃ v, e = .returned v ∧ Rows.counterAddsSpec.post enc Try.prog Try.f5 false true false false W args v W' := by
  have hW' := hW
  obtain ⟨p, q, hA0, hV, rfl, hfz, hnd⟩ := hW
  have hA : DataW.TrodAll enc Try.prog W 0 (fun _ => true) true Try.f5.params.toList args.toList ds p := hA0
  rw [Try.params5] at hA hval hsz
  obtain ⟨v0, vs0, d0, ds0, p0, q0, hargs, rfl, rfl, h0, r0⟩ := trodAll_cons hA
  obtain ⟨v1, vs1, d1, ds1, p1, q1, rfl, rfl, rfl, h1, r1⟩ := trodAll_cons r0
  obtain ⟨rfl, rfl, rfl⟩ := trodAll_nil r1
  obtain rfl : args = #[v0, v1] := by cases args; simp_all
  obtain ⟨rfl, rfl⟩ := trodVars_none hV
  clear hA0
  have elem0 : ∀ (n : Nat) (cs : List Value) (y : DataW H × List MemPlace), cs.length = 2 → DataW.trod enc Try.prog W 0 (fun _ => true) true n 44 cs = some y → ∃ x : CRw, cs = (fun x : CRw => [.string x.name, .int .i64 x.n]) x ∧ (fun (x : CRw) y => y = .agg [.lit (.string x.name.data.toList), .lit (.int .i64 x.n)] ∧ x.name.size ≤ maxLen ∧ (Lit.int .i64 x.n).wf = true ∧ True) x y.1 := by
    intro n cs y hl h
    obtain ⟨ys, m, _, h2, h3, h4⟩ := struct_cells Try.underlying44 (by kernel_rfl) (by kernel_rfl) h
    obtain ⟨c0, c1, rfl⟩ := list2 hl
    obtain ⟨y0, y1, rfl⟩ := list2 h2
    obtain ⟨a0, rfl, rfl, w0⟩ := string_field Try.underlying9 (h4 0 _ _ rfl rfl)
    obtain ⟨a1, rfl, rfl, w1⟩ := int_field Try.underlying2 (h4 1 _ _ rfl rfl)
    subst h3
    exact ⟨⟨a0, a1⟩, rfl, rfl, w0, w1, trivial⟩
  obtain ⟨l0, hr0, hd0⟩ := row_arg (cells := fun x : CRw => [.string x.name, .int .i64 x.n]) (R := fun (x : CRw) y => y = .agg [.lit (.string x.name.data.toList), .lit (.int .i64 x.n)] ∧ x.name.size ≤ maxLen ∧ (Lit.int .i64 x.n).wf = true ∧ True) Try.underlying39 (by kernel_rfl) (by decide) elem0 (hval 0 39 v0 rfl rfl) h0
  have hb0 := row_all hd0 (fun x y (h : (fun (x : CRw) y => y = .agg [.lit (.string x.name.data.toList), .lit (.int .i64 x.n)] ∧ x.name.size ≤ maxLen ∧ (Lit.int .i64 x.n).wf = true ∧ True) x y) => And.intro (h.2.1) <| And.intro (bounds_i64 h.2.2.1) <| trivial)
  obtain ⟨a1, rfl, rfl, rfl, w1⟩ := open_string Try.underlying9 (hval 1 9 v1 rfl rfl) h1
  have hq0 := row_sized hsz (j := 0) (t := 39) rfl rfl Try.underlying39 Try.underlying44 hd0 (fun x => [.lit (.string x.name.data.toList), .lit (.int .i64 x.n)]) (fun x y (h : (fun (x : CRw) y => y = .agg [.lit (.string x.name.data.toList), .lit (.int .i64 x.n)] ∧ x.name.size ≤ maxLen ∧ (Lit.int .i64 x.n).wf = true ∧ True) x y) => h.1)
  have hz0 := fun x hx => (And.intro ((by have := sized_string (hq0 x hx) (j := 0) (t := 9) rfl rfl; simpa [reachBytes] using this)) <| And.intro ((hb0 x hx).2.1) <| trivial : _ ∧ _)
  have z1 : a1.size ≤ 140737488351232 := by have := sized_string hsz (j := 1) (t := 9) rfl rfl; simpa [reachBytes] using this
  refine (counterAdds_walk v0 l0 hr0 hz0 a1 z1 W).mono fun e W' ⟨he, hu⟩ => ?_
  subst he
  exact ⟨_, rfl, post_true laidOut (by kernel_rfl) Try.underlying4 rfl rfl hW' rfl hu⟩

theorem counterAdds_closed : joinedFacts Try.prog 5 Try.f5 Rows.counterAddsSpec Rows.counterAddsRow = true := by
  unfold joinedFacts
  rw [fact_mayEnter, fact_lifted, fact_make]
  kernel_rfl

set_option maxRecDepth 100000 in
theorem counterAdds_lifted (os : Os) (started : os.Started) (H : Type) (enc : TypeId × Value → H) :
    ReturnsInHanded {} Try.checked os 5 .any (Rows.counterAddsSpec.pre6 enc Try.prog Try.f5 Rows.counterAddsRow.domain false) (Rows.counterAddsSpec.post enc Try.prog Try.f5 false true false false) := by
  refine returnsInHanded_of_change_sized (C := Try.checked) own started (by kernel_rfl) Try.func5
    (ChangeSpec.witness6 (enc := enc) (C := Try.checked) false ⟨#[], #[.slice none 0 0, .string ⟨#[]⟩], []⟩ 8 (by kernel_rfl) (by kernel_rfl) (by kernel_rfl) (by kernel_rfl)) ?_
  intro W base args ds gs before hval hW _ hsz _
  exact counterAdds_contract H enc W base args ds gs before hval hW hsz

theorem counterAdds_holds : Rows.CounterAddsSaid :=
  OpenClaim.holds_of_wide 5 Try.f5 rfl rfl rfl rfl rfl rfl rfl ⟨rfl, rfl, rfl, rfl, rfl⟩ rfl rfl rfl rfl rfl (by kernel_rfl) Try.func5 counterAdds_closed
    (of_decide_eq_true (by kernel_rfl)) (by unfold Func.isWrapper; rw [if_neg (by decide +kernel)]; exact ⟨rfl, rfl⟩)
    (fun os started H enc _ => counterAdds_lifted os started H enc)
end Go.Proofs.Ytpnlhnhjedopgaa
