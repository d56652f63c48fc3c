/- conf.Of in the model, at nine numbers. Written by a small program of mine (genconfd.py). -/
import Derived.Test.YtpnlhnhjedopgaaConfC
set_option maxRecDepth 100000
set_option linter.unusedSimpArgs false
namespace Go.Proofs.Ytpnlhnhjedopgaa
open Go Go.RowKit Go.Shelf Go.Proofs
attribute [local go_sem] Oper.semAt_some

def zeroC : Cnf := ⟨0, 0, 0, 0, 0, 0, 0, 0, 0⟩
def fArr (c : Cnf) (pre : List (Fin 9)) : Array Value := pre.foldl (fun a i => a.setIfInBounds i.val (.int .i64 (c.l[i.val]?.getD 0))) zeroC.arr
theorem fArr_snoc (c : Cnf) (pre : List (Fin 9)) (x : Fin 9) : fArr c (pre ++ [x]) = (fArr c pre).setIfInBounds x.val (.int .i64 (c.l[x.val]?.getD 0)) := by
  unfold fArr
  rw [List.foldl_append]
  rfl
theorem fArr_size (c : Cnf) (pre : List (Fin 9)) : (fArr c pre).size = 9 := by
  have : ∀ (l : List (Fin 9)) (a : Array Value), a.size = 9 → (l.foldl (fun a i => a.setIfInBounds i.val (.int .i64 (c.l[i.val]?.getD 0))) a).size = 9 := by
    intro l
    induction l with
    | nil => exact fun a h => h
    | cons y r ih => exact fun a h => ih _ (by simpa using h)
  exact this pre _ rfl
theorem fArr_all (c : Cnf) : fArr c nines = c.arr := by
  have hn : nines = [⟨0, by omega⟩, ⟨1, by omega⟩, ⟨2, by omega⟩, ⟨3, by omega⟩, ⟨4, by omega⟩, ⟨5, by omega⟩, ⟨6, by omega⟩, ⟨7, by omega⟩, ⟨8, by omega⟩] := rfl
  unfold fArr
  rw [hn]
  simp [Cnf.arr, zeroC, Cnf.l]
  rfl
theorem wpListIn_store_mid {F : Fence} {n : Nat} {P : Program} {ops : Array Oper} {rest : List Oper} {op : Oper} {a : Act} {w : World} {Q : Exit → Act → World → Prop} (hgd : op.guard = none) (hro : F.round = none) (ty : TypeId) (x y : Operand) (ho : op.op = .store ty x y)
    (b o : Nat) (cells : Array Value) (hx : a.eval x = .pointer (some ⟨b, o, none⟩)) (hy : a.eval y = .agg cells)
    (ht : w.there b o cells.size) (hi : (P.info? ty).map (·.size) = some cells.size) (h1 : cells.all (·.oneCell') = true)
    (h : wpListIn F n P ops Q rest (a.put op.dst undef) (w.setCells b o cells.toList)) : wpListIn F n P ops Q (op :: rest) a w := by
  refine wpListIn_plain hgd fun K hK => ⟨fun f hf => ?_, ?_⟩
  · unfold Oper.about at hf
    rw [ho] at hf
    cases hf
  · rw [hro, Oper.semAt_none]
    unfold execOp
    simp only [ho, hx, hy, Instr.storeAt, Instr.sureAddr, Sem.run_bind, Sem.run_pure, Result.andThen_ok, run_storeVar_mid w b o ty cells ht hi h1]
    exact hK _ _ h
theorem Below.heap_setCell_cell {W : World} {B j : Nat} {v : Value} (b i : Nat) (h : b ≠ B) : (W.setCell ⟨B, j, none⟩ v).cell? ⟨b, i, none⟩ = W.cell? ⟨b, i, none⟩ := by
  have h1 := Below.heap_setCell W ⟨B, j, none⟩ v b h
  simp only [World.cell?, h1]
theorem results_cell2 {fn : Func} {a u : Tmp} {t : TypeId} (h : fn.results = #[.cell a t, .tmp u]) {tmps : Array Value} {P : Program} {w : World} {p : Addr} {v : Value} (hp : tmps.getD a undef = .pointer (some p)) (hl : (loadVar t p).run P w = .ok v w) : (results fn tmps).run P w = .ok (.tuple #[v, tmps.getD u undef]) w := by
  unfold results
  rw [h]
  have hp' : tmps[a]?.getD undef = .pointer (some p) := by simpa using hp
  simp [Sem.run_bind, hp', asAddr, hl]
theorem keeps_setCells (b : Nat) : ∀ (vs : List Value) (o : Nat) (w : World), KeepsOthers w (w.setCells b o vs)
  | [], _, w => KeepsOthers.refl w
  | v :: r, o, w => (KeepsOthers.setCell w ⟨b, o, none⟩ v).trans (keeps_setCells b r (o + 1) _)
theorem below_setCells (n b : Nat) : ∀ (vs : List Value) (o : Nat) (w : World), n ≤ w.heap.size → n ≤ b → Below n w (w.setCells b o vs)
  | [], _, w, _, _ => Below.refl n w
  | v :: r, o, w, h, hb => by
    have h1 := (Below.refl n w).setCell (p := ⟨b, o, none⟩) hb v
    exact h1.trans (below_setCells n b r (o + 1) _ (Nat.le_trans h h1.size) hb)
theorem BlkIs.range {W : World} {B : Nat} {us : Array Value} (h : BlkIs W B us) : W.rangeAt B 0 us.toList := fun j u hj => by
  rw [Nat.zero_add, h.cell]
  simpa using hj
theorem BlkIs.there {W : World} {B : Nat} {us : Array Value} (h : BlkIs W B us) : W.there B 0 us.size := fun j hj => by
  refine ⟨?_, ?_⟩
  · rw [Nat.zero_add, h.cell, Array.getElem?_eq_getElem hj]; rfl
  · rw [Nat.zero_add]; exact h.free j
set_option maxHeartbeats 8000000 in
theorem confof_any (c : Cnf) (v0 : Value) (w : World) (hr : Row w v0 c.l 1 (fun n => [.int .i64 n])) : Calls Try.prog 133 #[v0] w (Gives w (if goodC c then .tuple #[.agg c.arr, .int .i64 0] else .tuple #[.agg zeroC.arr, .int .i64 1])) := by
  obtain ⟨p, cap, rfl, hlc, hmm, hrow⟩ := hr
  have h9 : c.l.length = 9 := rfl
  obtain ⟨b, off, rfl, hb, hcell⟩ := hrow (by rw [h9]; omega)
  rw [h9] at hlc
  rw [show (Value.slice (some (⟨b, off, none⟩ : Addr)) c.l.length cap) = .slice (some ⟨b, off, none⟩) 9 cap from rfl]
  have hcl : ∀ i : Fin 9, w.cell? ⟨b, off + i.val, none⟩ = some (.int .i64 (c.l[i.val]?.getD 0)) := fun i => by
    have hi : i.val < c.l.length := by rw [h9]; exact i.isLt
    have := hcell i.val c.l[i.val] (List.getElem?_eq_getElem hi) 0 _ rfl
    rw [List.getElem?_eq_getElem hi]
    simpa using this
  clear hcell hrow
  refine (callsIn_wide (n := 9)).1 ?_
  refine callsIn_of_wp_marks Try.func133 rfl trivial ?_ rfl
  simp only [Try.ntmps133, List.size_toArray, List.length_cons, List.length_nil, Nat.reduceAdd, Nat.reduceSub, Array.replicate_succ, Array.replicate_zero, List.push_toArray, List.append_toArray, List.nil_append, List.cons_append]
  obtain ⟨r, hres⟩ : ∃ r : Value, r = (if goodC c then .tuple #[.agg c.arr, .int .i64 0] else .tuple #[.agg zeroC.arr, .int .i64 1]) := ⟨_, rfl⟩
  have HRS := Lib.hid hres
  rw [← hres]
  clear hres
  gi_wp2_with (refine ⟨trivial, ?_⟩; gi_at_call 142; refine (callsIn_wide.2 (places_w _ _)).mono ?_; rintro e w1 ⟨A, T0, rfl, hA, hAl, hu⟩)
  have hu1 : Up w w1 := ((((Up.refl w).alloc _).alloc _).alloc _).trans hu
  have bL0 : BlkIs (w.alloc (.cells #[.slice (some ⟨b, off, none⟩) 9 cap] 142)) w.heap.size #[.slice (some ⟨b, off, none⟩) 9 cap] := ⟨_, blk_new w _⟩
  have bL : BlkIs w1 w.heap.size #[.slice (some ⟨b, off, none⟩) 9 cap] := ((bL0.alloc _).alloc _).up hu
  have bZ0 : BlkIs ((w.alloc (.cells #[.slice (some ⟨b, off, none⟩) 9 cap] 142)).alloc (.cells zeroC.arr 24)) (w.heap.size + 1) zeroC.arr := ⟨_, blk_new' (by simp)⟩
  have bZ : BlkIs w1 (w.heap.size + 1) zeroC.arr := (bZ0.alloc _).up hu
  have bC0 : BlkIs (((w.alloc (.cells #[.slice (some ⟨b, off, none⟩) 9 cap] 142)).alloc (.cells zeroC.arr 24)).alloc (.cells zeroC.arr 24)) (w.heap.size + 2) zeroC.arr := ⟨_, blk_new' (by simp)⟩
  have bC : BlkIs w1 (w.heap.size + 2) zeroC.arr := bC0.up hu
  have hsz : w.heap.size + 3 ≤ w1.heap.size := by have := hu.size; simp at this; omega
  clear hu
  refine wpIn_rangeFunc_ownH rfl (by omega) (gf := 158) (lb := #[.pointer (some ⟨A, 0, none⟩)]) rfl trivial (enters_of Try.func158 (by kernel_rfl) rfl)
    (places_stops 8 (w.heap.size + 2) A T0 w1 hA) (fun _ _ => trivial) (fun _ _ _ _ _ _ _ _ => trivial) (Below.refl _ _) (fun _ => rfl)
    (fun pre W => ((BlkIs W w.heap.size #[.slice (some ⟨b, off, none⟩) 9 cap] ∧ BlkIs W (w.heap.size + 1) zeroC.arr) ∧ BlkIs W (w.heap.size + 2) (fArr c pre)) ∧ Below w.heap.size w W)
    (fun _ _ _ => False)
    (OwnFrom.and (OwnFrom.and (OwnFrom.and (Go.Own.from (BlkIs.own _ (fun _ => _)) _) (Go.Own.from (BlkIs.own _ (fun _ => _)) _)) (Go.Own.from (BlkIs.own _ (fun pre => fArr c pre)) _)) (ownFrom_below (Nat.le_refl _) (by omega)))
    (fun _ _ _ _ _ hs _ _ => hs)
    ⟨⟨⟨bL, bZ⟩, bC⟩, hu1⟩
    (fun x a' W => ∃ Bx, w.heap.size + 2 < Bx ∧ W.heap[Bx]? = some (.cells #[.pointer (some ⟨w.heap.size + 2, x.val, none⟩), .int .i64 (leastL[x.val]?.getD 0), .int .i64 (mostL[x.val]?.getD 0)] 224 (0, 0)) ∧ a' = { tmps := #[.slice (some ⟨b, off, none⟩) 9 cap, .pointer (some ⟨w.heap.size, 0, none⟩), .pointer (some ⟨w.heap.size + 1, 0, none⟩), .int .i64 0, .pointer (some ⟨w.heap.size + 2, 0, none⟩), .int .i64 (x.val : Nat), .pointer (some ⟨Bx, 0, none⟩), .slice (some ⟨b, off, none⟩) 9 cap, .int .i64 9, .bool false, undef, .func (.func 158) #[] #[.pointer (some ⟨A, 0, none⟩)], .int .i64 (x.val : Nat), .agg #[.pointer (some ⟨w.heap.size + 2, x.val, none⟩), .int .i64 (leastL[x.val]?.getD 0), .int .i64 (mostL[x.val]?.getD 0)], undef, undef, undef, undef, undef, undef, undef, undef, undef, undef, undef, undef], defers := [] })
    (fun x a' _ X Y row hs hg hr => by obtain ⟨Bx, h1, h2, h3⟩ := hs; exact ⟨Bx, h1, (grownBy_keeps_cells hg (fun r e => (hr r e).2) h2 rfl).trans h2, h3⟩)
    ?assign ?body ?done ?stop
  case assign =>
    rintro l pre x W K ⟨⟨⟨bL1, bZ1⟩, bC1⟩, hB1⟩ hK
    dsimp only [plEnc]
    gi_wp2
    exact hK _ _ ((KeepsOthers.alloc _ _).from _) trivial ⟨⟨⟨bL1.alloc _, bZ1.alloc _⟩, bC1.alloc _⟩, hB1.alloc hB1.size _⟩ ⟨W.heap.size, bC1.lt, blk_new _ _, rfl⟩
  case body =>
    rintro l pre x a' W hl ⟨rr, hrr⟩ ⟨⟨⟨⟨TL, bL1⟩, ⟨TZ, bZ1⟩⟩, ⟨TC, bC1⟩⟩, hB1⟩ ⟨Bx, hBx, bX, rfl⟩ hlt
    have bLd : W.drew.heap[w.heap.size]? = some (.cells #[.slice (some ⟨b, off, none⟩) 9 cap] TL (0, 0)) := bL1
    have bZd : W.drew.heap[w.heap.size + 1]? = some (.cells zeroC.arr TZ (0, 0)) := bZ1
    have bCd : W.drew.heap[w.heap.size + 2]? = some (.cells (fArr c pre) TC (0, 0)) := bC1
    have bXd : W.drew.heap[Bx]? = some (.cells #[.pointer (some ⟨w.heap.size + 2, x.val, none⟩), .int .i64 (leastL[x.val]?.getD 0), .int .i64 (mostL[x.val]?.getD 0)] 224 (0, 0)) := bX
    have hxl := x.isLt
    have hrx : W.drew.cell? ⟨b, off + x.val, none⟩ = some (.int .i64 (c.l[x.val]?.getD 0)) := (hB1.cell hb).trans (hcl x)
    obtain ⟨y, hy⟩ : ∃ y, (fArr c pre)[x.val]? = some y := ⟨_, Array.getElem?_eq_getElem (by rw [fArr_size]; exact hxl)⟩
    have cC : W.drew.cell? ⟨w.heap.size + 2, x.val, none⟩ = some y := blk_cell2 bCd hy
    have fC : W.drew.frozen? ⟨w.heap.size + 2, x.val, none⟩ = false := blk_free bCd x.val
    have i0 : (0 : Int) ≤ (x.val : Int) := by omega
    have i1 : (x.val : Int) < 9 := by omega
    have hlW := blk_lt bC1
    generalize hv : c.l[x.val]?.getD 0 = v at *
    refine wpIn_block ?_
    refine region_held_in (S := fun w' => w'.cell? ⟨Bx, 0, none⟩ = some (.pointer (some ⟨w.heap.size + 2, x.val, none⟩)) ∧ w'.cell? ⟨w.heap.size, 0, none⟩ = some (.slice (some ⟨b, off, none⟩) 9 cap) ∧ w'.cell? ⟨b, off + x.val, none⟩ = some (.int .i64 v)) (by kernel_rfl) (by kernel_rfl) (by rintro ⟨a, w, h⟩; exact h) ⟨(blk_cell bXd 0).trans rfl, (blk_cell bLd 0).trans rfl, hrx⟩ fun hS => ?_
    refine wpAnyH_take (i := 0) (oi := { dst := some 14, op := _, type := _, pos := _, after := _, guard := _ }) (v := .pointer (some ⟨Bx, 0, none⟩)) rfl (by kernel_rfl) (by kernel_rfl) (by kernel_rfl) (fun _ _ _ h => h) (.inl ⟨rfl, fun w' hw' => ?_⟩) (by assumption) ?_
    · have hc0 := hw'.1; have hc1 := hw'.2.1; have hc2 := hw'.2.2; clear hw'; go_simp
    simp only [Act.put, List.setIfInBounds_toArray, List.set_cons_zero, List.set_cons_succ]
    refine wpAnyH_take (i := 1) (oi := { dst := some 15, op := _, type := _, pos := _, after := _, guard := _ }) (v := .pointer (some ⟨w.heap.size + 2, x.val, none⟩)) rfl (by kernel_rfl) (by kernel_rfl) (by kernel_rfl) (fun _ _ _ h => h) (.inl ⟨rfl, fun w' hw' => ?_⟩) (by assumption) ?_
    · have hc0 := hw'.1; have hc1 := hw'.2.1; have hc2 := hw'.2.2; clear hw'; go_simp
    simp only [Act.put, List.setIfInBounds_toArray, List.set_cons_zero, List.set_cons_succ]
    refine wpAnyH_take (i := 2) (oi := { dst := some 16, op := _, type := _, pos := _, after := _, guard := _ }) (v := .slice (some ⟨b, off, none⟩) 9 cap) rfl (by kernel_rfl) (by kernel_rfl) (by kernel_rfl) (fun _ _ _ h => h) (.inl ⟨rfl, fun w' hw' => ?_⟩) (by assumption) ?_
    · have hc0 := hw'.1; have hc1 := hw'.2.1; have hc2 := hw'.2.2; clear hw'; go_simp
    simp only [Act.put, List.setIfInBounds_toArray, List.set_cons_zero, List.set_cons_succ]
    refine wpAnyH_take (i := 3) (oi := { dst := some 17, op := _, type := _, pos := _, after := _, guard := _ }) (v := .int .i64 (x.val : Nat)) rfl (by kernel_rfl) (by kernel_rfl) (by kernel_rfl) (fun _ _ _ h => h) (.inl ⟨rfl, fun w' hw' => ?_⟩) (by assumption) ?_
    · have hc0 := hw'.1; have hc1 := hw'.2.1; have hc2 := hw'.2.2; clear hw'; go_simp
    simp only [Act.put, List.setIfInBounds_toArray, List.set_cons_zero, List.set_cons_succ]
    refine wpAnyH_take (i := 4) (oi := { dst := some 18, op := _, type := _, pos := _, after := _, guard := _ }) (v := .pointer (some ⟨b, off + x.val, none⟩)) rfl (by kernel_rfl) (by kernel_rfl) (by kernel_rfl) (fun _ _ _ h => h) (.inl ⟨rfl, fun w' hw' => ?_⟩) (by assumption) ?_
    · have hc0 := hw'.1; have hc1 := hw'.2.1; have hc2 := hw'.2.2; clear hw'; go_simp
    simp only [Act.put, List.setIfInBounds_toArray, List.set_cons_zero, List.set_cons_succ]
    refine wpAnyH_take (i := 5) (oi := { dst := some 19, op := _, type := _, pos := _, after := _, guard := _ }) (v := .int .i64 v) rfl (by kernel_rfl) (by kernel_rfl) (by kernel_rfl) (fun _ _ _ h => h) (.inl ⟨rfl, fun w' hw' => ?_⟩) (by assumption) ?_
    · have hc0 := hw'.1; have hc1 := hw'.2.1; have hc2 := hw'.2.2; clear hw'; go_simp
    simp only [Act.put, List.setIfInBounds_toArray, List.set_cons_zero, List.set_cons_succ]
    refine wpAnyH_take (i := 6) (oi := { dst := some 20, op := _, type := _, pos := _, after := _, guard := _ }) (v := .pointer (some ⟨w.heap.size + 2, x.val, none⟩)) rfl (by kernel_rfl) (by kernel_rfl) (by kernel_rfl) (fun _ _ _ h => h) (.inl ⟨rfl, fun w' hw' => ?_⟩) (by assumption) ?_
    · have hc0 := hw'.1; have hc1 := hw'.2.1; have hc2 := hw'.2.2; clear hw'; go_simp
    simp only [Act.put, List.setIfInBounds_toArray, List.set_cons_zero, List.set_cons_succ]
    refine wpAnyH_ready (rs := [7]) (by kernel_rfl) (by simp) (.cons rfl (fun K' hK => ?_) .nil)
    refine step_go rfl ?_
    go_simp
    refine hK.out _ _ ⟨?_, ?_, ?_⟩ fun hS1 => ?_
    · exact (blk_cell (blk_ne bXd (by omega) _) 0).trans rfl
    · exact (blk_cell (blk_ne bLd (by omega) _) 0).trans rfl
    · exact (Below.heap_setCell_cell b (off + x.val) (by omega)).trans hrx
    refine wpAnyH_done (by kernel_rfl) ?_ _
    gi_wp2
    refine ⟨((KeepsOthers.drew W).trans (KeepsOthers.setCell _ _ _)).from _, trivial, ⟨⟨⟨TL, blk_ne bLd (by omega) _⟩, ⟨TZ, blk_ne bZd (by omega) _⟩⟩, ?_⟩, (hB1.drew).setCell (p := ⟨w.heap.size + 2, x.val, none⟩) (by simp) _⟩
    rw [fArr_snoc, hv]
    exact ⟨TC, blk_set bCd x.val _⟩
  case done =>
    rintro D xs W hD rfl ⟨⟨⟨bL1, bZ1⟩, bC1⟩, hB1⟩ hK
    rw [fArr_all] at bC1
    have hsC : (Try.prog.info? 24).map (·.size) = some c.arr.toList.length := by
      have : (Try.prog.info? 24).map (·.size) = some 9 := by kernel_rfl
      exact this
    have hsA : (Try.prog.info? 24).map (·.size) = some c.arr.size := hsC
    have hsZ : (Try.prog.info? 24).map (·.size) = some zeroC.arr.size := hsC
    have hsL : (Try.prog.info? 24).map (·.size) = some zeroC.arr.toList.length := hsC
    have h1C : c.arr.all (·.oneCell') = true := by simp [Cnf.arr, Value.oneCell']
    have h1Z : zeroC.arr.all (·.oneCell') = true := by simp [Cnf.arr, Value.oneCell']
    have hzl : #[Value.int .i64 0, .int .i64 0, .int .i64 0, .int .i64 0, .int .i64 0, .int .i64 0, .int .i64 0, .int .i64 0, .int .i64 0] = zeroC.arr := rfl
    have hchk := confcheck_any c W
    have hcs : c.arr.size = 9 := rfl
    have hzs : zeroC.arr.size = 9 := rfl
    generalize zeroC.arr = zarr at *
    generalize c.arr = carr at *
    have hrg := bC1.range
    cases hg : goodC c with
    | true =>
      have hrr := HRS.out
      rw [hg, if_pos rfl] at hrr
      simp only [hg, if_true, Bool.false_eq_true, if_false] at hchk
      subst hrr
      clear HRS hg
      gi_wp2_with (first
        | (refine wpListIn_load_mid rfl rfl 24 (.tmp 4) rfl (w.heap.size + 2) 0 (by rfl) carr.toList (.struct _) hrg Try.underlying24 rfl hsC ?_)
        | (refine ⟨trivial, ?_⟩; gi_at_call 120; refine (callsIn_wide.2 hchk).mono ?_; rintro e w2 ⟨rfl, hu2⟩; have hrg2 := (bC1.up hu2).range; have hth := (bZ1.up hu2).there; rw [hzs] at hth)
        | (refine wpListIn_load_mid rfl rfl 24 (.tmp 4) rfl (w.heap.size + 2) 0 (by rfl) carr.toList (.struct _) hrg2 Try.underlying24 rfl hsC ?_)
        | (refine wpListIn_store_mid rfl rfl 24 (.tmp 2) (.tmp 25) rfl (w.heap.size + 1) 0 carr (by rfl) (by rfl) (by rw [hcs]; exact hth) hsA h1C ?_))
      have hK2 : w2.heap[D]? = some (.deferred (some [])) := (hu2.block (blk_lt hK)).trans hK
      have hK3 : (w2.setCells (w.heap.size + 1) 0 carr.toList).heap[D]? = some (.deferred (some [])) := (keeps_setCells _ _ _ _).same D _ hK2 rfl
      have hld : (loadVar 24 ⟨w.heap.size + 1, 0, none⟩).run Try.prog ((w2.setCells (w.heap.size + 1) 0 carr.toList).putObj D (.deferred none)) = .ok (.agg carr) ((w2.setCells (w.heap.size + 1) 0 carr.toList).putObj D (.deferred none)) :=
        run_loadVar_mid _ _ _ _ _ (.struct _) (fun j u hj => cell_kept (World.rangeAt_setCells_same w2 _ 0 carr.toList (by rw [Array.length_toList, hcs]; exact hth) j u hj) (grownBy_putObj' _ D _) (fun r e => by cases e; exact ⟨_, hK3, rfl⟩)) Try.underlying24 rfl hsC
      refine ⟨by simp, .inl ⟨_, _, rfl, run_takeDeferred hK3, .tuple #[.agg carr, .int .i64 0], (by first | exact results_cell2 (a := 2) (u := 3) (t := 24) rfl rfl hld | exact (results_cell2 (a := 2) (u := 3) (t := 24) rfl rfl hld : _)), ?_⟩⟩
      refine Gives.mk rfl ?_
      have z1 := hB1.size
      have z2 := hu2.size
      exact ((hB1.trans (hu2.mono (by omega))).trans (below_setCells _ _ _ _ _ (by omega) (by simp))).trans (belowK_b (w := w) (Nat.le_refl _) _ D _ _ (by omega) hK3 rfl rfl)
    | false =>
      have hrr := HRS.out
      rw [hg, if_neg (by simp)] at hrr
      simp only [hg, if_true, Bool.false_eq_true, if_false] at hchk
      subst hrr
      clear HRS hg
      gi_wp2_with (first
        | (refine wpListIn_load_mid rfl rfl 24 (.tmp 4) rfl (w.heap.size + 2) 0 (by rfl) carr.toList (.struct _) hrg Try.underlying24 rfl hsC ?_)
        | (refine ⟨trivial, ?_⟩; gi_at_call 120; refine (callsIn_wide.2 hchk).mono ?_; rintro e w2 ⟨rfl, hu2⟩; have hrg2 := (bC1.up hu2).range; have hth := (bZ1.up hu2).there; rw [hzs] at hth)
        | (refine wpListIn_load_mid rfl rfl 24 (.tmp 4) rfl (w.heap.size + 2) 0 (by rfl) carr.toList (.struct _) hrg2 Try.underlying24 rfl hsC ?_)
        | (refine wpListIn_store_mid rfl rfl 24 (.tmp 2) (.tmp 24) rfl (w.heap.size + 1) 0 zarr (by rfl) (by rw [← hzl]; rfl) (by rw [hzs]; exact hth) hsZ h1Z ?_))
      have hK2 : w2.heap[D]? = some (.deferred (some [])) := (hu2.block (blk_lt hK)).trans hK
      have hK3 : (w2.setCells (w.heap.size + 1) 0 zarr.toList).heap[D]? = some (.deferred (some [])) := (keeps_setCells _ _ _ _).same D _ hK2 rfl
      have hld : (loadVar 24 ⟨w.heap.size + 1, 0, none⟩).run Try.prog ((w2.setCells (w.heap.size + 1) 0 zarr.toList).putObj D (.deferred none)) = .ok (.agg zarr) ((w2.setCells (w.heap.size + 1) 0 zarr.toList).putObj D (.deferred none)) :=
        run_loadVar_mid _ _ _ _ _ (.struct _) (fun j u hj => cell_kept (World.rangeAt_setCells_same w2 _ 0 zarr.toList (by rw [Array.length_toList, hzs]; exact hth) j u hj) (grownBy_putObj' _ D _) (fun r e => by cases e; exact ⟨_, hK3, rfl⟩)) Try.underlying24 rfl hsL
      refine ⟨by simp, .inl ⟨_, _, rfl, run_takeDeferred hK3, .tuple #[.agg zarr, .int .i64 1], (by first | exact results_cell2 (a := 2) (u := 3) (t := 24) rfl rfl hld | exact (results_cell2 (a := 2) (u := 3) (t := 24) rfl rfl hld : _)), ?_⟩⟩
      refine Gives.mk rfl ?_
      have z1 := hB1.size
      have z2 := hu2.size
      exact ((hB1.trans (hu2.mono (by omega))).trans (below_setCells _ _ _ _ _ (by omega) (by simp))).trans (belowK_b (w := w) (Nat.le_refl _) _ D _ _ (by omega) hK3 rfl rfl)
  case stop =>
    rintro D c pre W _ _ h _
    exact h.elim
end Go.Proofs.Ytpnlhnhjedopgaa
