/- conf.List in the model. Written by a small program of mine (genconfc.py). -/
import Derived.Test.YtpnlhnhjedopgaaConfB
set_option maxRecDepth 100000
set_option linter.unusedSimpArgs false
namespace Go.Proofs.Ytpnlhnhjedopgaa
open Go Go.RowKit Go.Shelf Go.Proofs
attribute [local go_sem] Oper.semAt_some

theorem rowIntC : Row1 Try.prog 142 3 (.int .i64 0) 1 8 := ⟨by kernel_rfl, by kernel_rfl, rfl, by decide⟩
theorem own_stay {X Y : World} {base : Nat} {e : TypeId} {size : Nat} {v : Value} {n : Nat} {xs : List Value} {row : Option Nat} (h : X.ownsRow base e size v n xs) (hg : X.grownBy Y row) (hr : ∀ r, row = some r → ∃ o : Obj, X.heap[r]? = some o ∧ o.isCells = false) : Y.ownsRow base e size v n xs := by
  refine ⟨h.1, ?_⟩
  rcases h.2 with h1 | ⟨g, cap, cur, rfl, hb', hb, r⟩
  · exact .inl h1
  · exact .inr ⟨g, cap, cur, rfl, hb', (grownBy_keeps_cells hg hr hb rfl).trans hb, r⟩
theorem own_cells {X : World} {base : Nat} {e : TypeId} {size : Nat} {v : Value} {n : Nat} {xs : List Value} {k : Nat} {ob : Obj} (h : X.ownsRow base e size v n xs) (hk : some k = v.ownBlock) (ho : X.heap[k]? = some ob) (hc : ob.isCells = false) : False := by
  rcases h.2 with ⟨rfl, -⟩ | ⟨g, cap, cur, rfl, -, hb, -⟩
  · simp [Value.ownBlock] at hk
  · simp only [Value.ownBlock, Option.some.injEq] at hk
    subst hk
    rw [hb] at ho
    cases ho
    cases hc
theorem blk_far {w : World} {g : Nat} {o : Obj} (h : w.heap[g]? = some o) (hc : o.isCells = false) {b i : Nat} (v : Value) : (w.setCell ⟨b, i, none⟩ v).heap[g]? = some o := (KeepsOthers.setCell w ⟨b, i, none⟩ v).same g o h hc
theorem blk_cell2 {w : World} {g : Nat} {us : Array Value} {T : TypeId} {fr : Nat × Nat} (h : w.heap[g]? = some (.cells us T fr)) {i : Nat} {u : Value} (hu : us[i]? = some u) : w.cell? ⟨g, i, none⟩ = some u := by
  simp [World.cell?, h, hu]
set_option maxHeartbeats 8000000 in
theorem conflist_any (c : Cnf) (w : World) : Calls Try.prog 121 #[.agg c.arr] w (fun e w' => ∃ u, e = .returned u ∧ w'.ownsRow w.heap.size 3 1 u 9 (c.l.map fun n => .int .i64 n) ∧ Up w w') := by
  refine (callsIn_wide (n := 9)).1 ?_
  refine callsIn_of_wp_marks Try.func121 rfl trivial ?_ rfl
  simp only [Try.ntmps121, List.size_toArray, List.length_cons, List.length_nil, Nat.reduceAdd, Nat.reduceSub, Array.replicate_succ, Array.replicate_zero, List.push_toArray, List.append_toArray, List.nil_append, List.cons_append]
  obtain ⟨arr, harr⟩ : ∃ arr, c.arr = arr := ⟨_, rfl⟩
  have hat : ∀ i, i < 9 → arr[i]? = some (.int .i64 (c.l[i]?.getD 0)) := fun i hi => by rw [← harr]; exact c.at hi
  rw [harr]
  clear harr
  gi_wp2_with (refine ⟨trivial, ?_⟩; gi_at_call 142; refine (callsIn_wide.2 (places_w _ _)).mono ?_; rintro e w1 ⟨A, T0, rfl, hA, hAl, hu⟩)
  have hu1 : Up w w1 := (((Up.refl w).alloc _).alloc _).trans hu
  have bC0 : BlkIs (w.alloc (.cells arr 24)) w.heap.size arr := ⟨_, blk_new w _⟩
  have bC : BlkIs w1 w.heap.size arr := (bC0.alloc _).up hu
  have bO0 : BlkIs ((w.alloc (.cells arr 24)).alloc (.cells #[.slice none 0 0] 142)) (w.heap.size + 1) #[.slice none 0 0] := ⟨_, blk_new' (by simp)⟩
  have bO : BlkIs w1 (w.heap.size + 1) #[.slice none 0 0] := bO0.up hu
  have hsz : w.heap.size + 2 ≤ w1.heap.size := by have := hu.size; simp at this; omega
  clear hu
  refine wpIn_rangeFunc_ownH rfl (by omega) (gf := 158) (lb := #[.pointer (some ⟨A, 0, none⟩)]) rfl trivial (enters_of Try.func158 (by kernel_rfl) rfl)
    (places_stops 8 w.heap.size A T0 w1 hA) (fun _ _ => trivial) (fun _ _ _ _ _ _ _ _ => trivial) (Below.refl _ _) (fun _ => rfl)
    (fun pre W => (∃ u, (BlkIs W (w.heap.size + 1) #[u] ∧ W.ownsRow (w.heap.size + 2) 3 1 u pre.length (pre.map fun i => .int .i64 (c.l[i.val]?.getD 0))) ∧ BlkIs W w.heap.size arr) ∧ Below w.heap.size w W)
    (fun _ _ _ => False)
    (OwnFrom.and (fun s X Y row hs hg hr => by
      obtain ⟨u, ⟨h1, h2⟩, h3⟩ := hs
      have hr' := fun r e => (hr r e).2
      exact ⟨u, ⟨BlkIs.own (β := Unit) _ (fun _ => #[u]) () _ _ _ h1 hg hr', own_stay h2 hg hr'⟩, BlkIs.own (β := Unit) _ (fun _ => arr) () _ _ _ h3 hg hr'⟩) (ownFrom_below (Nat.le_refl _) (by omega)))
    (fun _ _ _ _ _ hs _ _ => hs)
    ⟨⟨_, ⟨bO, ⟨rfl, .inl ⟨rfl, rfl⟩⟩⟩, bC⟩, hu1⟩
    (fun x a' W => ∃ Bx, w.heap.size + 1 < Bx ∧ W.heap[Bx]? = some (.cells #[.pointer (some ⟨w.heap.size, x.val, none⟩), .int .i64 (leastL[x.val]?.getD 0), .int .i64 (mostL[x.val]?.getD 0)] 224 (0, 0)) ∧ a' = { tmps := #[.agg arr, .pointer (some ⟨w.heap.size, 0, none⟩), .slice none 0 0, .pointer (some ⟨w.heap.size + 1, 0, none⟩), undef, .pointer (some ⟨Bx, 0, none⟩), .func (.func 158) #[] #[.pointer (some ⟨A, 0, none⟩)], .int .i64 (x.val : Nat), .agg #[.pointer (some ⟨w.heap.size, x.val, none⟩), .int .i64 (leastL[x.val]?.getD 0), .int .i64 (mostL[x.val]?.getD 0)], undef, undef, undef, undef, undef, undef, undef, undef], defers := [] })
    (fun x a' _ X Y row hs hg hr => by obtain ⟨Bx, h1, h2, h3⟩ := hs; exact ⟨Bx, h1, (grownBy_keeps_cells hg (fun r e => (hr r e).2) h2 rfl).trans h2, h3⟩)
    ?assign ?body ?done ?stop
  case assign =>
    rintro l pre x W K ⟨⟨u, ⟨bO1, hO⟩, bC1⟩, hB1⟩ hK
    dsimp only [plEnc]
    gi_wp2
    exact hK _ _ ((KeepsOthers.alloc _ _).from _) trivial ⟨⟨u, ⟨bO1.alloc _, hO.alloc _⟩, bC1.alloc _⟩, hB1.alloc hB1.size _⟩ ⟨W.heap.size, bO1.lt, blk_new _ _, rfl⟩
  case body =>
    rintro l pre x a' W hl ⟨rr, hrr⟩ ⟨⟨u, ⟨⟨TO, bO1⟩, hO⟩, ⟨TC, bC1⟩⟩, hB1⟩ ⟨Bx, hBx, bX, rfl⟩ hlt
    have hOd : W.drew.heap[w.heap.size + 1]? = some (.cells #[u] TO (0, 0)) := bO1
    have hCd : W.drew.heap[w.heap.size]? = some (.cells arr TC (0, 0)) := bC1
    have bXd : W.drew.heap[Bx]? = some (.cells #[.pointer (some ⟨w.heap.size, x.val, none⟩), .int .i64 (leastL[x.val]?.getD 0), .int .i64 (mostL[x.val]?.getD 0)] 224 (0, 0)) := bX
    have bCd : BlkIs W.drew w.heap.size arr := ⟨_, hCd⟩
    have hne : some Bx ≠ u.ownBlock := own_not hO bX (by decide)
    have hneC : some w.heap.size ≠ u.ownBlock := fun e => by have := (hO.lt _ e.symm).1; omega
    have hneO : some (w.heap.size + 1) ≠ u.ownBlock := fun e => by have := (hO.lt _ e.symm).1; omega
    have cO : W.drew.cell? ⟨w.heap.size + 1, 0, none⟩ = some u := blk_cell hOd 0
    have cO2 : ∀ ob, ((W.alloc ob).drew).cell? ⟨w.heap.size + 1, 0, none⟩ = some u := fun ob => blk_cell (w := W.drew.alloc ob) (blk_alloc hOd) 0
    have hlW := blk_lt bO1
    have hxv := hat x.val x.isLt
    generalize hv : c.l[x.val]?.getD 0 = v at *
    refine wpIn_block ?_
    refine region_held_in (S := fun w' => w'.cell? ⟨Bx, 0, none⟩ = some (.pointer (some ⟨w.heap.size, x.val, none⟩)) ∧ w'.cell? ⟨w.heap.size, x.val, none⟩ = some (.int .i64 v)) (by kernel_rfl) (by kernel_rfl) (by rintro ⟨a, w, h⟩; exact h) ⟨(blk_cell bXd 0).trans rfl, blk_cell2 hCd hxv⟩ fun hS => ?_
    refine wpAnyH_take (i := 1) (oi := { dst := some 10, op := _, type := _, pos := _, after := _, guard := _ }) (v := .pointer (some ⟨Bx, 0, none⟩)) rfl (by kernel_rfl) (by kernel_rfl) (by kernel_rfl) (fun _ _ _ h => h) (.inl ⟨rfl, fun w' hw' => ?_⟩) (by assumption) ?_
    · have hc0 := hw'.1; have hc1 := hw'.2; clear hw'; go_simp
    simp only [Act.put, List.setIfInBounds_toArray, List.set_cons_zero, List.set_cons_succ]
    refine wpAnyH_take (i := 2) (oi := { dst := some 11, op := _, type := _, pos := _, after := _, guard := _ }) (v := .pointer (some ⟨w.heap.size, x.val, none⟩)) rfl (by kernel_rfl) (by kernel_rfl) (by kernel_rfl) (fun _ _ _ h => h) (.inl ⟨rfl, fun w' hw' => ?_⟩) (by assumption) ?_
    · have hc0 := hw'.1; have hc1 := hw'.2; clear hw'; go_simp
    simp only [Act.put, List.setIfInBounds_toArray, List.set_cons_zero, List.set_cons_succ]
    refine wpAnyH_take (i := 3) (oi := { dst := some 12, op := _, type := _, pos := _, after := _, guard := _ }) (v := .pointer (some ⟨w.heap.size, x.val, none⟩)) rfl (by kernel_rfl) (by kernel_rfl) (by kernel_rfl) (fun _ _ _ h => h) (.inl ⟨rfl, fun w' hw' => ?_⟩) (by assumption) ?_
    · have hc0 := hw'.1; have hc1 := hw'.2; clear hw'; go_simp
    simp only [Act.put, List.setIfInBounds_toArray, List.set_cons_zero, List.set_cons_succ]
    refine wpAnyH_take (i := 4) (oi := { dst := some 13, op := _, type := _, pos := _, after := _, guard := _ }) (v := .int .i64 v) rfl (by kernel_rfl) (by kernel_rfl) (by kernel_rfl) (fun _ _ _ h => h) (.inl ⟨rfl, fun w' hw' => ?_⟩) (by assumption) ?_
    · have hc0 := hw'.1; have hc1 := hw'.2; clear hw'; go_simp
    simp only [Act.put, List.setIfInBounds_toArray, List.set_cons_zero, List.set_cons_succ]
    refine wpAnyH_ready (rs := [0, 5]) (by kernel_rfl) (by simp) (.cons rfl (fun K' hK => ?_) (.cons rfl (fun K2 hK2 => ?_) .nil))
    · refine step_go rfl ?_
      go_simp
      refine hK.out _ _ (by assumption) fun hS1 => ?_
      refine wpAnyH_ready (rs := [5]) (by kernel_rfl) (by simp) (.cons rfl (fun K' hK => ?_) .nil)
      refine step_go rfl ?_
      go_simp
      refine hK.out _ _ ⟨(blk_cell (blk_alloc bXd) 0).trans rfl, (bCd.alloc _).cell x.val |>.trans hxv⟩ fun hS1 => ?_
      refine wpAnyH_ready (rs := [6]) (by kernel_rfl) (by simp) (.cons rfl (fun K' hK => ?_) .nil)
      refine step_app rfl (.tmp 9) (.tmp 14) 142 3 rfl rowIntC (base := w.heap.size + 2) (by simp; omega) (v := u) (n := pre.length) (xs := pre.map fun (i : Fin 9) => Value.int .i64 (c.l[i.val]?.getD 0)) (by rfl) (by first | exact (own_drew hO).alloc _ | exact own_drew (hO.alloc _)) W.heap.size #[.int .i64 v] (by rfl) rfl (T := 3) (blk_new' rfl) (by simp [Value.oneCell']) (by unfold maxLen; omega) (by omega) fun u2 wA hoA => ?_
      refine hK.out _ _ ⟨(blk_cell (hoA.blocks _ _ (blk_alloc bXd) hne) 0).trans rfl, blk_cell2 (hoA.blocks _ _ (blk_alloc hCd) hneC) hxv⟩ fun hS2 => ?_
      simp only [Act.put, List.setIfInBounds_toArray, List.set_cons_zero, List.set_cons_succ]
      refine wpAnyH_ready (rs := [7]) (by kernel_rfl) (by simp) (.cons rfl (fun K' hK => ?_) .nil)
      have oA := hoA.blocks _ _ (blk_alloc hOd) hneO
      have cO : wA.cell? ⟨w.heap.size + 1, 0, none⟩ = some u := blk_cell oA 0
      have fO : wA.frozen? ⟨w.heap.size + 1, 0, none⟩ = false := blk_free oA 0
      have hzA := hoA.size
      obtain ⟨pz, cz, rfl, hnz, hmz⟩ := own_slice hoA.own
      refine step_go rfl ?_
      go_simp
      refine hK.out _ _ ⟨?_, ?_⟩ fun hS3 => ?_
      · exact (blk_cell (blk_ne (hoA.blocks _ _ (blk_alloc bXd) hne) (by omega) _) 0).trans rfl
      · exact blk_cell2 (blk_ne (hoA.blocks _ _ (blk_alloc hCd) hneC) (by omega) _) hxv
      refine wpAnyH_done (by kernel_rfl) ?_ _
      gi_wp2
      refine ⟨?_, trivial, ⟨⟨.slice pz (pre.length + 1) cz, ⟨TO, ?_⟩, ?_⟩, ⟨TC, ?_⟩⟩, ?_⟩
      · refine ⟨by simp at hzA ⊢; omega, fun k ob hk hob hoc => ?_⟩
        refine blk_far ?_ hoc _
        refine hoA.blocks _ _ (blk_alloc hob) fun e => ?_
        exact own_cells hO e hob hoc
      · exact blk_set oA 0 _
      · have h1 := ownsRow_setCell_below hoA.own (a := ⟨w.heap.size + 1, 0, none⟩) (Nat.lt_succ_self _) (.slice pz (pre.length + 1) cz)
        rw [List.map_append, List.length_append]
        simp only [List.map_cons, List.map_nil, hv]
        exact h1
      · exact blk_ne (hoA.blocks _ _ (blk_alloc hCd) hneC) (by omega) _
      · exact (hoA.up w (by omega) ((hB1.drew).alloc hB1.size _)).setCell (p := ⟨w.heap.size + 1, 0, none⟩) (by simp) _
    · refine step_go rfl ?_
      go_simp
      refine hK2.out _ _ ⟨(blk_cell (blk_alloc bXd) 0).trans rfl, (bCd.alloc _).cell x.val |>.trans hxv⟩ fun hS1 => ?_
      refine wpAnyH_ready (rs := [0]) (by kernel_rfl) (by simp) (.cons rfl (fun K' hK => ?_) .nil)
      refine step_go rfl ?_
      go_simp
      refine hK.out _ _ (by assumption) fun hS1 => ?_
      refine wpAnyH_ready (rs := [6]) (by kernel_rfl) (by simp) (.cons rfl (fun K' hK => ?_) .nil)
      refine step_app rfl (.tmp 9) (.tmp 14) 142 3 rfl rowIntC (base := w.heap.size + 2) (by simp; omega) (v := u) (n := pre.length) (xs := pre.map fun (i : Fin 9) => Value.int .i64 (c.l[i.val]?.getD 0)) (by rfl) (by first | exact (own_drew hO).alloc _ | exact own_drew (hO.alloc _)) W.heap.size #[.int .i64 v] (by rfl) rfl (T := 3) (blk_new' rfl) (by simp [Value.oneCell']) (by unfold maxLen; omega) (by omega) fun u2 wA hoA => ?_
      refine hK.out _ _ ⟨(blk_cell (hoA.blocks _ _ (blk_alloc bXd) hne) 0).trans rfl, blk_cell2 (hoA.blocks _ _ (blk_alloc hCd) hneC) hxv⟩ fun hS2 => ?_
      simp only [Act.put, List.setIfInBounds_toArray, List.set_cons_zero, List.set_cons_succ]
      refine wpAnyH_ready (rs := [7]) (by kernel_rfl) (by simp) (.cons rfl (fun K' hK => ?_) .nil)
      have oA := hoA.blocks _ _ (blk_alloc hOd) hneO
      have cO : wA.cell? ⟨w.heap.size + 1, 0, none⟩ = some u := blk_cell oA 0
      have fO : wA.frozen? ⟨w.heap.size + 1, 0, none⟩ = false := blk_free oA 0
      have hzA := hoA.size
      obtain ⟨pz, cz, rfl, hnz, hmz⟩ := own_slice hoA.own
      refine step_go rfl ?_
      go_simp
      refine hK.out _ _ ⟨?_, ?_⟩ fun hS3 => ?_
      · exact (blk_cell (blk_ne (hoA.blocks _ _ (blk_alloc bXd) hne) (by omega) _) 0).trans rfl
      · exact blk_cell2 (blk_ne (hoA.blocks _ _ (blk_alloc hCd) hneC) (by omega) _) hxv
      refine wpAnyH_done (by kernel_rfl) ?_ _
      gi_wp2
      refine ⟨?_, trivial, ⟨⟨.slice pz (pre.length + 1) cz, ⟨TO, ?_⟩, ?_⟩, ⟨TC, ?_⟩⟩, ?_⟩
      · refine ⟨by simp at hzA ⊢; omega, fun k ob hk hob hoc => ?_⟩
        refine blk_far ?_ hoc _
        refine hoA.blocks _ _ (blk_alloc hob) fun e => ?_
        exact own_cells hO e hob hoc
      · exact blk_set oA 0 _
      · have h1 := ownsRow_setCell_below hoA.own (a := ⟨w.heap.size + 1, 0, none⟩) (Nat.lt_succ_self _) (.slice pz (pre.length + 1) cz)
        rw [List.map_append, List.length_append]
        simp only [List.map_cons, List.map_nil, hv]
        exact h1
      · exact blk_ne (hoA.blocks _ _ (blk_alloc hCd) hneC) (by omega) _
      · exact (hoA.up w (by omega) ((hB1.drew).alloc hB1.size _)).setCell (p := ⟨w.heap.size + 1, 0, none⟩) (by simp) _
  case done =>
    rintro D xs W hD rfl ⟨⟨u, ⟨bO1, hO⟩, bC1⟩, hB1⟩ hK
    have cO : W.cell? ⟨w.heap.size + 1, 0, none⟩ = some u := (bO1.cell 0).trans rfl
    gi_wp2
    refine ⟨by simp, .inl ⟨_, _, rfl, run_takeDeferred hK, u, by simp [results, Try.results121, go_sem], ?_⟩⟩
    refine ⟨u, rfl, own_lower (by omega) (own_stay hO (grownBy_putObj' _ D _) (fun r e => by cases e; exact ⟨_, hK, rfl⟩)), hB1.trans (belowK_b (w := w) (Nat.le_refl _) _ D _ _ (by omega) hK rfl rfl)⟩
  case stop =>
    rintro D c pre W _ _ h _
    exact h.elim
end Go.Proofs.Ytpnlhnhjedopgaa
