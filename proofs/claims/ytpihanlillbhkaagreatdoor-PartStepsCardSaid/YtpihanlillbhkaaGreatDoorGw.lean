/- One text out of several: PrtA, PrtB, PrtC. -/
import Derived.Test.YtpihanlillbhkaaGreatDoorGn
import Derived.Test.YtpihanlillbhkaaGreatDoorGs
import Derived.Test.YtpihanlillbhkaaGreatDoorGu

section
/- part: names of leases where there is no map, at the place where they lie in a partition. -/
set_option maxRecDepth 100000
set_option linter.unusedSimpArgs false
namespace Go.Proofs.YtpihanlillbhkaaGreatDoor
open Go Go.RowKit Go.Proofs Go.Maps Go.Sort Go.Shelf

set_option maxHeartbeats 1000000 in
theorem pnames_nomap (bb : Nat) (w : World) (hc0 : w.cell? ⟨bb, 6, none⟩ = some (.map none)) : Calls Tryz.prog 40 #[.pointer (some ⟨bb, 6, none⟩)] w fun e w' => e = .returned (.slice none 0 0) ∧ Up w w' := by
  refine (callsIn_wide (n := 6)).1 ?_
  have hseq : SeqGives Fence.wide 2 Tryz.prog 102 #[.pointer (some ⟨w.heap.size, 0, none⟩)] encStr (fun ss : List (List UInt8) => ss = []) 0 (w.alloc (.cells #[.map none] 61)) :=
    AnyZ.keys_gives_nil (ρ := keysLe_ren) { keysLe with } Fence.wide _ trivial rfl w.heap.size _ (by simp) (by simp)
  have cK : ∀ mb W, CallsIn Fence.wide 5 Tryz.prog 76 #[.map mb] W fun e w' => e = .returned (.func (.func 102) #[] #[.pointer (some ⟨W.heap.size, 0, none⟩)]) ∧ w' = W.alloc (.cells #[.map mb] 61) := fun mb W => AnyZ.keys_in keysLe Fence.wide 5 trivial rfl mb W
  have cS := AnyZ.sorted_in sortedLe Fence.wide 5 trivial trivial trivial trivial rfl (by omega) (sortsLe _) (enters_of Tryz.func70 (by kernel_rfl) rfl) 102 #[.pointer (some ⟨w.heap.size, 0, none⟩)] trivial (enters_of Tryz.func102 (by kernel_rfl) rfl) _ 0 (Nat.zero_le _) (by omega) _ hseq
  change CallsIn _ _ Tryz.prog 75 _ _ _ at cS
  have hfK : Fence.wide.fn 76 := trivial
  have hfS : Fence.wide.fn 75 := trivial
  refine callsIn_of_wp Tryz.func40 rfl trivial ?_ rfl
  simp only [Tryz.ntmps40, List.size_toArray, List.length_cons, List.length_nil, Nat.reduceAdd, Nat.reduceSub, Array.replicate_succ, Array.replicate_zero, List.push_toArray, List.append_toArray, List.nil_append, List.cons_append]
  gi_wp2_with (first
    | (gi_at_call 76; refine (cK _ _).mono ?_; rintro e w' ⟨rfl, rfl⟩)
    | (gi_at_call 75; refine cS.mono ?_; rintro e w' ⟨v, ss, rfl, rfl, hrow, hnil, hb⟩; obtain rfl : v = .slice none 0 0 := hnil.2 rfl))
  go_ret
  exact ⟨rfl, ((Below.refl _ w).alloc (Nat.le_refl _) _).trans (hb.mono (by simp))⟩
theorem pnames_ok (G : Glob) (b : Nat) (cs : List AV) (h : G b = some (.cells cs)) (h6 : cs[6]? = some .nilm) : CallOk Tryz.prog TT 40 [.gptr b 6] G (fun v G' => v = .nils ∧ G' = G) := by
  refine ⟨⟨_, Tryz.func40, by decide, rfl⟩, fun g us w hr hl hd => ?_⟩
  obtain ⟨us⟩ := us
  match us, hl with
  | [u0], _ =>
    obtain ⟨b1, b2, vs, e, h1, h2, h3, h4⟩ := hr b _ h
    have e0 := hd 0 _ u0 rfl rfl
    cases e0 with
    | gptr _ _ hb =>
      have hlt : 6 < vs.size := by rw [h2]; exact (List.getElem?_eq_some_iff.1 h6).1
      have hv : vs[6]? = some vs[6] := by simp [hlt]
      have hz := h4 6 _ _ h6 hv
      generalize vs[6] = v6 at hv hz
      cases hz
      refine (pnames_nomap (g.beta b) w (by rw [blk_cell h1, hv])).mono fun e w' hh => ?_
      obtain ⟨rfl, hu⟩ := hh
      have ext := up_ext hu g
      exact ⟨_, g, G, .nils, rfl, ⟨rfl, rfl⟩, hr.keep ext.dx fun b k _ _ hlt => ⟨rfl, hu.block hlt⟩, ext, .nils⟩
end Go.Proofs.YtpihanlillbhkaaGreatDoor
end

section
/- part: adding to a counter; the nil partition; the document's example. -/
set_option maxRecDepth 100000
set_option linter.unusedSimpArgs false
namespace Go.Proofs.YtpihanlillbhkaaGreatDoor
open Go Go.RowKit Go.Proofs

theorem pnew_ok (G : Glob) : CallOk Tryz.prog TT 7 [] G (fun v G' => ∃ b, G b = none ∧ v = .gptr b 0 ∧ G' = setG G b (.cells [.nilm, .int .i64 0, .nilm, .int .i64 0, .nilm, .int .i64 0, .nilm, .int .i64 0])) := by
  refine call_body tt_ok Tryz.func7 rfl (by kernel_rfl) Tryz.ntmps7 Tryz.results7 ?_; conv => whnf
  repeat' (first | ((first | refine BS_t (by assumption) ?_ | refine BS_f (by assumption) ?_ | refine atG (by repeat (first | assumption | exact setG_same _ _ _ | refine atNe (by first | assumption | exact Ne.symm (by assumption)) ?_)) ?_ | refine nthKi (by assumption) ?_ | refine ⟨_, ⟨(by omega), (by assumption)⟩, ?_⟩ | refine And.intro (by first | decide | omega) ?_); conv => whnf) | fail)
  intro b hb
  conv => whnf
  exact ⟨_, fun _ _ h => h, b, hb, rfl, rfl⟩
theorem ours_ok (nm tx : ByteArray) (k u : Int) (G : Glob) : CallOk Tryz.prog TT 9 [.agg [.str nm, .str tx, .int .i64 k, .int .u64 u]] G (fun v G' => v = .agg [.str nm, .str tx, .int .i64 k, .int .u64 u] ∧ G' = G) := by
  refine call_sem tt_ok Tryz.func9 rfl (by kernel_rfl) Tryz.ntmps9 Tryz.results9 ?_; conv => whnf
  repeat' (first | ((first | refine Sem.st tt_ok rfl ?_ | refine BS_t (by assumption) ?_ | refine BS_f (by assumption) ?_ | refine atG (by repeat (first | assumption | exact setG_same _ _ _ | refine atNe (by first | assumption | exact Ne.symm (by assumption)) ?_)) ?_ | refine nthKi (by assumption) ?_ | refine ⟨_, ⟨(by omega), (by assumption)⟩, ?_⟩ | refine And.intro (by first | decide | omega) ?_); conv => whnf) | refine Sem.seqS ?_ | refine Sem.block ?_)
  exact ⟨_, fun _ _ h => h, rfl, rfl⟩
/-- what a partition's stores weigh -/
theorem ksize_at {G : Glob} {b : Nat} {a0 a2 a3 a4 a5 a6 a7 : AV} {n : Int} (h : G b = some (.cells [a0, .int .i64 n, a2, a3, a4, a5, a6, a7])) : CallOk Tryz.prog TT 19 [.gptr b 0] G (fun v G' => v = .int .i64 n ∧ G' = G) := by
  refine call_sem tt_ok Tryz.func19 rfl (by kernel_rfl) Tryz.ntmps19 Tryz.results19 ?_; conv => whnf
  repeat' (first | ((first | refine Sem.st tt_ok rfl ?_ | refine BS_t (by assumption) ?_ | refine BS_f (by assumption) ?_ | refine atG (by repeat (first | assumption | exact setG_same _ _ _ | refine atNe (by first | assumption | exact Ne.symm (by assumption)) ?_)) ?_ | refine nthKi (by assumption) ?_ | refine ⟨_, ⟨(by omega), (by assumption)⟩, ?_⟩ | refine And.intro (by first | decide | omega) ?_); conv => whnf) | refine Sem.seqS ?_ | refine Sem.block ?_)
  exact ⟨_, fun _ _ h => h, rfl, rfl⟩
theorem csize_at {G : Glob} {b : Nat} {a0 a1 a2 a4 a5 a6 a7 : AV} {n : Int} (h : G b = some (.cells [a0, a1, a2, .int .i64 n, a4, a5, a6, a7])) : CallOk Tryz.prog TT 20 [.gptr b 2] G (fun v G' => v = .int .i64 n ∧ G' = G) := by
  refine call_sem tt_ok Tryz.func20 rfl (by kernel_rfl) Tryz.ntmps20 Tryz.results20 ?_; conv => whnf
  repeat' (first | ((first | refine Sem.st tt_ok rfl ?_ | refine BS_t (by assumption) ?_ | refine BS_f (by assumption) ?_ | refine atG (by repeat (first | assumption | exact setG_same _ _ _ | refine atNe (by first | assumption | exact Ne.symm (by assumption)) ?_)) ?_ | refine nthKi (by assumption) ?_ | refine ⟨_, ⟨(by omega), (by assumption)⟩, ?_⟩ | refine And.intro (by first | decide | omega) ?_); conv => whnf) | refine Sem.seqS ?_ | refine Sem.block ?_)
  exact ⟨_, fun _ _ h => h, rfl, rfl⟩
theorem fsize_at {G : Glob} {b : Nat} {a0 a1 a2 a3 a4 a6 a7 : AV} {n : Int} (h : G b = some (.cells [a0, a1, a2, a3, a4, .int .i64 n, a6, a7])) : CallOk Tryz.prog TT 21 [.gptr b 4] G (fun v G' => v = .int .i64 n ∧ G' = G) := by
  refine call_sem tt_ok Tryz.func21 rfl (by kernel_rfl) Tryz.ntmps21 Tryz.results21 ?_; conv => whnf
  repeat' (first | ((first | refine Sem.st tt_ok rfl ?_ | refine BS_t (by assumption) ?_ | refine BS_f (by assumption) ?_ | refine atG (by repeat (first | assumption | exact setG_same _ _ _ | refine atNe (by first | assumption | exact Ne.symm (by assumption)) ?_)) ?_ | refine nthKi (by assumption) ?_ | refine ⟨_, ⟨(by omega), (by assumption)⟩, ?_⟩ | refine And.intro (by first | decide | omega) ?_); conv => whnf) | refine Sem.seqS ?_ | refine Sem.block ?_)
  exact ⟨_, fun _ _ h => h, rfl, rfl⟩
theorem lsize_at {G : Glob} {b : Nat} {a0 a1 a2 a3 a4 a5 a6 : AV} {n : Int} (h : G b = some (.cells [a0, a1, a2, a3, a4, a5, a6, .int .i64 n])) : CallOk Tryz.prog TT 22 [.gptr b 6] G (fun v G' => v = .int .i64 n ∧ G' = G) := by
  refine call_sem tt_ok Tryz.func22 rfl (by kernel_rfl) Tryz.ntmps22 Tryz.results22 ?_; conv => whnf
  repeat' (first | ((first | refine Sem.st tt_ok rfl ?_ | refine BS_t (by assumption) ?_ | refine BS_f (by assumption) ?_ | refine atG (by repeat (first | assumption | exact setG_same _ _ _ | refine atNe (by first | assumption | exact Ne.symm (by assumption)) ?_)) ?_ | refine nthKi (by assumption) ?_ | refine ⟨_, ⟨(by omega), (by assumption)⟩, ?_⟩ | refine And.intro (by first | decide | omega) ?_); conv => whnf) | refine Sem.seqS ?_ | refine Sem.block ?_)
  exact ⟨_, fun _ _ h => h, rfl, rfl⟩
theorem psize_at {G : Glob} {b : Nat} {a0 a2 a4 a6 : AV} {n0 n1 n2 n3 : Int} (h : G b = some (.cells [a0, .int .i64 n0, a2, .int .i64 n1, a4, .int .i64 n2, a6, .int .i64 n3])) (b0 : 0 ≤ n0 ∧ n0 ≤ 1000000000000000) (b1 : 0 ≤ n1 ∧ n1 ≤ 1000000000000000) (b2 : 0 ≤ n2 ∧ n2 ≤ 1000000000000000) (b3 : 0 ≤ n3 ∧ n3 ≤ 1000000000000000) :
    CallOk Tryz.prog TT 11 [.gptr b 0] G (fun v G' => v = .int .i64 (n0 + n1 + n2 + n3) ∧ G' = G) := by
  have h0 := ksize_at h
  have h1 := csize_at h
  have h2 := fsize_at h
  have h3 := lsize_at h
  have w1 : IntKind.i64.wrap (n0 + n1) = n0 + n1 := IntWalk.i64_in _ (by omega)
  have w2 : IntKind.i64.wrap (n0 + n1 + n2) = n0 + n1 + n2 := IntWalk.i64_in _ (by omega)
  have w3 : IntKind.i64.wrap (n0 + n1 + n2 + n3) = n0 + n1 + n2 + n3 := IntWalk.i64_in _ (by omega)
  refine call_sem tt_ok Tryz.func11 rfl (by kernel_rfl) Tryz.ntmps11 Tryz.results11 ?_; conv => whnf
  repeat' (first | ((first | refine Sem.st tt_ok rfl ?_ | refine BS_t (by assumption) ?_ | refine BS_f (by assumption) ?_ | refine atG (by repeat (first | assumption | exact setG_same _ _ _ | refine atNe (by first | assumption | exact Ne.symm (by assumption)) ?_)) ?_ | refine nthKi (by assumption) ?_ | refine ⟨_, ⟨(by omega), (by assumption)⟩, ?_⟩ | refine And.intro (by first | decide | omega) ?_); conv => whnf) | refine Sem.seqS ?_ | refine Sem.block ?_)
  refine draw_sound (eff := []) tt_ok (by kernel_rfl) (by kernel_rfl) ?_; conv => whnf
  repeat' (first | ((first | refine BS_t (by assumption) ?_ | refine BS_f (by assumption) ?_ | refine atG (by repeat (first | assumption | exact setG_same _ _ _ | refine atNe (by first | assumption | exact Ne.symm (by assumption)) ?_)) ?_ | refine nthKi (by assumption) ?_ | refine ⟨_, ⟨(by omega), (by assumption)⟩, ?_⟩ | refine And.intro (by first | decide | omega) ?_); conv => whnf) | fail)
  refine ⟨_, _, h0, ?_⟩; (conv => whnf); refine And.intro rfl ?_; conv => whnf
  repeat' (first | ((first | refine BS_t (by assumption) ?_ | refine BS_f (by assumption) ?_ | refine atG (by repeat (first | assumption | exact setG_same _ _ _ | refine atNe (by first | assumption | exact Ne.symm (by assumption)) ?_)) ?_ | refine nthKi (by assumption) ?_ | refine ⟨_, ⟨(by omega), (by assumption)⟩, ?_⟩ | refine And.intro (by first | decide | omega) ?_); conv => whnf) | fail)
  refine ⟨_, _, h1, ?_⟩; (conv => whnf); refine And.intro rfl ?_; conv => whnf
  repeat' (first | ((first | refine BS_t (by assumption) ?_ | refine BS_f (by assumption) ?_ | refine atG (by repeat (first | assumption | exact setG_same _ _ _ | refine atNe (by first | assumption | exact Ne.symm (by assumption)) ?_)) ?_ | refine nthKi (by assumption) ?_ | refine ⟨_, ⟨(by omega), (by assumption)⟩, ?_⟩ | refine And.intro (by first | decide | omega) ?_); conv => whnf) | fail)
  refine ⟨_, _, h2, ?_⟩; (conv => whnf); refine And.intro rfl ?_; conv => whnf
  repeat' (first | ((first | refine BS_t (by assumption) ?_ | refine BS_f (by assumption) ?_ | refine atG (by repeat (first | assumption | exact setG_same _ _ _ | refine atNe (by first | assumption | exact Ne.symm (by assumption)) ?_)) ?_ | refine nthKi (by assumption) ?_ | refine ⟨_, ⟨(by omega), (by assumption)⟩, ?_⟩ | refine And.intro (by first | decide | omega) ?_); conv => whnf) | fail)
  refine ⟨_, _, h3, ?_⟩; (conv => whnf); refine And.intro rfl ?_; conv => whnf
  repeat' (first | ((first | refine BS_t (by assumption) ?_ | refine BS_f (by assumption) ?_ | refine atG (by repeat (first | assumption | exact setG_same _ _ _ | refine atNe (by first | assumption | exact Ne.symm (by assumption)) ?_)) ?_ | refine nthKi (by assumption) ?_ | refine ⟨_, ⟨(by omega), (by assumption)⟩, ?_⟩ | refine And.intro (by first | decide | omega) ?_); conv => whnf) | fail)
  repeat' (first | ((first | refine Sem.st tt_ok rfl ?_ | refine BS_t (by assumption) ?_ | refine BS_f (by assumption) ?_ | refine atG (by repeat (first | assumption | exact setG_same _ _ _ | refine atNe (by first | assumption | exact Ne.symm (by assumption)) ?_)) ?_ | refine nthKi (by assumption) ?_ | refine ⟨_, ⟨(by omega), (by assumption)⟩, ?_⟩ | refine And.intro (by first | decide | omega) ?_); conv => whnf) | refine Sem.seqS ?_ | refine Sem.block ?_)
  refine ⟨_, fun _ _ h => h, ?_, rfl⟩
  rw [w1, w2, w3]
/-- leases that are not there have none that is over -/
theorem lexpire_at {G : Glob} {b : Nat} {cs : List AV} (h : G b = some (.cells cs)) (h6 : cs[6]? = some .nilm) (now : Int) : CallOk Tryz.prog TT 16 [.gptr b 6, .int .i64 now] G (fun v G' => v = .tup [] ∧ G' = G) := by
  have hn := pnames_ok G b cs h h6
  refine call_sem tt_ok Tryz.func16 rfl (by kernel_rfl) Tryz.ntmps16 Tryz.results16 ?_; conv => whnf
  repeat' (first | ((first | refine Sem.st tt_ok rfl ?_ | refine BS_t (by assumption) ?_ | refine BS_f (by assumption) ?_ | refine atG (by repeat (first | assumption | exact setG_same _ _ _ | refine atNe (by first | assumption | exact Ne.symm (by assumption)) ?_)) ?_ | refine nthKi (by assumption) ?_ | refine ⟨_, ⟨(by omega), (by assumption)⟩, ?_⟩ | refine And.intro (by first | decide | omega) ?_); conv => whnf) | refine Sem.seqS ?_ | refine Sem.block ?_)
  refine hn.on ?_; conv => whnf
  repeat' (first | ((first | refine Sem.st tt_ok rfl ?_ | refine BS_t (by assumption) ?_ | refine BS_f (by assumption) ?_ | refine atG (by repeat (first | assumption | exact setG_same _ _ _ | refine atNe (by first | assumption | exact Ne.symm (by assumption)) ?_)) ?_ | refine nthKi (by assumption) ?_ | refine ⟨_, ⟨(by omega), (by assumption)⟩, ?_⟩ | refine And.intro (by first | decide | omega) ?_); conv => whnf) | refine Sem.seqS ?_ | refine Sem.block ?_)
  refine Sem.loop (ι := Unit) (fun _ => ⟨(.gptr b 6 :: .int .i64 now :: .top :: .top :: .top :: .top :: .top :: .top :: .int .i64 0 :: .int .i64 0 :: .top :: .top :: .top :: .top :: .top :: .top :: .top :: .top :: .top :: .top :: .top :: .top :: .top :: .top :: .top :: .top :: []), [], 0, 0, G⟩) (fun _ => 0) () ?_ (fun _ => ?_)
  · refine weak_by [] ?_; (conv => whnf); repeat (refine And.intro rfl ?_; conv => whnf)
    exact ⟨fun i y hy => hy, rfl, by decide, rfl, rfl⟩
  repeat' (first | ((first | refine Sem.st tt_ok rfl ?_ | refine BS_t (by assumption) ?_ | refine BS_f (by assumption) ?_ | refine atG (by repeat (first | assumption | exact setG_same _ _ _ | refine atNe (by first | assumption | exact Ne.symm (by assumption)) ?_)) ?_ | refine nthKi (by assumption) ?_ | refine ⟨_, ⟨(by omega), (by assumption)⟩, ?_⟩ | refine And.intro (by first | decide | omega) ?_); conv => whnf) | refine Sem.seqS ?_ | refine Sem.block ?_)
  exact ⟨_, fun _ _ h => h, rfl, rfl⟩
/-- an operation that adds -/
def addV (x y : Nat) : AV := .tup [.agg [.fn (.func 49) [] [.gptr x 0, .gptr y 0], .fn (.func 51) [] [.gptr x 0, .gptr y 0]], .bool true]
theorem find_add (G : Glob) (pb : Nat) (nm tx : ByteArray) (k u : Int) (now : Int) : CallOk Tryz.prog TT 15 [.gptr pb 0, .int .i64 4, .agg [.str nm, .str tx, .int .i64 k, .int .u64 u], .int .i64 now] G
    (fun v G' => ∃ x y, G x = none ∧ setG G x (.cells [.gptr pb 0]) y = none ∧ v = addV x y ∧ G' = setG (setG G x (.cells [.gptr pb 0])) y (.cells [.str nm, .str tx, .int .i64 k, .int .u64 u])) := by
  refine call_sem tt_ok Tryz.func15 rfl (by kernel_rfl) Tryz.ntmps15 Tryz.results15 ?_; conv => whnf
  repeat' (first | ((first | refine Sem.st tt_ok rfl ?_ | refine BS_t (by assumption) ?_ | refine BS_f (by assumption) ?_ | refine atG (by repeat (first | assumption | exact setG_same _ _ _ | refine atNe (by first | assumption | exact Ne.symm (by assumption)) ?_)) ?_ | refine nthKi (by assumption) ?_ | refine ⟨_, ⟨(by omega), (by assumption)⟩, ?_⟩ | refine And.intro (by first | decide | omega) ?_); conv => whnf) | refine Sem.seqS ?_ | refine Sem.block ?_)
  intro x hx
  conv => whnf
  intro y hy
  conv => whnf
  exact ⟨_, fun _ _ h => h, x, y, hx, hy, rfl, rfl⟩
end Go.Proofs.YtpihanlillbhkaaGreatDoor
end

section
/- part: an addition done; the document's example. -/
set_option maxRecDepth 100000
set_option linter.unusedSimpArgs false
namespace Go.Proofs.YtpihanlillbhkaaGreatDoor
open Go Go.RowKit Go.Proofs

theorem gadd_ok {s : Oth} {G : Glob} {x y pb : Nat} {mv : AV} {n : Int} {l : List (ByteArray × Int)} {nm tx : ByteArray} {k u : Int} (hx : G x = some (.cells [.gptr pb 0])) (hy : G y = some (.cells [.str nm, .str tx, .int .i64 k, .int .u64 u])) (hn : nm.size ≤ 140737488351232) (h : StC s G pb mv n (bk cav l)) :
    CallOk Tryz.prog TT 49 [.gptr x 0, .gptr y 0] G (fun v G' => v = .int .i64 (cgrow l nm) ∧ G' = G) := by
  have hg := Pcgrows_ok s G pb mv n l nm hn h
  refine call_sem tt_ok Tryz.func49 rfl (by kernel_rfl) Tryz.ntmps49 Tryz.results49 ?_; conv => whnf
  repeat' (first | ((first | refine Sem.st tt_ok rfl ?_ | refine BS_t (by assumption) ?_ | refine BS_f (by assumption) ?_ | refine atG (by repeat (first | assumption | exact setG_same _ _ _ | refine atNe (by first | assumption | exact Ne.symm (by assumption)) ?_)) ?_ | refine nthKi (by assumption) ?_ | refine ⟨_, ⟨(by omega), (by assumption)⟩, ?_⟩ | refine And.intro (by first | decide | omega) ?_); conv => whnf) | refine Sem.seqS ?_ | refine Sem.block ?_)
  refine draw_sound (eff := []) tt_ok (by kernel_rfl) (by kernel_rfl) ?_; conv => whnf
  repeat' (first | ((first | refine BS_t (by assumption) ?_ | refine BS_f (by assumption) ?_ | refine atG (by repeat (first | assumption | exact setG_same _ _ _ | refine atNe (by first | assumption | exact Ne.symm (by assumption)) ?_)) ?_ | refine nthKi (by assumption) ?_ | refine ⟨_, ⟨(by omega), (by assumption)⟩, ?_⟩ | refine And.intro (by first | decide | omega) ?_); conv => whnf) | fail)
  refine ⟨_, _, hg, ?_⟩; (conv => whnf); refine And.intro rfl ?_; conv => whnf
  repeat' (first | ((first | refine BS_t (by assumption) ?_ | refine BS_f (by assumption) ?_ | refine atG (by repeat (first | assumption | exact setG_same _ _ _ | refine atNe (by first | assumption | exact Ne.symm (by assumption)) ?_)) ?_ | refine nthKi (by assumption) ?_ | refine ⟨_, ⟨(by omega), (by assumption)⟩, ?_⟩ | refine And.intro (by first | decide | omega) ?_); conv => whnf) | fail)
  repeat' (first | ((first | refine Sem.st tt_ok rfl ?_ | refine BS_t (by assumption) ?_ | refine BS_f (by assumption) ?_ | refine atG (by repeat (first | assumption | exact setG_same _ _ _ | refine atNe (by first | assumption | exact Ne.symm (by assumption)) ?_)) ?_ | refine nthKi (by assumption) ?_ | refine ⟨_, ⟨(by omega), (by assumption)⟩, ?_⟩ | refine And.intro (by first | decide | omega) ?_); conv => whnf) | refine Sem.seqS ?_ | refine Sem.block ?_)
  exact ⟨_, fun _ _ h => h, rfl, rfl⟩
theorem dadd_ok {s : Oth} {G : Glob} {x y pb : Nat} {mv : AV} {n : Int} {l : List (ByteArray × Int)} {nm tx : ByteArray} {k u : Int} (hx : G x = some (.cells [.gptr pb 0])) (hy : G y = some (.cells [.str nm, .str tx, .int .i64 k, .int .u64 u])) (hn : nm.size ≤ 140737488351232) (n0 : 0 ≤ n) (n1 : n ≤ 4611686018427387904) (h : StC s G pb mv n (bk cav l)) :
    CallOk Tryz.prog TT 51 [.gptr x 0, .gptr y 0] G (fun v G' => v = .agg [.str ⟨#[]⟩, .bool false, .int .i64 (IntKind.i64.wrap (cval l nm + k))] ∧ ∃ mv', StC s G' pb mv' (n + cgrow l nm) (bk cav (lput l nm (IntKind.i64.wrap (cval l nm + k)))) ∧ Kept G G' pb mv mv') := by
  refine call_sem tt_ok Tryz.func51 rfl (by kernel_rfl) Tryz.ntmps51 Tryz.results51 ?_; conv => whnf
  repeat' (first | ((first | refine Sem.st tt_ok rfl ?_ | refine BS_t (by assumption) ?_ | refine BS_f (by assumption) ?_ | refine atG (by repeat (first | assumption | exact setG_same _ _ _ | refine atNe (by first | assumption | exact Ne.symm (by assumption)) ?_)) ?_ | refine nthKi (by assumption) ?_ | refine ⟨_, ⟨(by omega), (by assumption)⟩, ?_⟩ | refine And.intro (by first | decide | omega) ?_); conv => whnf) | refine Sem.seqS ?_ | refine Sem.block ?_)
  refine draw_lasts 7 (eff := []) tt_ok (by kernel_rfl) (by kernel_rfl) (by kernel_rfl) ?_
  conv => whnf
  repeat' (first | ((first | refine BS_t (by assumption) ?_ | refine BS_f (by assumption) ?_ | refine atG (by repeat (first | assumption | exact setG_same _ _ _ | refine atNe (by first | assumption | exact Ne.symm (by assumption)) ?_)) ?_ | refine nthKi (by assumption) ?_ | refine ⟨_, ⟨(by omega), (by assumption)⟩, ?_⟩ | refine And.intro (by first | decide | omega) ?_); conv => whnf) | fail)
  refine (Pcadd_ok s G pb mv n l nm k hn n0 n1 h).mono fun v G1 hv => ?_; obtain ⟨rfl, mv', h1, h2⟩ := hv; conv => whnf
  repeat' (first | ((first | refine BS_t (by assumption) ?_ | refine BS_f (by assumption) ?_ | refine atG (by repeat (first | assumption | exact setG_same _ _ _ | refine atNe (by first | assumption | exact Ne.symm (by assumption)) ?_)) ?_ | refine nthKi (by assumption) ?_ | refine ⟨_, ⟨(by omega), (by assumption)⟩, ?_⟩ | refine And.intro (by first | decide | omega) ?_); conv => whnf) | fail)
  repeat' (first | ((first | refine Sem.st tt_ok rfl ?_ | refine BS_t (by assumption) ?_ | refine BS_f (by assumption) ?_ | refine atG (by repeat (first | assumption | exact setG_same _ _ _ | refine atNe (by first | assumption | exact Ne.symm (by assumption)) ?_)) ?_ | refine nthKi (by assumption) ?_ | refine ⟨_, ⟨(by omega), (by assumption)⟩, ?_⟩ | refine And.intro (by first | decide | omega) ?_); conv => whnf) | refine Sem.seqS ?_ | refine Sem.block ?_)
  exact ⟨_, fun _ _ h => h, rfl, mv', h1, h2⟩
theorem lent2 {G : Glob} {x y : Nat} {X Y : GB} (hx : G x = none) (hy : setG G x X y = none) : (∀ i z, G i = some z → setG (setG G x X) y Y i = some z) ∧ (∀ i, setG (setG G x X) y Y i = none → G i = none) ∧ setG (setG G x X) y Y x = some X := by
  have hxy : x ≠ y := fun e => by rw [← e, setG_same] at hy; cases hy
  refine ⟨fun i z h => ?_, fun i h => ?_, by rw [setG_ne _ _ hxy, setG_same]⟩
  · have h1 : i ≠ x := fun e => by rw [e, hx] at h; cases h
    have h2 : i ≠ y := fun e => by rw [← e, setG_ne _ _ h1, h] at hy; cases hy
    rw [setG_ne _ _ h2, setG_ne _ _ h1]; exact h
  · by_cases h2 : i = y
    · subst h2; rw [setG_same] at h; cases h
    · by_cases h1 : i = x
      · subst h1; rw [setG_ne _ _ h2, setG_same] at h; cases h
      · rw [setG_ne _ _ h2, setG_ne _ _ h1] at h; exact h
theorem pdo_add {G : Glob} {pb : Nat} {a4 a0 mv : AV} {n0 n n2 n3 : Int} {l : List (ByteArray × Int)} {nm tx : ByteArray} {k u now lim : Int} (hn : nm.size ≤ 140737488351232) (b0 : 0 ≤ n0 ∧ n0 ≤ 1000000000000000) (b1 : 0 ≤ n ∧ n ≤ 1000000000000000) (b2 : 0 ≤ n2 ∧ n2 ≤ 1000000000000000) (b3 : 0 ≤ n3 ∧ n3 ≤ 1000000000000000)
    (hl : lim ≤ 1000000000000000) (h : StC ⟨a0, .int .i64 n0, a4, .int .i64 n2, .nilm, .int .i64 n3⟩ G pb mv n (bk cav l)) (hfit : cgrow l nm = 0 ∨ 0 < cgrow l nm ∧ cgrow l nm ≤ lim ∧ n0 + n + n2 + n3 ≤ lim - cgrow l nm) :
    CallOk Tryz.prog TT 8 [.gptr pb 0, .int .i64 4, .agg [.str nm, .str tx, .int .i64 k, .int .u64 u], .int .i64 now, .int .i64 lim] G (fun v G' => v = .tup [.agg [.str ⟨#[]⟩, .bool false, .int .i64 (IntKind.i64.wrap (cval l nm + k))], .int .i64 0] ∧
      ∃ mv', StC ⟨a0, .int .i64 n0, a4, .int .i64 n2, .nilm, .int .i64 n3⟩ G' pb mv' (n + cgrow l nm) (bk cav (lput l nm (IntKind.i64.wrap (cval l nm + k)))) ∧ Kept G G' pb mv mv') := by
  refine call_sem tt_ok Tryz.func8 rfl (by kernel_rfl) Tryz.ntmps8 Tryz.results8 ?_; conv => whnf
  repeat' (first | ((first | refine Sem.st tt_ok rfl ?_ | refine BS_t (by assumption) ?_ | refine BS_f (by assumption) ?_ | refine atG (by repeat (first | assumption | exact setG_same _ _ _ | refine atNe (by first | assumption | exact Ne.symm (by assumption)) ?_)) ?_ | refine nthKi (by assumption) ?_ | refine ⟨_, ⟨(by omega), (by assumption)⟩, ?_⟩ | refine And.intro (by first | decide | omega) ?_); conv => whnf) | refine Sem.seqS ?_ | refine Sem.block ?_)
  refine (find_add G pb nm tx k u now).mono fun v G1 hv => ?_; obtain ⟨x, y, hx, hy, rfl, rfl⟩ := hv; conv => whnf
  obtain ⟨sub, nosub, hxx⟩ := lent2 (Y := .cells [.str nm, .str tx, .int .i64 k, .int .u64 u]) hx hy
  have hyy : setG (setG G x (.cells [.gptr pb 0])) y (.cells [.str nm, .str tx, .int .i64 k, .int .u64 u]) y = some (.cells [.str nm, .str tx, .int .i64 k, .int .u64 u]) := setG_same _ _ _
  generalize setG (setG G x (.cells [.gptr pb 0])) y (.cells [.str nm, .str tx, .int .i64 k, .int .u64 u]) = H at *
  have hH : StC ⟨a0, .int .i64 n0, a4, .int .i64 n2, .nilm, .int .i64 n3⟩ H pb mv n (bk cav l) := by
    obtain ⟨h1, h2⟩ := h
    refine ⟨sub _ _ h1, ?_⟩
    rcases h2 with h2 | ⟨mb, h3, h4⟩
    · exact .inl h2
    · exact .inr ⟨mb, h3, sub _ _ h4⟩
  have hex := lexpire_at hH.1 rfl now
  have hgr := gadd_ok (k := k) (u := u) (tx := tx) hxx hyy hn hH
  have hsz := psize_at hH.1 b0 b1 b2 b3
  have hdo := dadd_ok (k := k) (u := u) (tx := tx) hxx hyy hn b1.1 (by omega) hH
  have fin : ∀ (v : AV) (G' : Glob), (v = .agg [.str ⟨#[]⟩, .bool false, .int .i64 (IntKind.i64.wrap (cval l nm + k))] ∧ ∃ mv', StC ⟨a0, .int .i64 n0, a4, .int .i64 n2, .nilm, .int .i64 n3⟩ G' pb mv' (n + cgrow l nm) (bk cav (lput l nm (IntKind.i64.wrap (cval l nm + k)))) ∧ Kept H G' pb mv mv') →
      ∃ mv', StC ⟨a0, .int .i64 n0, a4, .int .i64 n2, .nilm, .int .i64 n3⟩ G' pb mv' (n + cgrow l nm) (bk cav (lput l nm (IntKind.i64.wrap (cval l nm + k)))) ∧ Kept G G' pb mv mv' := fun v G' ⟨_, mv', q1, q2, q3⟩ => by
    refine ⟨mv', q1, ?_, fun i z hz h1 h2 => q3 i z (sub i z hz) h1 h2⟩
    rcases q2 with q2 | ⟨q2, mb, q4, q5⟩
    · exact .inl q2
    · exact .inr ⟨q2, mb, nosub _ q4, q5⟩
  have hgn : 0 ≤ cgrow l nm ∧ cgrow l nm ≤ 140737488351232 + 24 := by unfold cgrow; split <;> omega
  generalize hgg : cgrow l nm = g at *
  rcases hfit with h0 | ⟨h0, h1, h2⟩
  · have t1 : decide (g > 0) = false := by simp; omega
    repeat' (first | ((first | refine Sem.st tt_ok rfl ?_ | refine BS_t (by assumption) ?_ | refine BS_f (by assumption) ?_ | refine atG (by repeat (first | assumption | exact setG_same _ _ _ | refine atNe (by first | assumption | exact Ne.symm (by assumption)) ?_)) ?_ | refine nthKi (by assumption) ?_ | refine ⟨_, ⟨(by omega), (by assumption)⟩, ?_⟩ | refine And.intro (by first | decide | omega) ?_); conv => whnf) | refine Sem.seqS ?_ | refine Sem.block ?_)
    refine hex.on ?_; conv => whnf
    repeat' (first | ((first | refine Sem.st tt_ok rfl ?_ | refine BS_t (by assumption) ?_ | refine BS_f (by assumption) ?_ | refine atG (by repeat (first | assumption | exact setG_same _ _ _ | refine atNe (by first | assumption | exact Ne.symm (by assumption)) ?_)) ?_ | refine nthKi (by assumption) ?_ | refine ⟨_, ⟨(by omega), (by assumption)⟩, ?_⟩ | refine And.intro (by first | decide | omega) ?_); conv => whnf) | refine Sem.seqS ?_ | refine Sem.block ?_)
    refine hgr.on ?_; conv => whnf
    repeat' (first | ((first | refine Sem.st tt_ok rfl ?_ | refine BS_t (by assumption) ?_ | refine BS_f (by assumption) ?_ | refine atG (by repeat (first | assumption | exact setG_same _ _ _ | refine atNe (by first | assumption | exact Ne.symm (by assumption)) ?_)) ?_ | refine nthKi (by assumption) ?_ | refine ⟨_, ⟨(by omega), (by assumption)⟩, ?_⟩ | refine And.intro (by first | decide | omega) ?_); conv => whnf) | refine Sem.seqS ?_ | refine Sem.block ?_)
    refine hdo.mono fun v G1 hv => ?_
    have hf := fin v G1 hv
    obtain ⟨rfl, _⟩ := hv
    conv => whnf
    repeat' (first | ((first | refine Sem.st tt_ok rfl ?_ | refine BS_t (by assumption) ?_ | refine BS_f (by assumption) ?_ | refine atG (by repeat (first | assumption | exact setG_same _ _ _ | refine atNe (by first | assumption | exact Ne.symm (by assumption)) ?_)) ?_ | refine nthKi (by assumption) ?_ | refine ⟨_, ⟨(by omega), (by assumption)⟩, ?_⟩ | refine And.intro (by first | decide | omega) ?_); conv => whnf) | refine Sem.seqS ?_ | refine Sem.block ?_)
    exact ⟨_, fun _ _ h => h, rfl, hf⟩
  · have t1 : decide (g > 0) = true := by simp; omega
    have t2 : decide (lim < g) = false := by simp; omega
    have w1 : IntKind.i64.wrap (lim - g) = lim - g := IntWalk.i64_in _ (by omega)
    have t3 : decide (n0 + n + n2 + n3 > IntKind.i64.wrap (lim - g)) = false := by rw [w1]; simp; omega
    repeat' (first | ((first | refine Sem.st tt_ok rfl ?_ | refine BS_t (by assumption) ?_ | refine BS_f (by assumption) ?_ | refine atG (by repeat (first | assumption | exact setG_same _ _ _ | refine atNe (by first | assumption | exact Ne.symm (by assumption)) ?_)) ?_ | refine nthKi (by assumption) ?_ | refine ⟨_, ⟨(by omega), (by assumption)⟩, ?_⟩ | refine And.intro (by first | decide | omega) ?_); conv => whnf) | refine Sem.seqS ?_ | refine Sem.block ?_)
    refine hex.on ?_; conv => whnf
    repeat' (first | ((first | refine Sem.st tt_ok rfl ?_ | refine BS_t (by assumption) ?_ | refine BS_f (by assumption) ?_ | refine atG (by repeat (first | assumption | exact setG_same _ _ _ | refine atNe (by first | assumption | exact Ne.symm (by assumption)) ?_)) ?_ | refine nthKi (by assumption) ?_ | refine ⟨_, ⟨(by omega), (by assumption)⟩, ?_⟩ | refine And.intro (by first | decide | omega) ?_); conv => whnf) | refine Sem.seqS ?_ | refine Sem.block ?_)
    refine hgr.on ?_; conv => whnf
    repeat' (first | ((first | refine Sem.st tt_ok rfl ?_ | refine BS_t (by assumption) ?_ | refine BS_f (by assumption) ?_ | refine atG (by repeat (first | assumption | exact setG_same _ _ _ | refine atNe (by first | assumption | exact Ne.symm (by assumption)) ?_)) ?_ | refine nthKi (by assumption) ?_ | refine ⟨_, ⟨(by omega), (by assumption)⟩, ?_⟩ | refine And.intro (by first | decide | omega) ?_); conv => whnf) | refine Sem.seqS ?_ | refine Sem.block ?_)
    refine hsz.on ?_; conv => whnf
    repeat' (first | ((first | refine Sem.st tt_ok rfl ?_ | refine BS_t (by assumption) ?_ | refine BS_f (by assumption) ?_ | refine atG (by repeat (first | assumption | exact setG_same _ _ _ | refine atNe (by first | assumption | exact Ne.symm (by assumption)) ?_)) ?_ | refine nthKi (by assumption) ?_ | refine ⟨_, ⟨(by omega), (by assumption)⟩, ?_⟩ | refine And.intro (by first | decide | omega) ?_); conv => whnf) | refine Sem.seqS ?_ | refine Sem.block ?_)
    refine hdo.mono fun v G1 hv => ?_
    have hf := fin v G1 hv
    obtain ⟨rfl, _⟩ := hv
    conv => whnf
    repeat' (first | ((first | refine Sem.st tt_ok rfl ?_ | refine BS_t (by assumption) ?_ | refine BS_f (by assumption) ?_ | refine atG (by repeat (first | assumption | exact setG_same _ _ _ | refine atNe (by first | assumption | exact Ne.symm (by assumption)) ?_)) ?_ | refine nthKi (by assumption) ?_ | refine ⟨_, ⟨(by omega), (by assumption)⟩, ?_⟩ | refine And.intro (by first | decide | omega) ?_); conv => whnf) | refine Sem.seqS ?_ | refine Sem.block ?_)
    exact ⟨_, fun _ _ h => h, rfl, hf⟩
theorem awake31_ok (G : Glob) : CallOk Tryz.prog TT 6 [] G (fun v G' => v = .bool true ∧ ∀ i z, G i = some z → G' i = some z) := by
  refine call_sem tt_ok Tryz.func6 rfl (by kernel_rfl) Tryz.ntmps6 Tryz.results6 ?_; conv => whnf
  repeat' (first | ((first | refine Sem.st tt_ok rfl ?_ | refine BS_t (by assumption) ?_ | refine BS_f (by assumption) ?_ | refine atG (by repeat (first | assumption | exact setG_same _ _ _ | refine atNe (by first | assumption | exact Ne.symm (by assumption)) ?_)) ?_ | refine nthKi (by assumption) ?_ | refine ⟨_, ⟨(by omega), (by assumption)⟩, ?_⟩ | refine And.intro (by first | decide | omega) ?_); conv => whnf) | refine Sem.seqS ?_ | refine Sem.block ?_)
  refine (pnew_ok G).mono fun v G1 hv => ?_; obtain ⟨pb, hpb, rfl, rfl⟩ := hv; conv => whnf
  repeat' (first | ((first | refine Sem.st tt_ok rfl ?_ | refine BS_t (by assumption) ?_ | refine BS_f (by assumption) ?_ | refine atG (by repeat (first | assumption | exact setG_same _ _ _ | refine atNe (by first | assumption | exact Ne.symm (by assumption)) ?_)) ?_ | refine nthKi (by assumption) ?_ | refine ⟨_, ⟨(by omega), (by assumption)⟩, ?_⟩ | refine And.intro (by first | decide | omega) ?_); conv => whnf) | refine Sem.seqS ?_ | refine Sem.block ?_)
  refine (pdo_add (a0 := .nilm) (a4 := .nilm) (mv := .nilm) (n0 := 0) (n := 0) (n2 := 0) (n3 := 0) (l := []) (by decide) (by decide) (by decide) (by decide) (by decide) (by decide) ⟨setG_same _ _ _, .inl ⟨rfl, rfl⟩⟩ (.inr (by decide))).mono fun v G1 hv => ?_
  obtain ⟨rfl, mv1, h1, k1⟩ := hv
  conv => whnf
  repeat' (first | ((first | refine Sem.st tt_ok rfl ?_ | refine BS_t (by assumption) ?_ | refine BS_f (by assumption) ?_ | refine atG (by repeat (first | assumption | exact setG_same _ _ _ | refine atNe (by first | assumption | exact Ne.symm (by assumption)) ?_)) ?_ | refine nthKi (by assumption) ?_ | refine ⟨_, ⟨(by omega), (by assumption)⟩, ?_⟩ | refine And.intro (by first | decide | omega) ?_); conv => whnf) | refine Sem.seqS ?_ | refine Sem.block ?_)
  refine (pdo_add (n0 := 0) (n2 := 0) (n3 := 0) (by decide) (by decide) (by decide) (by decide) (by decide) (by decide) h1 (.inl (by decide))).mono fun v G2 hv => ?_
  obtain ⟨rfl, mv2, h2, k2⟩ := hv
  conv => whnf
  repeat' (first | ((first | refine Sem.st tt_ok rfl ?_ | refine BS_t (by assumption) ?_ | refine BS_f (by assumption) ?_ | refine atG (by repeat (first | assumption | exact setG_same _ _ _ | refine atNe (by first | assumption | exact Ne.symm (by assumption)) ?_)) ?_ | refine nthKi (by assumption) ?_ | refine ⟨_, ⟨(by omega), (by assumption)⟩, ?_⟩ | refine And.intro (by first | decide | omega) ?_); conv => whnf) | refine Sem.seqS ?_ | refine Sem.block ?_)
  refine (psize_at h2.1 (by decide) (by decide) (by decide) (by decide)).mono fun v G3 hv => ?_
  obtain ⟨rfl, rfl⟩ := hv
  conv => whnf
  repeat' (first | ((first | refine Sem.st tt_ok rfl ?_ | refine BS_t (by assumption) ?_ | refine BS_f (by assumption) ?_ | refine atG (by repeat (first | assumption | exact setG_same _ _ _ | refine atNe (by first | assumption | exact Ne.symm (by assumption)) ?_)) ?_ | refine nthKi (by assumption) ?_ | refine ⟨_, ⟨(by omega), (by assumption)⟩, ?_⟩ | refine And.intro (by first | decide | omega) ?_); conv => whnf) | refine Sem.seqS ?_ | refine Sem.block ?_)
  refine ⟨_, fun _ _ h => h, congrArg AV.bool (by decide), fun i z hi => ?_⟩
  have e1 : i ≠ pb := fun e => by rw [e, hpb] at hi; cases hi
  have g1 := k1.2 i z (by rw [setG_ne _ _ e1]; exact hi) e1 (by simp)
  refine k2.2 i z g1 e1 fun e => ?_
  rcases k1.1 with q | ⟨_, mb, q1, q2⟩
  · rw [q] at e; cases e
  · rw [q2] at e; cases e
    rw [setG_ne _ _ e1, hi] at q1; cases q1
end Go.Proofs.YtpihanlillbhkaaGreatDoor
end
