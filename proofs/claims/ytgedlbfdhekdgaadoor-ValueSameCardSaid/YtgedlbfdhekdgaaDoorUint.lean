/- strconv.FormatUint and FormatInt at base 10. -/
import Derived.Test.YtgedlbfdhekdgaaDoorIto
import Derived.Lib.AppendIntMem
set_option maxRecDepth 100000
set_option linter.unusedSimpArgs false
namespace Go.Proofs.YtgedlbfdhekdgaaDoor
open Go Go.RowKit Go.Proofs Go.Shelf Go.Sort Go.Lib

set_option maxHeartbeats 6400000 in
theorem uint_any (u : Nat) (hu64 : u < 18446744073709551616) (w : World) (htab : Lib.TabIs Tryd.prog w "internal/strconv.uint64pow10" .u64 Lib.pow10Tab) :
    Calls Tryd.prog 40 #[.int .u64 u, .int .i64 10] w fun e w' => e = .returned (.string ⟨(Lib.decDigits u).toArray⟩) ∧ ∃ k os, w' = grow (w.drewN k) os := by
  by_cases hs : u < 100
  · have hsm := fun w => Any.internal_strconv_small (P := Tryd.prog) (ρ := lays171_ren) { lays171 with } u hs w
    go_enter Tryd.func40, Tryd.ntmps40
    go_wp2_with (go_at_call 53; refine (hsm _).mono ?_; rintro e w1 ⟨rfl, rfl⟩)
    go_ret
    exact ⟨rfl, 0, #[], by simp [World.drewN_zero]⟩
  · have hu1 : 1 ≤ u := by omega
    have hnd20 : Lib.nDigits u ≤ 20 := by have := Lib.numDigits_eq u hu1 hu64; split at this <;> omega
    have hal : (Tryd.prog).arrayLen 78 = 24 := by kernel_rfl
    have hsl : ∀ W, (Instr.sliceAt 78 (.pointer (some ⟨w.heap.size, 0, none⟩)) none (some (.int .i64 (Lib.nDigits u : Int))) none).run Tryd.prog W = .ok (.slice (some ⟨w.heap.size, 0, none⟩) (Lib.nDigits u) 24) W := fun W => by
      rw [run_sliceAt_array_h W 78 ⟨w.heap.size, 0, none⟩ (by kernel_rfl) .i64 (Lib.nDigits u : Int) (by omega) (by rw [hal]; omega)]
      go_simp
      first | done | omega
    have hH0 := Lib.holds_zero0 w 78 (Lib.nDigits u) (by omega)
    have hfmt : Calls Tryd.prog 55 _ _ _ := Any.internal_strconv_formatBase10 (P := Tryd.prog) (ρ := lays171_ren) { lays171 with } w.heap.size 0 24 u (Array.replicate (Lib.nDigits u) 0) (w.alloc (.cells Lib.zeros24 78)) hH0 (by rw [Array.size_replicate]; exact Lib.lt_pow_nDigits u) hu64 (by rw [Array.size_replicate]; omega)
    rw [Array.size_replicate] at hfmt
    have hnum : Calls Tryd.prog 54 #[.int .u64 u] (w.alloc (.cells Lib.zeros24 78)) _ := Any.internal_strconv_numDigits (P := Tryd.prog) (ρ := lays171_ren) { laysm171 with } u hu1 hu64 (w.alloc (.cells Lib.zeros24 78)) (Lib.tabIs_alloc htab _)
    have HH0 := Lib.hid hH0
    clear hH0 hal
    go_enter Tryd.func40, Tryd.ntmps40
    go_wp2_with (first
      | (go_at_call 54; refine (hnum).mono ?_; rintro e w1 ⟨rfl, rfl⟩))
    refine hfmt.mono ?_
    rintro e w' ⟨rfl, k, v', dk, rfl, hF⟩
    have hcv : (convert 64 9 (.slice (some ⟨w.heap.size, 0, none⟩) (Lib.nDigits u) 24)).run Tryd.prog ((putRow (fun (b : UInt8) => Value.int .u8 (b.toNat : Int)) (w.alloc (.cells Lib.zeros24 78)) w.heap.size 0 dk).drewN k) = .ok (.string ⟨(Lib.decDigits u).toArray⟩) ((putRow (fun (b : UInt8) => Value.int .u8 (b.toNat : Int)) (w.alloc (.cells Lib.zeros24 78)) w.heap.size 0 dk).drewN k) := by
      have h := run_convert_bytes_back (P := Tryd.prog) ((putRow (fun (b : UInt8) => Value.int .u8 (b.toNat : Int)) (w.alloc (.cells Lib.zeros24 78)) w.heap.size 0 dk).drewN k) 64 9 5 ⟨w.heap.size, 0, none⟩ 24 (Lib.decDigits u) Tryd.underlying64 Tryd.underlying5 Tryd.underlying9 (fun j hj => by
        rw [Lib.row_is_numeral hF j hj, Lib.add_plain, World.cell?_drewN]
        exact cell?_putRow (fun (b : UInt8) => Value.int .u8 (b.toNat : Int)) _ w.heap.size 0 _ dk HH0.out (by rw [hF.size, Array.size_replicate]) j (by rw [hF.size]; rw [Lib.decDigits_length] at hj; exact hj))
      rw [Lib.decDigits_length] at h
      exact h
    go_wp2_with fail
    go_ret
    obtain ⟨os, eo⟩ := Lib.fin_at w (.cells Lib.zeros24 78) dk k 0
    exact ⟨rfl, k, os, eo⟩
theorem fuint_ok (u : Nat) (hu : u < 18446744073709551616) {G : Glob} (hG : PowOk G) : CallOk Tryd.prog TT 18 [.int .u64 u, .int .i64 10] G (fun v G' => v = .str (S (Lib.decDigits u)) ∧ G' = G) := by
  have h1 : CallOk Tryd.prog TT 40 [.int .u64 u, .int .i64 10] G (fun v G' => v = .str (S (Lib.decDigits u)) ∧ G' = G) := by
    refine ⟨⟨_, Tryd.func40, by decide, rfl⟩, fun g us w hr hl hd => ?_⟩
    obtain ⟨b, o, hb, ht⟩ := hG
    obtain ⟨us⟩ := us
    match us, hl with
    | [u0, u1], _ =>
      cases hd 0 _ u0 rfl rfl
      cases hd 1 _ u1 rfl rfl
      obtain ⟨_, _, h3, h4⟩ := hr b _ hb
      refine (uint_any u hu w (ht w h4)).mono fun e w' hh => ?_
      obtain ⟨rfl, k, os, rfl⟩ := hh
      have hu : Up w (grow (w.drewN k) os) := ⟨rfl, rfl, rfl, by simp [grow, World.drewN], fun j hj => by simp [grow, World.drewN, Array.getElem?_append_left hj]⟩
      exact ⟨_, g.still w, G, _, rfl, ⟨rfl, rfl⟩, still_rel hr hu, still_ext hu, .str _⟩
  refine call_sem tt_ok Tryd.func18 rfl (by kernel_rfl) Tryd.ntmps18 Tryd.results18 ?_; conv => whnf
  repeat' (first | ((first | refine Sem.reg tt_ok ?_ | refine Sem.condS ?_ | refine Sem.regL tt_ok ?_ | refine Sem.skip tt_ok ?_ | refine Sem.exit tt_ok ?_ | refine Sem.ret tt_ok ?_ | refine BS_t (by assumption) ?_ | refine BS_f (by assumption) ?_ | refine (nthK_iff _ _).2 ⟨_, (by assumption), ?_⟩ | refine ⟨_, ⟨(by omega), (by assumption)⟩, ?_⟩ | refine And.intro (by first | decide | omega) ?_ | fail); conv => whnf) | refine Sem.seqS ?_ | refine Sem.block ?_ | fail)
  refine h1.on ?_; conv => whnf
  repeat' (first | ((first | refine Sem.reg tt_ok ?_ | refine Sem.condS ?_ | refine Sem.regL tt_ok ?_ | refine Sem.skip tt_ok ?_ | refine Sem.exit tt_ok ?_ | refine Sem.ret tt_ok ?_ | refine BS_t (by assumption) ?_ | refine BS_f (by assumption) ?_ | refine (nthK_iff _ _).2 ⟨_, (by assumption), ?_⟩ | refine ⟨_, ⟨(by omega), (by assumption)⟩, ?_⟩ | refine And.intro (by first | decide | omega) ?_ | fail); conv => whnf) | refine Sem.seqS ?_ | refine Sem.block ?_ | fail)
  exact ⟨_, fun _ _ h => h, rfl, rfl⟩
theorem fint_ok (n : Int) (h0 : -9223372036854775808 ≤ n) (h1 : n ≤ 9223372036854775807) {G : Glob} (hG : PowOk G) : CallOk Tryd.prog TT 19 [.int .i64 n, .int .i64 10] G (fun v G' => v = .str (S (Lib.itoa n)) ∧ G' = G) := by
  have h1 : CallOk Tryd.prog TT 41 [.int .i64 n, .int .i64 10] G (fun v G' => v = .str (S (Lib.itoa n)) ∧ G' = G) := by
    refine ⟨⟨_, Tryd.func41, by decide, rfl⟩, fun g us w hr hl hd => ?_⟩
    obtain ⟨b, o, hb, ht⟩ := hG
    obtain ⟨us⟩ := us
    match us, hl with
    | [u0, u1], _ =>
      cases hd 0 _ u0 rfl rfl
      cases hd 1 _ u1 rfl rfl
      obtain ⟨_, _, h3, h4⟩ := hr b _ hb
      refine (show Calls Tryd.prog 41 #[.int .i64 n, .int .i64 10] w _ from Any.internal_strconv_FormatInt_10 (P := Tryd.prog) (ρ := lays171_ren) { laysm171 with } n h0 h1 w (ht w h4)).mono fun e w' hh => ?_
      obtain ⟨rfl, k, os, rfl⟩ := hh
      have hu : Up w (grow (w.drewN k) os) := ⟨rfl, rfl, rfl, by simp [grow, World.drewN], fun j hj => by simp [grow, World.drewN, Array.getElem?_append_left hj]⟩
      exact ⟨_, g.still w, G, _, rfl, ⟨rfl, rfl⟩, still_rel hr hu, still_ext hu, .str _⟩
  refine call_sem tt_ok Tryd.func19 rfl (by kernel_rfl) Tryd.ntmps19 Tryd.results19 ?_; conv => whnf
  repeat' (first | ((first | refine Sem.reg tt_ok ?_ | refine Sem.condS ?_ | refine Sem.regL tt_ok ?_ | refine Sem.skip tt_ok ?_ | refine Sem.exit tt_ok ?_ | refine Sem.ret tt_ok ?_ | refine BS_t (by assumption) ?_ | refine BS_f (by assumption) ?_ | refine (nthK_iff _ _).2 ⟨_, (by assumption), ?_⟩ | refine ⟨_, ⟨(by omega), (by assumption)⟩, ?_⟩ | refine And.intro (by first | decide | omega) ?_ | fail); conv => whnf) | refine Sem.seqS ?_ | refine Sem.block ?_ | fail)
  refine h1.on ?_; conv => whnf
  repeat' (first | ((first | refine Sem.reg tt_ok ?_ | refine Sem.condS ?_ | refine Sem.regL tt_ok ?_ | refine Sem.skip tt_ok ?_ | refine Sem.exit tt_ok ?_ | refine Sem.ret tt_ok ?_ | refine BS_t (by assumption) ?_ | refine BS_f (by assumption) ?_ | refine (nthK_iff _ _).2 ⟨_, (by assumption), ?_⟩ | refine ⟨_, ⟨(by omega), (by assumption)⟩, ?_⟩ | refine And.intro (by first | decide | omega) ?_ | fail); conv => whnf) | refine Sem.seqS ?_ | refine Sem.block ?_ | fail)
  exact ⟨_, fun _ _ h => h, rfl, rfl⟩
end Go.Proofs.YtgedlbfdhekdgaaDoor
