/- What all laws of the layer 43 use: the example, Plain of the document, lists of events that are handed in. -/
import Derived.Test.YtmmmaekaoanceaaScrS
set_option maxRecDepth 100000
set_option linter.unusedSimpArgs false
namespace Go.Proofs.Ytmmmaekaoanceaa
open Go Go.RowKit Go.Proofs

theorem refplain_ok (v : Ev) (G : Glob) : CallOk Try.prog TT 41 [.agg v.av] G (fun x G' => x = .agg (plainE v).av ∧ G' = G) := by
  obtain ⟨k, c, n, t⟩ := v
  refine call_body tt_ok Try.func41 rfl (by kernel_rfl) Try.ntmps41 Try.results41 ?_; conv => whnf
  refine (has_ok _ _).on ?_; conv => whnf
  repeat' (first | (refine BS_t (by assumption) ?_; conv => whnf) | (refine BS_f (by assumption) ?_; conv => whnf) | (refine BS_intro (fun _ => ?_) (fun _ => ?_) <;> conv => whnf))
  all_goals (refine ⟨_, fun _ _ h => h, ?_, rfl⟩; simp_all [plainE, Ev.av])
theorem awake43_ok (G : Glob) : CallOk Try.prog TT 42 [] G (fun v G' => v = .bool true ∧ G' = G) := by
  have hp : putT [⟨1, 0, 0, ⟨#[]⟩⟩, ⟨2, 0, 0, ⟨#[97, 98]⟩⟩] = (⟨#[1, 2, 0, 2, 97, 98]⟩, 0) := by
    have h2 : (⟨#[97, 98]⟩ : ByteArray).size = 2 := rfl
    simp [putT, putsE, putsL, evE, evL, hasC, hasN, hasB, spanL, putL_small, h2]
  have h := sputs_ok [⟨1, 0, 0, ⟨#[]⟩⟩, ⟨2, 0, 0, ⟨#[97, 98]⟩⟩] G (by simp)
  rw [hp] at h
  refine call_body tt_ok Try.func42 rfl (by kernel_rfl) Try.ntmps42 Try.results42 ?_; conv => whnf
  refine h.on ?_; conv => whnf
  repeat' (first | (refine BS_t (by assumption) ?_; conv => whnf) | (refine BS_f (by assumption) ?_; conv => whnf) | (refine atG (by first | assumption | exact setG_same _ _ _) ?_; conv => whnf) | (refine (nthK_iff _ _).2 ⟨_, (by assumption), ?_⟩; conv => whnf) | (refine Exists.intro _ (And.intro (And.intro (by omega) (by assumption)) ?_); conv => whnf) | (refine And.intro (by first | decide | omega) ?_; conv => whnf) | fail)
  exact ⟨_, fun _ _ h => h, by simp, rfl⟩
structure EvI where
  kind : Int
  conn : Int
  num : Int
  bytes : ByteArray
def EvI.ev (x : EvI) : Ev := ⟨x.kind, x.conn, x.num.toNat, x.bytes⟩
theorem evs_dz {w : World} {v : Value} {l : List EvI} (hr : Row w v l 4 (fun x => [.int .i64 x.kind, .int .i64 x.conn, .int .u64 x.num, .string x.bytes])) (hn : ∀ x ∈ l, 0 ≤ x.num) : Dz TT gh0 w (.slc 72 ((l.map EvI.ev).map Ev.av)) v := by
  rw [List.map_map]
  refine row_dz hr (Ev.av ∘ EvI.ev) rfl fun x hx => ⟨rfl, rfl, fun j c u hc hu => ?_⟩
  have h0 := hn x hx
  match j with
  | 0 => simp [Ev.av, EvI.ev] at hc hu; subst hc hu; exact ⟨rfl, .int _ _⟩
  | 1 => simp [Ev.av, EvI.ev] at hc hu; subst hc hu; exact ⟨rfl, .int _ _⟩
  | 2 =>
    simp [Ev.av, EvI.ev] at hc hu
    rw [show max x.num 0 = x.num by omega] at hc
    subst hc hu; exact ⟨rfl, .int _ _⟩
  | 3 => simp [Ev.av, EvI.ev] at hc hu; subst hc hu; exact ⟨rfl, .str _⟩
  | j + 4 => simp [Ev.av] at hc
end Go.Proofs.Ytmmmaekaoanceaa
