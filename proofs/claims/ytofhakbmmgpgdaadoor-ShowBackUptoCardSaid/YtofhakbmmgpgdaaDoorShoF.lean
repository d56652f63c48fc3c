/- show.Text of parsed declarations in the abstract run; chapter 10's example. -/
import Derived.Test.YtofhakbmmgpgdaaDoorGk
import Derived.Test.YtofhakbmmgpgdaaDoorGh
import Derived.Test.YtofhakbmmgpgdaaDoorSm9c
set_option maxRecDepth 100000
set_option linter.unusedSimpArgs false
namespace Go.Proofs.YtofhakbmmgpgdaaDoor
open Go Go.RowKit Go.Proofs Go.Shelf

/-- cells told less well -/
def CellsTo (a b : List AV) : Prop := b.length = a.length ∧ ∀ (T : TypeId → TR) (g : Gh) (w : World) (j : Nat) (c c' : AV) (x : Value), a[j]? = some c → b[j]? = some c' → Dz T g w c x → Dz T g w c' x
theorem cells_slc {e : TypeId} {els els' : List (List AV)} (hl : els'.length = els.length) (h : ∀ (i : Nat) (a a' : List AV), els[i]? = some a → els'[i]? = some a' → CellsTo a a') {T : TypeId → TR} {g : Gh} {w : World} {u : Value} (hz : Dz T g w (.slc e els) u) : Dz T g w (.slc e els') u :=
  slc_to hl (fun i a a' ha ha' => ⟨(h i a a' ha ha').1, fun j c c' x hc hc' hd => (h i a a' ha ha').2 T g w j c c' x hc hc' hd⟩) hz
theorem cells_nil : CellsTo [] [] := ⟨rfl, fun _ _ _ j c c' x hc => by simp at hc⟩
theorem cells_cons {a b : AV} {r s : List AV} (h : ∀ T g w x, Dz T g w a x → Dz T g w b x) (hr : CellsTo r s) : CellsTo (a :: r) (b :: s) := by
  refine ⟨by simp [hr.1], fun T g w j c c' x hc hc' hd => ?_⟩
  cases j with
  | zero => cases hc; cases hc'; exact h T g w x hd
  | succ j => exact hr.2 T g w j c c' x hc hc' hd
theorem cells_app {a b r s : List AV} (h : CellsTo a b) (hr : CellsTo r s) : CellsTo (a ++ r) (b ++ s) := by
  refine ⟨by simp [h.1, hr.1], fun T g w j c c' x hc hc' hd => ?_⟩
  by_cases hj : j < a.length
  · rw [List.getElem?_append_left hj] at hc
    rw [List.getElem?_append_left (by rw [h.1]; exact hj)] at hc'
    exact h.2 T g w j c c' x hc hc' hd
  · rw [List.getElem?_append_right (by omega)] at hc
    rw [List.getElem?_append_right (by rw [h.1]; omega), h.1] at hc'
    exact hr.2 T g w _ c c' x hc hc' hd
theorem slc_one {e : TypeId} {a b : List AV} (h : CellsTo a b) : ∀ T g w x, Dz T g w (.slc e [a]) x → Dz T g w (.slc e [b]) x := fun T g w x hd =>
  cells_slc (by simp) (fun i p q hp hq => by
    match i with
    | 0 => cases hp; cases hq; exact h
    | i + 1 => simp at hp) hd
theorem slc_map {α : Type} {e : TypeId} {f g : α → List AV} (h : ∀ x, CellsTo (f x) (g x)) (l : List α) : ∀ T gh w x, Dz T gh w (.slc e (l.map f)) x → Dz T gh w (.slc e (l.map g)) x := fun T gh w x hd =>
  cells_slc (by simp) (fun i p q hp hq => by
    rw [List.getElem?_map] at hp hq
    cases hx : l[i]? with
    | none => rw [hx] at hp; cases hp
    | some y => rw [hx] at hp hq; cases hp; cases hq; exact h y) hd
theorem ty_to : ∀ t : Ty, CellsTo t.av t.gt.av
  | .leaf k => by
    rw [Ty.av, Ty.gt, GT.av, GT.avs]
    exact cells_cons (fun _ _ _ _ h => h) (cells_cons (fun _ _ _ _ h => h) (cells_cons (fun _ _ _ _ h => nils_dz _ h) cells_nil))
  | .named s => by
    rw [Ty.av, Ty.gt, GT.av, GT.avs]
    exact cells_cons (fun _ _ _ _ h => h) (cells_cons (fun _ _ _ _ h => h) (cells_cons (fun _ _ _ _ h => nils_dz _ h) cells_nil))
  | .list t => by
    rw [Ty.av, Ty.gt, GT.av, GT.avs, GT.avs]
    exact cells_cons (fun _ _ _ _ h => h) (cells_cons (fun _ _ _ _ h => h) (cells_cons (slc_one (ty_to t)) cells_nil))
  | .map a b => by
    rw [Ty.av, Ty.gt, GT.av, GT.avs, GT.avs, GT.avs]
    refine cells_cons (fun _ _ _ _ h => h) (cells_cons (fun _ _ _ _ h => h) (cells_cons (fun T g w x hd => ?_) cells_nil))
    refine cells_slc (by simp) (fun i p q hp hq => ?_) hd
    match i with
    | 0 => cases hp; cases hq; exact ty_to a
    | 1 => cases hp; cases hq; exact ty_to b
    | i + 2 => simp at hp
  | .opt t => by
    rw [Ty.av, Ty.gt, GT.av, GT.avs, GT.avs]
    exact cells_cons (fun _ _ _ _ h => h) (cells_cons (fun _ _ _ _ h => h) (cells_cons (slc_one (ty_to t)) cells_nil))
theorem fd_to (f : Fd) : CellsTo f.av f.gf.av := cells_cons (fun _ _ _ _ h => h) (cells_cons (fun _ _ _ _ h => h) (ty_to f.ty))
theorem md_to (m : Md) : CellsTo m.av m.gm.av := by
  unfold Md.av Md.gm GM.av
  exact cells_cons (fun _ _ _ _ h => h) (cells_cons (fun _ _ _ _ h => h) (cells_cons (fun _ _ _ _ h => h) (cells_cons (fun _ _ _ _ h => h) (cells_cons (fun _ _ _ _ h => h) cells_nil))))
theorem gd_to (d : Dc) : CellsTo d.av d.gd.av := by
  unfold Dc.av Dc.gd GD.av
  by_cases hk : d.kind = 4
  · simp only [if_pos hk]
    refine cells_cons (fun _ _ _ _ h => h) (cells_cons (fun _ _ _ _ h => h) (cells_cons (fun _ _ _ _ h => nils_dz _ h) (cells_cons (fun T g w x h => ?_) (cells_cons (fun _ _ _ _ h => h) cells_nil))))
    rw [List.map_map]
    exact slc_map md_to d.methods T g w x h
  · simp only [if_neg hk]
    refine cells_cons (fun _ _ _ _ h => h) (cells_cons (fun _ _ _ _ h => h) (cells_cons (fun T g w x h => ?_) (cells_cons (fun _ _ _ _ h => nils_dz _ h) (cells_cons (fun _ _ _ _ h => h) cells_nil))))
    rw [List.map_map]
    exact slc_map fd_to d.fields T g w x h
theorem DcOk.gok {d : Dc} (h : DcOk d) : d.gd.ok := by
  unfold Dc.gd GD.ok
  simp only
  constructor
  · intro f hf
    split at hf
    · simp at hf
    · obtain ⟨x, hx, rfl⟩ := List.mem_map.1 hf
      have := (h.fs x hx).1
      show InI (x.tag : Int)
      unfold InI; omega
  · intro m hm
    split at hm
    · obtain ⟨x, hx, rfl⟩ := List.mem_map.1 hm
      have := (h.ms x hx).1
      show InI (x.tag : Int)
      unfold InI; omega
    · simp at hm
theorem stext_dc {l : List Dc} (h : ∀ d ∈ l, DcOk d) (hl : l.length ≤ 16) {G : Glob} (hL : LibOk G) : CallOk Tryd.prog TT 26 [.slc 77 (l.map Dc.av)] G (fun v G' => v = .tup [.str (S (showP l)), .int .i64 0] ∧ G' = G) := by
  have hb := show_bound h hl
  have hT := text_show h hl
  have hc := stext_ok (l.map Dc.gd) (fun d hd => by obtain ⟨x, hx, rfl⟩ := List.mem_map.1 hd; exact (h x hx).gok) hL (.inr (by rw [decls_show l h []]; show ([] ++ showP l).length ≤ _; rw [List.nil_append]; omega))
  rw [hT] at hc
  refine hc.args rfl fun i a ha => ?_
  match i with
  | 0 =>
    cases ha
    refine ⟨_, rfl, fun g w u hd => ?_⟩
    rw [List.map_map]
    exact slc_map gd_to l _ g w u hd
  | i + 1 => simp at ha
def ex10 : List Dc := [⟨3, [69], [⟨0, [65], .leaf 0⟩], [], 0⟩]
theorem ex10_ok : ∀ d ∈ ex10, DcOk d := fun d hd => by
  rw [List.mem_singleton.1 hd]
  refine ⟨by decide, by decide, by decide, by decide, by decide, fun h => (by cases h), fun _ => rfl, fun f hf => ?_, fun m hm => (by cases hm)⟩
  rw [List.mem_singleton.1 hf]
  exact ⟨by decide, by decide, rfl⟩
theorem ex10_text : showP ex10 = [101, 110, 117, 109, 32, 69, 32, 123, 32, 48, 32, 65, 59, 32, 125, 10] := by
  have h0 : Lib.decDigits 0 = [48] := dec_small (by decide)
  unfold showP ex10 dcT flatP
  simp only [List.flatMap_cons, List.flatMap_nil, List.append_nil, fdT, nu, h0]
  rfl
theorem awake10_ok {G : Glob} (hL : LibOk G) : CallOk Tryd.prog TT 25 [] G (fun v G' => v = .bool true ∧ G' = G) := by
  have h := stext_dc ex10_ok (by decide) hL
  rw [ex10_text, show ex10.map Dc.av = [[.int .i64 3, .str (S [69]), .slc 83 [[.int .i64 0, .str (S [65]), .int .i64 0, .str ⟨#[]⟩, .nils]], .nils, .int .i64 0]] from rfl] at h
  have e1 : ((S [101, 110, 117, 109, 32, 69, 32, 123, 32, 48, 32, 65, 59, 32, 125, 10]).toList == (⟨#[101, 110, 117, 109, 32, 69, 32, 123, 32, 48, 32, 65, 59, 32, 125, 10]⟩ : ByteArray).toList) = true := by
    rw [show (⟨#[101, 110, 117, 109, 32, 69, 32, 123, 32, 48, 32, 65, 59, 32, 125, 10]⟩ : ByteArray) = S [101, 110, 117, 109, 32, 69, 32, 123, 32, 48, 32, 65, 59, 32, 125, 10] from rfl, seq_S]; simp
  generalize S [101, 110, 117, 109, 32, 69, 32, 123, 32, 48, 32, 65, 59, 32, 125, 10] = z at *
  refine call_sem tt_ok Tryd.func25 rfl (by kernel_rfl) Tryd.ntmps25 Tryd.results25 ?_; conv => whnf
  repeat' (first | ((first | refine Sem.reg tt_ok ?_ | refine Sem.condS ?_ | refine Sem.regL tt_ok ?_ | refine Sem.skip tt_ok ?_ | refine Sem.exit tt_ok ?_ | refine Sem.ret tt_ok ?_ | refine BS_t (by assumption) ?_ | refine BS_f (by assumption) ?_ | refine atG (by repeat (first | assumption | exact setG_same _ _ _ | refine Eq.trans (setG_ne _ _ (by first | assumption | exact Ne.symm (by assumption))) ?_)) ?_ | refine (nthK_iff _ _).2 ⟨_, (by assumption), ?_⟩ | refine ⟨_, ⟨(by omega), (by assumption)⟩, ?_⟩ | refine And.intro (by first | decide | omega) ?_ | fail); conv => whnf) | refine Sem.seqS ?_ | refine Sem.block ?_ | fail)
  refine h.on ?_; conv => whnf
  repeat' (first | ((first | refine Sem.reg tt_ok ?_ | refine Sem.condS ?_ | refine Sem.regL tt_ok ?_ | refine Sem.skip tt_ok ?_ | refine Sem.exit tt_ok ?_ | refine Sem.ret tt_ok ?_ | refine BS_t (by assumption) ?_ | refine BS_f (by assumption) ?_ | refine atG (by repeat (first | assumption | exact setG_same _ _ _ | refine Eq.trans (setG_ne _ _ (by first | assumption | exact Ne.symm (by assumption))) ?_)) ?_ | refine (nthK_iff _ _).2 ⟨_, (by assumption), ?_⟩ | refine ⟨_, ⟨(by omega), (by assumption)⟩, ?_⟩ | refine And.intro (by first | decide | omega) ?_ | fail); conv => whnf) | refine Sem.seqS ?_ | refine Sem.block ?_ | fail)
  exact ⟨_, fun _ _ h => h, rfl, rfl⟩
end Go.Proofs.YtofhakbmmgpgdaaDoor
