/- The document's Text of a value, in the abstract run. -/
import Derived.Test.YtgedlbfdhekdgaaDoorValH
import Derived.Test.YtgedlbfdhekdgaaDoorValC
set_option maxRecDepth 100000
set_option linter.unusedSimpArgs false
namespace Go.Proofs.YtgedlbfdhekdgaaDoor
open Go Go.RowKit Go.Proofs

theorem rtext_ok : ∀ v, RTextOk v := VT.ind fun kd nm s tags l ih G hin hl => by
  cases hin with
  | mk _ _ _ _ _ hk hn ht hli =>
  have hav : (VT.mk kd nm s tags l).av = [.int .i64 kd, .int .i64 nm, .str (S s), .slc 3 (tags.map tagA), .slc 25 (VT.avs l)] := by rw [VT.av]
  rw [sizeV_mk] at hl
  rw [hav, textT_mk]
  have hsg := signed_ok nm G hn.1 hn.2
  have hq := rquoted_ok s (by omega) G
  have i0 := ritems0_ok kd nm s tags l ih hli ht (by omega) G
  have i1 := ritems1_ok kd nm s tags l ih hli ht (by omega) G
  have i2 := ritems2_ok kd nm s tags l ih hli ht (by omega) G
  have hd := digits_ok (u64N nm + 1) (u64N nm) G (by omega) (by have := u64_lt nm; omega)
  have wu : IntKind.u64.wrap nm = ((u64N nm : Nat) : Int) := by rw [IntKind.wrap_u64]; unfold u64N; omega
  have hmx : IntKind.i64.max = 9223372036854775807 := rfl
  rcases kinds10 kd with rfl | rfl | rfl | rfl | rfl | rfl | rfl | rfl | rfl | rfl | ⟨h1, h2, h3, h4, h5, h6, h7, h8, h9, h10⟩
  rotate_right
  · have t1 : (kd == 1) = false := by simpa using h1
    have t2 : (kd == 2) = false := by simpa using h2
    have t3 : (kd == 3) = false := by simpa using h3
    have t4 : (kd == 4) = false := by simpa using h4
    have t5 : (kd == 5) = false := by simpa using h5
    have t6 : (kd == 6) = false := by simpa using h6
    have t7 : (kd == 7) = false := by simpa using h7
    have t8 : (kd == 8) = false := by simpa using h8
    have t9 : (kd == 9) = false := by simpa using h9
    have t10 : (kd == 10) = false := by simpa using h10
    rw [if_neg h1, if_neg (by omega), if_neg h3, if_neg (by omega), if_neg h7, if_neg h8, if_neg h9, if_neg h10]
    refine call_sem tt_ok Tryd.func8 rfl (by kernel_rfl) Tryd.ntmps8 Tryd.results8 ?_; conv => whnf
    repeat' (first | ((first | refine Sem.reg tt_ok ?_ | refine Sem.condS ?_ | refine Sem.regL tt_ok ?_ | refine Sem.skip tt_ok ?_ | refine Sem.exit tt_ok ?_ | refine Sem.ret tt_ok ?_ | refine BS_t (by assumption) ?_ | refine BS_f (by assumption) ?_ | refine (nthK_iff _ _).2 ⟨_, (by assumption), ?_⟩ | refine ⟨_, ⟨(by omega), (by assumption)⟩, ?_⟩ | refine And.intro (by first | decide | omega) ?_ | fail); conv => whnf) | refine Sem.seqS ?_ | refine Sem.block ?_ | fail)
    exact ⟨_, fun _ _ h => h, rfl, rfl⟩
  · by_cases hz : nm = 0
    · have t0 : (nm == 0) = true := by simpa using hz
      rw [if_pos rfl, if_pos hz]
      refine call_sem tt_ok Tryd.func8 rfl (by kernel_rfl) Tryd.ntmps8 Tryd.results8 ?_; conv => whnf
      repeat' (first | ((first | refine Sem.reg tt_ok ?_ | refine Sem.condS ?_ | refine Sem.regL tt_ok ?_ | refine Sem.skip tt_ok ?_ | refine Sem.exit tt_ok ?_ | refine Sem.ret tt_ok ?_ | refine BS_t (by assumption) ?_ | refine BS_f (by assumption) ?_ | refine (nthK_iff _ _).2 ⟨_, (by assumption), ?_⟩ | refine ⟨_, ⟨(by omega), (by assumption)⟩, ?_⟩ | refine And.intro (by first | decide | omega) ?_ | fail); conv => whnf) | refine Sem.seqS ?_ | refine Sem.block ?_ | fail)
      exact ⟨_, fun _ _ h => h, rfl, rfl⟩
    · have t0 : (nm == 0) = false := by simpa using hz
      rw [if_pos rfl, if_neg hz]
      refine call_sem tt_ok Tryd.func8 rfl (by kernel_rfl) Tryd.ntmps8 Tryd.results8 ?_; conv => whnf
      repeat' (first | ((first | refine Sem.reg tt_ok ?_ | refine Sem.condS ?_ | refine Sem.regL tt_ok ?_ | refine Sem.skip tt_ok ?_ | refine Sem.exit tt_ok ?_ | refine Sem.ret tt_ok ?_ | refine BS_t (by assumption) ?_ | refine BS_f (by assumption) ?_ | refine (nthK_iff _ _).2 ⟨_, (by assumption), ?_⟩ | refine ⟨_, ⟨(by omega), (by assumption)⟩, ?_⟩ | refine And.intro (by first | decide | omega) ?_ | fail); conv => whnf) | refine Sem.seqS ?_ | refine Sem.block ?_ | fail)
      exact ⟨_, fun _ _ h => h, rfl, rfl⟩
  · refine call_sem tt_ok Tryd.func8 rfl (by kernel_rfl) Tryd.ntmps8 Tryd.results8 ?_; conv => whnf
    repeat' (first | ((first | refine Sem.reg tt_ok ?_ | refine Sem.condS ?_ | refine Sem.regL tt_ok ?_ | refine Sem.skip tt_ok ?_ | refine Sem.exit tt_ok ?_ | refine Sem.ret tt_ok ?_ | refine BS_t (by assumption) ?_ | refine BS_f (by assumption) ?_ | refine (nthK_iff _ _).2 ⟨_, (by assumption), ?_⟩ | refine ⟨_, ⟨(by omega), (by assumption)⟩, ?_⟩ | refine And.intro (by first | decide | omega) ?_ | fail); conv => whnf) | refine Sem.seqS ?_ | refine Sem.block ?_ | fail)
    refine hsg.on ?_; conv => whnf
    repeat' (first | ((first | refine Sem.reg tt_ok ?_ | refine Sem.condS ?_ | refine Sem.regL tt_ok ?_ | refine Sem.skip tt_ok ?_ | refine Sem.exit tt_ok ?_ | refine Sem.ret tt_ok ?_ | refine BS_t (by assumption) ?_ | refine BS_f (by assumption) ?_ | refine (nthK_iff _ _).2 ⟨_, (by assumption), ?_⟩ | refine ⟨_, ⟨(by omega), (by assumption)⟩, ?_⟩ | refine And.intro (by first | decide | omega) ?_ | fail); conv => whnf) | refine Sem.seqS ?_ | refine Sem.block ?_ | fail)
    exact ⟨_, fun _ _ h => h, rfl, rfl⟩
  · refine call_sem tt_ok Tryd.func8 rfl (by kernel_rfl) Tryd.ntmps8 Tryd.results8 ?_; conv => whnf
    repeat' (first | ((first | refine Sem.reg tt_ok ?_ | refine Sem.condS ?_ | refine Sem.regL tt_ok ?_ | refine Sem.skip tt_ok ?_ | refine Sem.exit tt_ok ?_ | refine Sem.ret tt_ok ?_ | refine BS_t (by assumption) ?_ | refine BS_f (by assumption) ?_ | refine (nthK_iff _ _).2 ⟨_, (by assumption), ?_⟩ | refine ⟨_, ⟨(by omega), (by assumption)⟩, ?_⟩ | refine And.intro (by first | decide | omega) ?_ | fail); conv => whnf) | refine Sem.seqS ?_ | refine Sem.block ?_ | fail)
    rw [wu]
    refine hd.on ?_; conv => whnf
    repeat' (first | ((first | refine Sem.reg tt_ok ?_ | refine Sem.condS ?_ | refine Sem.regL tt_ok ?_ | refine Sem.skip tt_ok ?_ | refine Sem.exit tt_ok ?_ | refine Sem.ret tt_ok ?_ | refine BS_t (by assumption) ?_ | refine BS_f (by assumption) ?_ | refine (nthK_iff _ _).2 ⟨_, (by assumption), ?_⟩ | refine ⟨_, ⟨(by omega), (by assumption)⟩, ?_⟩ | refine And.intro (by first | decide | omega) ?_ | fail); conv => whnf) | refine Sem.seqS ?_ | refine Sem.block ?_ | fail)
    exact ⟨_, fun _ _ h => h, rfl, rfl⟩
  · refine call_sem tt_ok Tryd.func8 rfl (by kernel_rfl) Tryd.ntmps8 Tryd.results8 ?_; conv => whnf
    repeat' (first | ((first | refine Sem.reg tt_ok ?_ | refine Sem.condS ?_ | refine Sem.regL tt_ok ?_ | refine Sem.skip tt_ok ?_ | refine Sem.exit tt_ok ?_ | refine Sem.ret tt_ok ?_ | refine BS_t (by assumption) ?_ | refine BS_f (by assumption) ?_ | refine (nthK_iff _ _).2 ⟨_, (by assumption), ?_⟩ | refine ⟨_, ⟨(by omega), (by assumption)⟩, ?_⟩ | refine And.intro (by first | decide | omega) ?_ | fail); conv => whnf) | refine Sem.seqS ?_ | refine Sem.block ?_ | fail)
    refine hq.on ?_; conv => whnf
    repeat' (first | ((first | refine Sem.reg tt_ok ?_ | refine Sem.condS ?_ | refine Sem.regL tt_ok ?_ | refine Sem.skip tt_ok ?_ | refine Sem.exit tt_ok ?_ | refine Sem.ret tt_ok ?_ | refine BS_t (by assumption) ?_ | refine BS_f (by assumption) ?_ | refine (nthK_iff _ _).2 ⟨_, (by assumption), ?_⟩ | refine ⟨_, ⟨(by omega), (by assumption)⟩, ?_⟩ | refine And.intro (by first | decide | omega) ?_ | fail); conv => whnf) | refine Sem.seqS ?_ | refine Sem.block ?_ | fail)
    exact ⟨_, fun _ _ h => h, rfl, rfl⟩
  · refine call_sem tt_ok Tryd.func8 rfl (by kernel_rfl) Tryd.ntmps8 Tryd.results8 ?_; conv => whnf
    repeat' (first | ((first | refine Sem.reg tt_ok ?_ | refine Sem.condS ?_ | refine Sem.regL tt_ok ?_ | refine Sem.skip tt_ok ?_ | refine Sem.exit tt_ok ?_ | refine Sem.ret tt_ok ?_ | refine BS_t (by assumption) ?_ | refine BS_f (by assumption) ?_ | refine (nthK_iff _ _).2 ⟨_, (by assumption), ?_⟩ | refine ⟨_, ⟨(by omega), (by assumption)⟩, ?_⟩ | refine And.intro (by first | decide | omega) ?_ | fail); conv => whnf) | refine Sem.seqS ?_ | refine Sem.block ?_ | fail)
    refine hq.on ?_; conv => whnf
    repeat' (first | ((first | refine Sem.reg tt_ok ?_ | refine Sem.condS ?_ | refine Sem.regL tt_ok ?_ | refine Sem.skip tt_ok ?_ | refine Sem.exit tt_ok ?_ | refine Sem.ret tt_ok ?_ | refine BS_t (by assumption) ?_ | refine BS_f (by assumption) ?_ | refine (nthK_iff _ _).2 ⟨_, (by assumption), ?_⟩ | refine ⟨_, ⟨(by omega), (by assumption)⟩, ?_⟩ | refine And.intro (by first | decide | omega) ?_ | fail); conv => whnf) | refine Sem.seqS ?_ | refine Sem.block ?_ | fail)
    exact ⟨_, fun _ _ h => h, rfl, rfl⟩
  · refine call_sem tt_ok Tryd.func8 rfl (by kernel_rfl) Tryd.ntmps8 Tryd.results8 ?_; conv => whnf
    repeat' (first | ((first | refine Sem.reg tt_ok ?_ | refine Sem.condS ?_ | refine Sem.regL tt_ok ?_ | refine Sem.skip tt_ok ?_ | refine Sem.exit tt_ok ?_ | refine Sem.ret tt_ok ?_ | refine BS_t (by assumption) ?_ | refine BS_f (by assumption) ?_ | refine (nthK_iff _ _).2 ⟨_, (by assumption), ?_⟩ | refine ⟨_, ⟨(by omega), (by assumption)⟩, ?_⟩ | refine And.intro (by first | decide | omega) ?_ | fail); conv => whnf) | refine Sem.seqS ?_ | refine Sem.block ?_ | fail)
    refine hsg.on ?_; conv => whnf
    repeat' (first | ((first | refine Sem.reg tt_ok ?_ | refine Sem.condS ?_ | refine Sem.regL tt_ok ?_ | refine Sem.skip tt_ok ?_ | refine Sem.exit tt_ok ?_ | refine Sem.ret tt_ok ?_ | refine BS_t (by assumption) ?_ | refine BS_f (by assumption) ?_ | refine (nthK_iff _ _).2 ⟨_, (by assumption), ?_⟩ | refine ⟨_, ⟨(by omega), (by assumption)⟩, ?_⟩ | refine And.intro (by first | decide | omega) ?_ | fail); conv => whnf) | refine Sem.seqS ?_ | refine Sem.block ?_ | fail)
    exact ⟨_, fun _ _ h => h, rfl, rfl⟩
  · have e : (⟨#[91]⟩ : ByteArray) ++ S (itemsT l 0 0 tags) ++ (⟨#[93]⟩ : ByteArray) = S ([91] ++ itemsT l 0 0 tags ++ [93]) := by apply ByteArray.ext; simp [S, ByteArray.data_append]
    have z1 : (⟨#[91]⟩ : ByteArray).size = 1 := rfl
    have z2 : (⟨#[93]⟩ : ByteArray).size = 1 := rfl
    have z3 := S_size (itemsT l 0 0 tags)
    have z4 : ((⟨#[91]⟩ : ByteArray) ++ S (itemsT l 0 0 tags)).size = 1 + (itemsT l 0 0 tags).length := by rw [ByteArray.size_append, z3]; rfl
    have b0 := items_len (fun x hx => text_len x (hli x hx)) 0 tags ht 0
    refine call_sem tt_ok Tryd.func8 rfl (by kernel_rfl) Tryd.ntmps8 Tryd.results8 ?_; conv => whnf
    repeat' (first | ((first | refine Sem.reg tt_ok ?_ | refine Sem.condS ?_ | refine Sem.regL tt_ok ?_ | refine Sem.skip tt_ok ?_ | refine Sem.exit tt_ok ?_ | refine Sem.ret tt_ok ?_ | refine BS_t (by assumption) ?_ | refine BS_f (by assumption) ?_ | refine (nthK_iff _ _).2 ⟨_, (by assumption), ?_⟩ | refine ⟨_, ⟨(by omega), (by assumption)⟩, ?_⟩ | refine And.intro (by first | decide | omega) ?_ | fail); conv => whnf) | refine Sem.seqS ?_ | refine Sem.block ?_ | fail)
    refine i0.on ?_; conv => whnf
    repeat' (first | ((first | refine Sem.reg tt_ok ?_ | refine Sem.condS ?_ | refine Sem.regL tt_ok ?_ | refine Sem.skip tt_ok ?_ | refine Sem.exit tt_ok ?_ | refine Sem.ret tt_ok ?_ | refine BS_t (by assumption) ?_ | refine BS_f (by assumption) ?_ | refine (nthK_iff _ _).2 ⟨_, (by assumption), ?_⟩ | refine ⟨_, ⟨(by omega), (by assumption)⟩, ?_⟩ | refine And.intro (by first | decide | omega) ?_ | fail); conv => whnf) | refine Sem.seqS ?_ | refine Sem.block ?_ | fail)
    exact ⟨_, fun _ _ h => h, congrArg AV.str e, rfl⟩
  · have e : (⟨#[123]⟩ : ByteArray) ++ S (itemsT l 0 2 tags) ++ (⟨#[125]⟩ : ByteArray) = S ([123] ++ itemsT l 0 2 tags ++ [125]) := by apply ByteArray.ext; simp [S, ByteArray.data_append]
    have z1 : (⟨#[123]⟩ : ByteArray).size = 1 := rfl
    have z2 : (⟨#[125]⟩ : ByteArray).size = 1 := rfl
    have z3 := S_size (itemsT l 0 2 tags)
    have z4 : ((⟨#[123]⟩ : ByteArray) ++ S (itemsT l 0 2 tags)).size = 1 + (itemsT l 0 2 tags).length := by rw [ByteArray.size_append, z3]; rfl
    have b0 := items_len (fun x hx => text_len x (hli x hx)) 2 tags ht 0
    refine call_sem tt_ok Tryd.func8 rfl (by kernel_rfl) Tryd.ntmps8 Tryd.results8 ?_; conv => whnf
    repeat' (first | ((first | refine Sem.reg tt_ok ?_ | refine Sem.condS ?_ | refine Sem.regL tt_ok ?_ | refine Sem.skip tt_ok ?_ | refine Sem.exit tt_ok ?_ | refine Sem.ret tt_ok ?_ | refine BS_t (by assumption) ?_ | refine BS_f (by assumption) ?_ | refine (nthK_iff _ _).2 ⟨_, (by assumption), ?_⟩ | refine ⟨_, ⟨(by omega), (by assumption)⟩, ?_⟩ | refine And.intro (by first | decide | omega) ?_ | fail); conv => whnf) | refine Sem.seqS ?_ | refine Sem.block ?_ | fail)
    refine i2.on ?_; conv => whnf
    repeat' (first | ((first | refine Sem.reg tt_ok ?_ | refine Sem.condS ?_ | refine Sem.regL tt_ok ?_ | refine Sem.skip tt_ok ?_ | refine Sem.exit tt_ok ?_ | refine Sem.ret tt_ok ?_ | refine BS_t (by assumption) ?_ | refine BS_f (by assumption) ?_ | refine (nthK_iff _ _).2 ⟨_, (by assumption), ?_⟩ | refine ⟨_, ⟨(by omega), (by assumption)⟩, ?_⟩ | refine And.intro (by first | decide | omega) ?_ | fail); conv => whnf) | refine Sem.seqS ?_ | refine Sem.block ?_ | fail)
    exact ⟨_, fun _ _ h => h, congrArg AV.str e, rfl⟩
  · have e : (⟨#[40]⟩ : ByteArray) ++ S (itemsT l 0 1 tags) ++ (⟨#[41]⟩ : ByteArray) = S ([40] ++ itemsT l 0 1 tags ++ [41]) := by apply ByteArray.ext; simp [S, ByteArray.data_append]
    have z1 : (⟨#[40]⟩ : ByteArray).size = 1 := rfl
    have z2 : (⟨#[41]⟩ : ByteArray).size = 1 := rfl
    have z3 := S_size (itemsT l 0 1 tags)
    have z4 : ((⟨#[40]⟩ : ByteArray) ++ S (itemsT l 0 1 tags)).size = 1 + (itemsT l 0 1 tags).length := by rw [ByteArray.size_append, z3]; rfl
    have b0 := items_len (fun x hx => text_len x (hli x hx)) 1 tags ht 0
    refine call_sem tt_ok Tryd.func8 rfl (by kernel_rfl) Tryd.ntmps8 Tryd.results8 ?_; conv => whnf
    repeat' (first | ((first | refine Sem.reg tt_ok ?_ | refine Sem.condS ?_ | refine Sem.regL tt_ok ?_ | refine Sem.skip tt_ok ?_ | refine Sem.exit tt_ok ?_ | refine Sem.ret tt_ok ?_ | refine BS_t (by assumption) ?_ | refine BS_f (by assumption) ?_ | refine (nthK_iff _ _).2 ⟨_, (by assumption), ?_⟩ | refine ⟨_, ⟨(by omega), (by assumption)⟩, ?_⟩ | refine And.intro (by first | decide | omega) ?_ | fail); conv => whnf) | refine Sem.seqS ?_ | refine Sem.block ?_ | fail)
    refine i1.on ?_; conv => whnf
    repeat' (first | ((first | refine Sem.reg tt_ok ?_ | refine Sem.condS ?_ | refine Sem.regL tt_ok ?_ | refine Sem.skip tt_ok ?_ | refine Sem.exit tt_ok ?_ | refine Sem.ret tt_ok ?_ | refine BS_t (by assumption) ?_ | refine BS_f (by assumption) ?_ | refine (nthK_iff _ _).2 ⟨_, (by assumption), ?_⟩ | refine ⟨_, ⟨(by omega), (by assumption)⟩, ?_⟩ | refine And.intro (by first | decide | omega) ?_ | fail); conv => whnf) | refine Sem.seqS ?_ | refine Sem.block ?_ | fail)
    exact ⟨_, fun _ _ h => h, congrArg AV.str e, rfl⟩
  · have e : (⟨#[60]⟩ : ByteArray) ++ S (itemsT l 0 1 tags) ++ (⟨#[62]⟩ : ByteArray) = S ([60] ++ itemsT l 0 1 tags ++ [62]) := by apply ByteArray.ext; simp [S, ByteArray.data_append]
    have z1 : (⟨#[60]⟩ : ByteArray).size = 1 := rfl
    have z2 : (⟨#[62]⟩ : ByteArray).size = 1 := rfl
    have z3 := S_size (itemsT l 0 1 tags)
    have z4 : ((⟨#[60]⟩ : ByteArray) ++ S (itemsT l 0 1 tags)).size = 1 + (itemsT l 0 1 tags).length := by rw [ByteArray.size_append, z3]; rfl
    have b0 := items_len (fun x hx => text_len x (hli x hx)) 1 tags ht 0
    refine call_sem tt_ok Tryd.func8 rfl (by kernel_rfl) Tryd.ntmps8 Tryd.results8 ?_; conv => whnf
    repeat' (first | ((first | refine Sem.reg tt_ok ?_ | refine Sem.condS ?_ | refine Sem.regL tt_ok ?_ | refine Sem.skip tt_ok ?_ | refine Sem.exit tt_ok ?_ | refine Sem.ret tt_ok ?_ | refine BS_t (by assumption) ?_ | refine BS_f (by assumption) ?_ | refine (nthK_iff _ _).2 ⟨_, (by assumption), ?_⟩ | refine ⟨_, ⟨(by omega), (by assumption)⟩, ?_⟩ | refine And.intro (by first | decide | omega) ?_ | fail); conv => whnf) | refine Sem.seqS ?_ | refine Sem.block ?_ | fail)
    refine i1.on ?_; conv => whnf
    repeat' (first | ((first | refine Sem.reg tt_ok ?_ | refine Sem.condS ?_ | refine Sem.regL tt_ok ?_ | refine Sem.skip tt_ok ?_ | refine Sem.exit tt_ok ?_ | refine Sem.ret tt_ok ?_ | refine BS_t (by assumption) ?_ | refine BS_f (by assumption) ?_ | refine (nthK_iff _ _).2 ⟨_, (by assumption), ?_⟩ | refine ⟨_, ⟨(by omega), (by assumption)⟩, ?_⟩ | refine And.intro (by first | decide | omega) ?_ | fail); conv => whnf) | refine Sem.seqS ?_ | refine Sem.block ?_ | fail)
    exact ⟨_, fun _ _ h => h, congrArg AV.str e, rfl⟩
end Go.Proofs.YtgedlbfdhekdgaaDoor
