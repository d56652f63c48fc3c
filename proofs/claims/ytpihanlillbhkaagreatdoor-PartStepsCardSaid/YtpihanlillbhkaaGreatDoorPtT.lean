/- A partition's text. -/
import Derived.Test.YtpihanlillbhkaaGreatDoorPtF
import Derived.Test.YtpihanlillbhkaaGreatDoorGy
import Derived.Test.YtpihanlillbhkaaGreatDoorGt
set_option maxRecDepth 100000
set_option linter.unusedSimpArgs false
set_option linter.unusedVariables false
namespace Go.Proofs.YtpihanlillbhkaaGreatDoor
open Go Go.RowKit Go.Proofs

def kvT (q : PQ) (n : ByteArray) : List UInt8 := hexT (match lget q.kv n with | some v => v | none => ⟨#[]⟩).data.toList
def cnT (q : PQ) (n : ByteArray) : List UInt8 := Lib.itoa (IntKind.i64.wrap (sumN q.cn n))
def quTx (q : PQ) (n : ByteArray) : List UInt8 := Lib.itoa (waitN q.qu n : Nat)
def leT (q : PQ) (n : ByteArray) : List UInt8 := (match lget q.le n with | some (h, t) => hexT h.data.toList ++ [32] ++ Lib.itoa t | none => hexT [] ++ [32] ++ Lib.itoa 0)
def wKv : List UInt8 := [107, 118]
def wCn : List UInt8 := [99, 111, 117, 110, 116, 101, 114]
def wQu : List UInt8 := [113, 117, 101, 117, 101]
def wLe : List UInt8 := [108, 101, 97, 115, 101]
def textQ (q : PQ) : List UInt8 := linesT wKv (kvT q) (q.kv.map (·.1)) ++ linesT wCn (cnT q) (namesN (q.cn.map (·.name))) ++ linesT wQu (quTx q) (namesN (q.qu.map (·.1))) ++ linesT wLe (leT q) (q.le.map (·.1))
theorem pitoa_len {n : Int} (h : -9223372036854775808 ≤ n ∧ n ≤ 9223372036854775807) : (Lib.itoa n).length ≤ 20 := by
  unfold Lib.itoa
  split
  · have := vdec_le 18 n.natAbs (by omega)
    simp only [List.length_cons]; omega
  · have := vdec_le 18 n.toNat (by omega)
    omega
theorem wrap_in (n : Int) : -9223372036854775808 ≤ IntKind.i64.wrap n ∧ IntKind.i64.wrap n ≤ 9223372036854775807 := by
  rw [IntKind.wrap_i64]; omega
theorem linesT_len (word : List UInt8) (r : ByteArray → List UInt8) (M : Nat) : ∀ ns : List ByteArray, (∀ n ∈ ns, (lineT word r n).length ≤ M) → (linesT word r ns).length ≤ ns.length * M
  | [], _ => by simp [linesT]
  | n :: ns, h => by
    have h1 := linesT_len word r M ns fun n hn => h n (by simp [hn])
    have h2 := h n (by simp)
    unfold linesT at h1 ⊢
    rw [List.flatMap_cons, List.length_append, List.length_cons, Nat.add_mul, Nat.one_mul]; omega
theorem lineT_len (word : List UInt8) (r : ByteArray → List UInt8) (n : ByteArray) : (lineT word r n).length ≤ word.length + 2 * n.size + (r n).length + 4 := by
  have h1 := hexT_len n.data.toList
  have h2 : n.data.toList.length = n.size := by simp
  unfold lineT
  simp only [List.length_append, List.length_cons, List.length_nil]
  omega
structure QB (q : PQ) : Prop where
  sz : q.size ≤ 100000
  t : ∀ x ∈ q.le, 1 ≤ x.2.2 ∧ x.2.2 ≤ 1099512676352
theorem PR.qb {s : PS} {q : PQ} (h : PR s q) (hq : q.size ≤ 100000) : QB q := ⟨hq, fun x hx => h.t x (h.l.pm.mem_iff.2 hx)⟩
theorem le_len {q : PQ} (hq : q.size ≤ 100000) : q.kv.length ≤ 100000 ∧ (namesN (q.cn.map (·.name))).length ≤ 100000 ∧ (namesN (q.qu.map (·.1))).length ≤ 100000 ∧ q.le.length ≤ 100000 ∧ q.qu.length ≤ 100000 := by
  have h1 := sum_len (fun x : ByteArray × ByteArray => 16 + x.1.size + x.2.size) (fun x => by omega) q.kv
  have e1 : sizeR q.kv = (q.kv.map fun x : ByteArray × ByteArray => 16 + x.1.size + x.2.size).sum := rfl
  have h2 := sum_len (fun s : ByteArray => 24 + s.size) (fun x => by omega) (namesN (q.cn.map (·.name)))
  have e2 : sz27 (q.cn.map (·.name)) = ((namesN (q.cn.map (·.name))).map fun s : ByteArray => 24 + s.size).sum := rfl
  have h3 := sum_len (fun s : ByteArray => 16 + s.size) (fun x => by omega) (namesN (q.qu.map (·.1)))
  have e3 : szN q.qu = ((namesN (q.qu.map (·.1))).map fun s : ByteArray => 16 + s.size).sum := rfl
  have h4 := sum_len (fun x : ByteArray × (ByteArray × Int) => 24 + x.1.size + x.2.1.size) (fun x => by omega) q.le
  have e4 : sizeL q.le = (q.le.map fun x : ByteArray × (ByteArray × Int) => 24 + x.1.size + x.2.1.size).sum := rfl
  have h5 := sum_len (fun x : ByteArray × ByteArray => 16 + x.2.size) (fun x => by omega) q.qu
  have e5 : szA q.qu = (q.qu.map fun x : ByteArray × ByteArray => 16 + x.2.size).sum := rfl
  unfold PQ.size sz28 at hq
  omega
theorem name_sizes {q : PQ} (hq : q.size ≤ 100000) : (∀ x ∈ q.kv, x.1.size ≤ 100000 ∧ x.2.size ≤ 100000) ∧ (∀ n ∈ namesN (q.cn.map (·.name)), n.size ≤ 100000) ∧ (∀ n ∈ namesN (q.qu.map (·.1)), n.size ≤ 100000) ∧ ∀ x ∈ q.le, x.1.size ≤ 100000 ∧ x.2.1.size ≤ 100000 := by
  have e1 : sizeR q.kv = (q.kv.map fun x : ByteArray × ByteArray => 16 + x.1.size + x.2.size).sum := rfl
  have e2 : sz27 (q.cn.map (·.name)) = ((namesN (q.cn.map (·.name))).map fun s : ByteArray => 24 + s.size).sum := rfl
  have e3 : szN q.qu = ((namesN (q.qu.map (·.1))).map fun s : ByteArray => 16 + s.size).sum := rfl
  have e4 : sizeL q.le = (q.le.map fun x : ByteArray × (ByteArray × Int) => 24 + x.1.size + x.2.1.size).sum := rfl
  unfold PQ.size sz28 at hq
  refine ⟨fun x hx => ?_, fun n hn => ?_, fun n hn => ?_, fun x hx => ?_⟩
  · have := sum_mem (fun x : ByteArray × ByteArray => 16 + x.1.size + x.2.size) hx
    try simp only at this
    omega
  · have := sum_mem (fun s : ByteArray => 24 + s.size) hn
    omega
  · have := sum_mem (fun s : ByteArray => 16 + s.size) hn
    omega
  · have := sum_mem (fun x : ByteArray × (ByteArray × Int) => 24 + x.1.size + x.2.1.size) hx
    try simp only at this
    omega
theorem kvT_len {q : PQ} (hq : q.size ≤ 100000) (n : ByteArray) : (kvT q n).length ≤ 200001 := by
  unfold kvT
  cases h : lget q.kv n with
  | none => simp [hexT]
  | some v =>
    have h1 := ((name_sizes hq).1 _ (lget_mem h)).2
    have h2 := hexT_len v.data.toList
    have h3 : v.data.toList.length = v.size := by simp
    simp only at h1 ⊢
    omega
theorem cnT_len (q : PQ) (n : ByteArray) : (cnT q n).length ≤ 20 := pitoa_len (wrap_in _)
theorem quT_len {q : PQ} (hq : q.size ≤ 100000) (n : ByteArray) : (quTx q n).length ≤ 20 := by
  have h1 := waitN_le q.qu n
  have h2 := (le_len hq).2.2.2.2
  exact pitoa_len (by omega)
theorem leT_len {q : PQ} (hb : QB q) (n : ByteArray) : (leT q n).length ≤ 200030 := by
  unfold leT
  cases h : lget q.le n with
  | none =>
    have := pitoa_len (n := 0) (by decide)
    simp only [List.length_append, List.length_cons, List.length_nil, hexT]; omega
  | some v =>
    obtain ⟨v, t⟩ := v
    have h1 := ((name_sizes hb.sz).2.2.2 _ (lget_mem h)).2
    have h2 := hexT_len v.data.toList
    have h3 : v.data.toList.length = v.size := by simp
    have h4 := hb.t _ (lget_mem h)
    have h5 := pitoa_len (n := t) (by simp only at h4; omega)
    simp only [List.length_append, List.length_cons, List.length_nil]
    simp only at h1
    omega
theorem text_lens {q : PQ} (hb : QB q) : (linesT wKv (kvT q) (q.kv.map (·.1))).length ≤ 50000000000 ∧ (linesT wCn (cnT q) (namesN (q.cn.map (·.name)))).length ≤ 50000000000 ∧ (linesT wQu (quTx q) (namesN (q.qu.map (·.1)))).length ≤ 50000000000 ∧ (linesT wLe (leT q) (q.le.map (·.1))).length ≤ 50000000000 := by
  obtain ⟨l1, l2, l3, l4, _⟩ := le_len hb.sz
  obtain ⟨n1, n2, n3, n4⟩ := name_sizes hb.sz
  have a1 := linesT_len wKv (kvT q) 500000 (q.kv.map (·.1)) fun n hn => by
    obtain ⟨x, hx, rfl⟩ := List.mem_map.1 hn
    have h1 := lineT_len wKv (kvT q) x.1
    have h2 := kvT_len hb.sz x.1
    have h3 := n1 x hx
    have h4 : wKv.length = 2 := rfl
    omega
  have a2 := linesT_len wCn (cnT q) 500000 (namesN (q.cn.map (·.name))) fun n hn => by
    have h1 := lineT_len wCn (cnT q) n
    have h2 := cnT_len q n
    have h3 := n2 n hn
    have h4 : wCn.length = 7 := rfl
    omega
  have a3 := linesT_len wQu (quTx q) 500000 (namesN (q.qu.map (·.1))) fun n hn => by
    have h1 := lineT_len wQu (quTx q) n
    have h2 := quT_len hb.sz n
    have h3 := n3 n hn
    have h4 : wQu.length = 5 := rfl
    omega
  have a4 := linesT_len wLe (leT q) 500000 (q.le.map (·.1)) fun n hn => by
    obtain ⟨x, hx, rfl⟩ := List.mem_map.1 hn
    have h1 := lineT_len wLe (leT q) x.1
    have h2 := leT_len hb x.1
    have h3 := n4 x hx
    have h4 : wLe.length = 5 := rfl
    omega
  rw [List.length_map] at a1 a4
  refine ⟨?_, ?_, ?_, ?_⟩
  · exact Nat.le_trans a1 (by omega)
  · exact Nat.le_trans a2 (by omega)
  · exact Nat.le_trans a3 (by omega)
  · exact Nat.le_trans a4 (by omega)
section
variable {G : Glob} {b x : Nat} {s : PS} {m : MV} {q : PQ}
theorem tx1_ok (h : PtG G b s m) (hp : PR s q) (hq : q.size ≤ 100000) (hx : G x = some (.cells [.gptr b 0])) (n : ByteArray) : CallOk Tryz.prog TT 29 [.str n, .gptr x 0] G (fun v G' => v = .str (S (kvT q n)) ∧ G' = G) := by
  have hg := Pkget_ok G b m.k _ s.k n h.stK
  unfold kget at hg
  rw [hp.k.get] at hg
  unfold kvT
  cases hl : lget q.kv n with
  | some v =>
    have hz := ((name_sizes hq).1 _ (lget_mem hl)).2
    have hh := hex_ok v.data.toList (by simp only at hz; simp; omega) G
    rw [S_of] at hh
    simp only [hl] at hg
    simp only
    refine call_sem tt_ok Tryz.func29 rfl (by kernel_rfl) Tryz.ntmps29 Tryz.results29 ?_; conv => whnf
    repeat' (first | ((first | refine Sem.st tt_ok rfl ?_ | refine BS_t (by assumption) ?_ | refine BS_f (by assumption) ?_ | refine atG (by repeat (first | assumption | exact setG_same _ _ _ | refine atNe (by first | assumption | exact Ne.symm (by assumption)) ?_)) ?_ | refine nthKi (by assumption) ?_ | refine ⟨_, ⟨(by omega), (by assumption)⟩, ?_⟩ | refine And.intro (by first | decide | omega) ?_); conv => whnf) | refine Sem.seqS ?_ | refine Sem.block ?_)
    refine hg.on ?_; conv => whnf
    repeat' (first | ((first | refine Sem.st tt_ok rfl ?_ | refine BS_t (by assumption) ?_ | refine BS_f (by assumption) ?_ | refine atG (by repeat (first | assumption | exact setG_same _ _ _ | refine atNe (by first | assumption | exact Ne.symm (by assumption)) ?_)) ?_ | refine nthKi (by assumption) ?_ | refine ⟨_, ⟨(by omega), (by assumption)⟩, ?_⟩ | refine And.intro (by first | decide | omega) ?_); conv => whnf) | refine Sem.seqS ?_ | refine Sem.block ?_)
    refine hh.on ?_; conv => whnf
    repeat' (first | ((first | refine Sem.st tt_ok rfl ?_ | refine BS_t (by assumption) ?_ | refine BS_f (by assumption) ?_ | refine atG (by repeat (first | assumption | exact setG_same _ _ _ | refine atNe (by first | assumption | exact Ne.symm (by assumption)) ?_)) ?_ | refine nthKi (by assumption) ?_ | refine ⟨_, ⟨(by omega), (by assumption)⟩, ?_⟩ | refine And.intro (by first | decide | omega) ?_); conv => whnf) | refine Sem.seqS ?_ | refine Sem.block ?_)
    exact ⟨_, fun _ _ h => h, rfl, rfl⟩
  | none =>
    have hh := hex_ok [] (by simp) G
    simp only [hl] at hg
    simp only
    refine call_sem tt_ok Tryz.func29 rfl (by kernel_rfl) Tryz.ntmps29 Tryz.results29 ?_; conv => whnf
    repeat' (first | ((first | refine Sem.st tt_ok rfl ?_ | refine BS_t (by assumption) ?_ | refine BS_f (by assumption) ?_ | refine atG (by repeat (first | assumption | exact setG_same _ _ _ | refine atNe (by first | assumption | exact Ne.symm (by assumption)) ?_)) ?_ | refine nthKi (by assumption) ?_ | refine ⟨_, ⟨(by omega), (by assumption)⟩, ?_⟩ | refine And.intro (by first | decide | omega) ?_); conv => whnf) | refine Sem.seqS ?_ | refine Sem.block ?_)
    refine hg.on ?_; conv => whnf
    repeat' (first | ((first | refine Sem.st tt_ok rfl ?_ | refine BS_t (by assumption) ?_ | refine BS_f (by assumption) ?_ | refine atG (by repeat (first | assumption | exact setG_same _ _ _ | refine atNe (by first | assumption | exact Ne.symm (by assumption)) ?_)) ?_ | refine nthKi (by assumption) ?_ | refine ⟨_, ⟨(by omega), (by assumption)⟩, ?_⟩ | refine And.intro (by first | decide | omega) ?_); conv => whnf) | refine Sem.seqS ?_ | refine Sem.block ?_)
    refine hh.on ?_; conv => whnf
    repeat' (first | ((first | refine Sem.st tt_ok rfl ?_ | refine BS_t (by assumption) ?_ | refine BS_f (by assumption) ?_ | refine atG (by repeat (first | assumption | exact setG_same _ _ _ | refine atNe (by first | assumption | exact Ne.symm (by assumption)) ?_)) ?_ | refine nthKi (by assumption) ?_ | refine ⟨_, ⟨(by omega), (by assumption)⟩, ?_⟩ | refine And.intro (by first | decide | omega) ?_); conv => whnf) | refine Sem.seqS ?_ | refine Sem.block ?_)
    exact ⟨_, fun _ _ h => h, rfl, rfl⟩
theorem tx2_ok (h : PtG G b s m) (hp : PR s q) (hP : PowOk G) (hx : G x = some (.cells [.gptr b 0])) (n : ByteArray) : CallOk Tryz.prog TT 33 [.str n, .gptr x 0] G (fun v G' => v = .str (S (cnT q n)) ∧ G' = G) := by
  have hg := Pcvalue_ok _ G b m.c _ s.c n h.stC
  have hv := hp.c.val n
  rw [hv] at hg
  have hw := wrap_in (sumN q.cn n)
  have hf := fint_ok _ hw.1 hw.2 hP
  unfold cnT
  generalize IntKind.i64.wrap (sumN q.cn n) = k at *
  refine call_sem tt_ok Tryz.func33 rfl (by kernel_rfl) Tryz.ntmps33 Tryz.results33 ?_; conv => whnf
  repeat' (first | ((first | refine Sem.st tt_ok rfl ?_ | refine BS_t (by assumption) ?_ | refine BS_f (by assumption) ?_ | refine atG (by repeat (first | assumption | exact setG_same _ _ _ | refine atNe (by first | assumption | exact Ne.symm (by assumption)) ?_)) ?_ | refine nthKi (by assumption) ?_ | refine ⟨_, ⟨(by omega), (by assumption)⟩, ?_⟩ | refine And.intro (by first | decide | omega) ?_); conv => whnf) | refine Sem.seqS ?_ | refine Sem.block ?_)
  refine hg.on ?_; conv => whnf
  repeat' (first | ((first | refine Sem.st tt_ok rfl ?_ | refine BS_t (by assumption) ?_ | refine BS_f (by assumption) ?_ | refine atG (by repeat (first | assumption | exact setG_same _ _ _ | refine atNe (by first | assumption | exact Ne.symm (by assumption)) ?_)) ?_ | refine nthKi (by assumption) ?_ | refine ⟨_, ⟨(by omega), (by assumption)⟩, ?_⟩ | refine And.intro (by first | decide | omega) ?_); conv => whnf) | refine Sem.seqS ?_ | refine Sem.block ?_)
  refine hf.on ?_; conv => whnf
  repeat' (first | ((first | refine Sem.st tt_ok rfl ?_ | refine BS_t (by assumption) ?_ | refine BS_f (by assumption) ?_ | refine atG (by repeat (first | assumption | exact setG_same _ _ _ | refine atNe (by first | assumption | exact Ne.symm (by assumption)) ?_)) ?_ | refine nthKi (by assumption) ?_ | refine ⟨_, ⟨(by omega), (by assumption)⟩, ?_⟩ | refine And.intro (by first | decide | omega) ?_); conv => whnf) | refine Sem.seqS ?_ | refine Sem.block ?_)
  exact ⟨_, fun _ _ h => h, rfl, rfl⟩
theorem tx3_ok (h : PtG G b s m) (hp : PR s q) (hq : q.size ≤ 100000) (hP : PowOk G) (hx : G x = some (.cells [.gptr b 0])) (n : ByteArray) : CallOk Tryz.prog TT 37 [.str n, .gptr x 0] G (fun v G' => v = .str (S (quTx q n)) ∧ G' = G) := by
  have hg : CallOk Tryz.prog TT 39 [.gptr b 4, .str n] G (fun x G' => x = .int .i64 ((waitN q.qu n : Nat) : Int) ∧ G' = G) := by
    have g := Pfwaits_ok G b m.f _ s.f n h.f.1 (fun x hx => (h.f.2.2.1 _ (lget_mem hx)).2.1)
    have e := hp.f.waits n
    cases hl : lget s.f n with
    | some y => rw [hl] at e g; simp only at e g; rw [e] at g; exact g
    | none => rw [hl] at e g; simp only at e g; rw [e] at g; exact g
  have h1 := waitN_le q.qu n
  have h2 := (le_len hq).2.2.2.2
  have hf := itoa_ok ((waitN q.qu n : Nat) : Int) (by omega) (by omega) hP
  unfold quTx
  generalize ((waitN q.qu n : Nat) : Int) = k at *
  refine call_sem tt_ok Tryz.func37 rfl (by kernel_rfl) Tryz.ntmps37 Tryz.results37 ?_; conv => whnf
  repeat' (first | ((first | refine Sem.st tt_ok rfl ?_ | refine BS_t (by assumption) ?_ | refine BS_f (by assumption) ?_ | refine atG (by repeat (first | assumption | exact setG_same _ _ _ | refine atNe (by first | assumption | exact Ne.symm (by assumption)) ?_)) ?_ | refine nthKi (by assumption) ?_ | refine ⟨_, ⟨(by omega), (by assumption)⟩, ?_⟩ | refine And.intro (by first | decide | omega) ?_); conv => whnf) | refine Sem.seqS ?_ | refine Sem.block ?_)
  refine hg.on ?_; conv => whnf
  repeat' (first | ((first | refine Sem.st tt_ok rfl ?_ | refine BS_t (by assumption) ?_ | refine BS_f (by assumption) ?_ | refine atG (by repeat (first | assumption | exact setG_same _ _ _ | refine atNe (by first | assumption | exact Ne.symm (by assumption)) ?_)) ?_ | refine nthKi (by assumption) ?_ | refine ⟨_, ⟨(by omega), (by assumption)⟩, ?_⟩ | refine And.intro (by first | decide | omega) ?_); conv => whnf) | refine Sem.seqS ?_ | refine Sem.block ?_)
  refine hf.on ?_; conv => whnf
  repeat' (first | ((first | refine Sem.st tt_ok rfl ?_ | refine BS_t (by assumption) ?_ | refine BS_f (by assumption) ?_ | refine atG (by repeat (first | assumption | exact setG_same _ _ _ | refine atNe (by first | assumption | exact Ne.symm (by assumption)) ?_)) ?_ | refine nthKi (by assumption) ?_ | refine ⟨_, ⟨(by omega), (by assumption)⟩, ?_⟩ | refine And.intro (by first | decide | omega) ?_); conv => whnf) | refine Sem.seqS ?_ | refine Sem.block ?_)
  exact ⟨_, fun _ _ h => h, rfl, rfl⟩
theorem tx4_ok (h : PtG G b s m) (hp : PR s q) (hb : QB q) (hP : PowOk G) (hx : G x = some (.cells [.gptr b 0])) (n : ByteArray) : CallOk Tryz.prog TT 41 [.str n, .gptr x 0] G (fun v G' => v = .str (S (leT q n)) ∧ G' = G) := by
  have hg := Plhold_ok G b m.l _ s.l n h.stL
  unfold hold at hg
  rw [hp.l.get] at hg
  have hlt := leT_len hb n
  unfold leT at hlt ⊢
  have hmx : IntKind.i64.max = 9223372036854775807 := rfl
  have c32 : (⟨#[32]⟩ : ByteArray).size = 1 := rfl
  cases hl : lget q.le n with
  | some v =>
    obtain ⟨v, t⟩ := v
    have hz := ((name_sizes hb.sz).2.2.2 _ (lget_mem hl)).2
    have htt := hb.t _ (lget_mem hl)
    have hh := hex_ok v.data.toList (by simp only at hz; simp; omega) G
    rw [S_of] at hh
    simp only at htt
    have hf := itoa_ok t (by omega) (by omega) hP
    simp only [hl] at hg hlt
    simp only
    have z1 := S_size (hexT v.data.toList)
    have z2 := S_size (Lib.itoa t)
    have z3 : (S (hexT v.data.toList) ++ (⟨#[32]⟩ : ByteArray)).size = (hexT v.data.toList).length + 1 := by rw [ByteArray.size_append, z1]; rfl
    simp only [List.length_append, List.length_cons, List.length_nil] at hlt
    have ee : S (hexT v.data.toList) ++ (⟨#[32]⟩ : ByteArray) ++ S (Lib.itoa t) = S (hexT v.data.toList ++ [32] ++ Lib.itoa t) := by apply ByteArray.ext; simp [S, ByteArray.data_append]
    generalize hexT v.data.toList = hv at *
    generalize Lib.itoa t = it at *
    refine call_sem tt_ok Tryz.func41 rfl (by kernel_rfl) Tryz.ntmps41 Tryz.results41 ?_; conv => whnf
    repeat' (first | ((first | refine Sem.st tt_ok rfl ?_ | refine BS_t (by assumption) ?_ | refine BS_f (by assumption) ?_ | refine atG (by repeat (first | assumption | exact setG_same _ _ _ | refine atNe (by first | assumption | exact Ne.symm (by assumption)) ?_)) ?_ | refine nthKi (by assumption) ?_ | refine ⟨_, ⟨(by omega), (by assumption)⟩, ?_⟩ | refine And.intro (by first | decide | omega) ?_); conv => whnf) | refine Sem.seqS ?_ | refine Sem.block ?_)
    refine hg.on ?_; conv => whnf
    repeat' (first | ((first | refine Sem.st tt_ok rfl ?_ | refine BS_t (by assumption) ?_ | refine BS_f (by assumption) ?_ | refine atG (by repeat (first | assumption | exact setG_same _ _ _ | refine atNe (by first | assumption | exact Ne.symm (by assumption)) ?_)) ?_ | refine nthKi (by assumption) ?_ | refine ⟨_, ⟨(by omega), (by assumption)⟩, ?_⟩ | refine And.intro (by first | decide | omega) ?_); conv => whnf) | refine Sem.seqS ?_ | refine Sem.block ?_)
    refine hh.on ?_; conv => whnf
    repeat' (first | ((first | refine Sem.st tt_ok rfl ?_ | refine BS_t (by assumption) ?_ | refine BS_f (by assumption) ?_ | refine atG (by repeat (first | assumption | exact setG_same _ _ _ | refine atNe (by first | assumption | exact Ne.symm (by assumption)) ?_)) ?_ | refine nthKi (by assumption) ?_ | refine ⟨_, ⟨(by omega), (by assumption)⟩, ?_⟩ | refine And.intro (by first | decide | omega) ?_); conv => whnf) | refine Sem.seqS ?_ | refine Sem.block ?_)
    refine hf.on ?_; conv => whnf
    repeat' (first | ((first | refine Sem.st tt_ok rfl ?_ | refine BS_t (by assumption) ?_ | refine BS_f (by assumption) ?_ | refine atG (by repeat (first | assumption | exact setG_same _ _ _ | refine atNe (by first | assumption | exact Ne.symm (by assumption)) ?_)) ?_ | refine nthKi (by assumption) ?_ | refine ⟨_, ⟨(by omega), (by assumption)⟩, ?_⟩ | refine And.intro (by first | decide | omega) ?_); conv => whnf) | refine Sem.seqS ?_ | refine Sem.block ?_)
    exact ⟨_, fun _ _ h => h, congrArg AV.str ee, rfl⟩
  | none =>
    have hh := hex_ok [] (by simp) G
    have hf := itoa_ok 0 (by omega) (by omega) hP
    simp only [hl] at hg hlt
    simp only
    have z1 := S_size (hexT [])
    have z2 := S_size (Lib.itoa 0)
    have z3 : (S (hexT []) ++ (⟨#[32]⟩ : ByteArray)).size = (hexT []).length + 1 := by rw [ByteArray.size_append, z1]; rfl
    simp only [List.length_append, List.length_cons, List.length_nil] at hlt
    have ee : S (hexT []) ++ (⟨#[32]⟩ : ByteArray) ++ S (Lib.itoa 0) = S (hexT [] ++ [32] ++ Lib.itoa 0) := by apply ByteArray.ext; simp [S, ByteArray.data_append]
    rw [show S ([] : List UInt8) = (⟨#[]⟩ : ByteArray) from rfl] at hh
    generalize hexT [] = hv at *
    generalize Lib.itoa 0 = it at *
    refine call_sem tt_ok Tryz.func41 rfl (by kernel_rfl) Tryz.ntmps41 Tryz.results41 ?_; conv => whnf
    repeat' (first | ((first | refine Sem.st tt_ok rfl ?_ | refine BS_t (by assumption) ?_ | refine BS_f (by assumption) ?_ | refine atG (by repeat (first | assumption | exact setG_same _ _ _ | refine atNe (by first | assumption | exact Ne.symm (by assumption)) ?_)) ?_ | refine nthKi (by assumption) ?_ | refine ⟨_, ⟨(by omega), (by assumption)⟩, ?_⟩ | refine And.intro (by first | decide | omega) ?_); conv => whnf) | refine Sem.seqS ?_ | refine Sem.block ?_)
    refine hg.on ?_; conv => whnf
    repeat' (first | ((first | refine Sem.st tt_ok rfl ?_ | refine BS_t (by assumption) ?_ | refine BS_f (by assumption) ?_ | refine atG (by repeat (first | assumption | exact setG_same _ _ _ | refine atNe (by first | assumption | exact Ne.symm (by assumption)) ?_)) ?_ | refine nthKi (by assumption) ?_ | refine ⟨_, ⟨(by omega), (by assumption)⟩, ?_⟩ | refine And.intro (by first | decide | omega) ?_); conv => whnf) | refine Sem.seqS ?_ | refine Sem.block ?_)
    refine hh.on ?_; conv => whnf
    repeat' (first | ((first | refine Sem.st tt_ok rfl ?_ | refine BS_t (by assumption) ?_ | refine BS_f (by assumption) ?_ | refine atG (by repeat (first | assumption | exact setG_same _ _ _ | refine atNe (by first | assumption | exact Ne.symm (by assumption)) ?_)) ?_ | refine nthKi (by assumption) ?_ | refine ⟨_, ⟨(by omega), (by assumption)⟩, ?_⟩ | refine And.intro (by first | decide | omega) ?_); conv => whnf) | refine Sem.seqS ?_ | refine Sem.block ?_)
    refine hf.on ?_; conv => whnf
    repeat' (first | ((first | refine Sem.st tt_ok rfl ?_ | refine BS_t (by assumption) ?_ | refine BS_f (by assumption) ?_ | refine atG (by repeat (first | assumption | exact setG_same _ _ _ | refine atNe (by first | assumption | exact Ne.symm (by assumption)) ?_)) ?_ | refine nthKi (by assumption) ?_ | refine ⟨_, ⟨(by omega), (by assumption)⟩, ?_⟩ | refine And.intro (by first | decide | omega) ?_); conv => whnf) | refine Sem.seqS ?_ | refine Sem.block ?_)
    exact ⟨_, fun _ _ h => h, congrArg AV.str ee, rfl⟩
end
theorem keys_ns {α : Type} (l : List (ByteArray × α)) : (l.map fun x => [AV.str x.1]) = (l.map (·.1)).map fun n => [AV.str n] := by rw [List.map_map]; rfl
theorem key_small {s : PS} {q : PQ} (hp : PR s q) (hq : q.size ≤ 100000) : (s.k.length ≤ 1000000 ∧ ∀ x ∈ s.k, x.1.size ≤ maxLen) ∧ (s.c.length ≤ 1000000 ∧ ∀ x ∈ s.c, x.1.size ≤ maxLen) ∧ (s.f.length ≤ 1000000 ∧ ∀ x ∈ s.f, x.1.size ≤ maxLen) ∧ (s.l.length ≤ 1000000 ∧ ∀ x ∈ s.l, x.1.size ≤ maxLen) := by
  have hb := hp.bounds (by omega)
  have ml : (100000 : Nat) ≤ maxLen := by decide
  have e1 : sizeR s.k = (s.k.map fun x : ByteArray × ByteArray => 16 + x.1.size + x.2.size).sum := rfl
  have e2 : totC s.c = (s.c.map fun e : ByteArray × Int => 24 + e.1.size).sum := rfl
  have e3 : totF s.f = (s.f.map qT).sum := rfl
  have e4 : sizeL s.l = (s.l.map fun x : ByteArray × (ByteArray × Int) => 24 + x.1.size + x.2.1.size).sum := rfl
  refine ⟨⟨?_, fun x hx => ?_⟩, ⟨?_, fun x hx => ?_⟩, ⟨?_, fun x hx => ?_⟩, ⟨?_, fun x hx => ?_⟩⟩
  · have := sum_len (fun x : ByteArray × ByteArray => 16 + x.1.size + x.2.size) (fun x => by omega) s.k; omega
  · have := sum_mem (fun x : ByteArray × ByteArray => 16 + x.1.size + x.2.size) hx; (try simp only at this); omega
  · have := sum_len (fun e : ByteArray × Int => 24 + e.1.size) (fun x => by omega) s.c; omega
  · have := sum_mem (fun e : ByteArray × Int => 24 + e.1.size) hx; (try simp only at this); omega
  · have := sum_len qT (fun x => by unfold qT; omega) s.f; omega
  · have := sum_mem qT hx; unfold qT at this e3; (try simp only at this); omega
  · have := sum_len (fun x : ByteArray × (ByteArray × Int) => 24 + x.1.size + x.2.1.size) (fun x => by omega) s.l; omega
  · have := sum_mem (fun x : ByteArray × (ByteArray × Int) => 24 + x.1.size + x.2.1.size) hx; (try simp only at this); omega
set_option maxHeartbeats 2000000 in
theorem ptext_ok {G : Glob} {b : Nat} {q : PQ} (hX : PtX G b q) (hq : q.size ≤ 100000) (hP : PowOk G) : CallOk Tryz.prog TT 13 [.gptr b 0] G (fun v G' => v = .str (S (textQ q)) ∧ G' = G) := by
  obtain ⟨s, m, h, hp⟩ := hX
  have hb := hp.qb hq
  have hlen := text_lens hb
  obtain ⟨l1, l2, l3, l4, _⟩ := le_len hq
  obtain ⟨n1, n2, n3, n4⟩ := name_sizes hq
  obtain ⟨s1, s2, s3, s4⟩ := key_small hp hq
  refine call_sem tt_ok Tryz.func13 rfl (by kernel_rfl) Tryz.ntmps13 Tryz.results13 ?_; conv => whnf
  refine Sem.seq tt_ok ?_; conv => whnf
  refine Sem.lend 0 ?_
  conv => whnf
  intro x hx
  conv => whnf
  obtain ⟨sub, _⟩ := sub_new (X := .cells [.gptr b 0]) hx
  have hxx : setG G x (.cells [.gptr b 0]) x = some (.cells [.gptr b 0]) := setG_same _ _ _
  have hH := h.sub sub
  have hpH : PowOk (setG G x (.cells [.gptr b 0])) := PinK.pow (fun i k o hi => sub _ _ hi) hP
  generalize setG G x (.cells [.gptr b 0]) = H at *
  have k1 := Pknames_ok H b m.k _ kav s.k hH.stK s1.1 s1.2
  have k2 := Pcnames_ok H b m.c _ cav s.c hH.stC s2.1 s2.2
  have k3 := Pfnames_ok H b m.f _ fav s.f hH.f.1 s3.1 s3.2
  have k4 := Plnames_ok H b m.l _ lav s.l hH.stL s4.1 s4.2
  rw [hp.k.keys, keys_ns] at k1
  rw [hp.c.namesP] at k2
  rw [hp.f.names] at k3
  rw [hp.l.keys, keys_ns] at k4
  have t1 := lines_ok (q.kv.map (·.1)) wKv 29 x (kvT q) H (by simp; omega) (fun n hn => by obtain ⟨y, hy, rfl⟩ := List.mem_map.1 hn; have := n1 y hy; omega) (by omega) fun G1 hs n hn => tx1_ok (hH.sub hs) hp hq (hs _ _ hxx) n
  have t2 := lines_ok (namesN (q.cn.map (·.name))) wCn 33 x (cnT q) H (by omega) (fun n hn => by have := n2 n hn; omega) (by omega) fun G1 hs n hn => tx2_ok (hH.sub hs) hp (PinK.pow (fun i k o hi => hs _ _ hi) hpH) (hs _ _ hxx) n
  have t3 := lines_ok (namesN (q.qu.map (·.1))) wQu 37 x (quTx q) H (by omega) (fun n hn => by have := n3 n hn; omega) (by omega) fun G1 hs n hn => tx3_ok (hH.sub hs) hp hq (PinK.pow (fun i k o hi => hs _ _ hi) hpH) (hs _ _ hxx) n
  have t4 := lines_ok (q.le.map (·.1)) wLe 41 x (leT q) H (by simp; omega) (fun n hn => by obtain ⟨y, hy, rfl⟩ := List.mem_map.1 hn; have := n4 y hy; omega) (by omega) fun G1 hs n hn => tx4_ok (hH.sub hs) hp hb (PinK.pow (fun i k o hi => hs _ _ hi) hpH) (hs _ _ hxx) n
  unfold textQ
  clear n1 n2 n3 n4 s1 s2 s3 s4 l1 l2 l3 l4 hH
  generalize (q.kv.map (·.1)) = ns1 at *
  generalize namesN (q.cn.map (·.name)) = ns2 at *
  generalize namesN (q.qu.map (·.1)) = ns3 at *
  generalize (q.le.map (·.1)) = ns4 at *
  generalize linesT wKv (kvT q) ns1 = r1 at *
  generalize linesT wCn (cnT q) ns2 = r2 at *
  generalize linesT wQu (quTx q) ns3 = r3 at *
  generalize linesT wLe (leT q) ns4 = r4 at *
  have hmx : IntKind.i64.max = 9223372036854775807 := rfl
  have z1 := S_size r1
  have z2 := S_size r2
  have z3 := S_size r3
  have z4 := S_size r4
  have y1 : (S r1 ++ S r2).size = r1.length + r2.length := by rw [ByteArray.size_append, z1, z2]
  have y2 : (S r1 ++ S r2 ++ S r3).size = r1.length + r2.length + r3.length := by rw [ByteArray.size_append, y1, z3]
  have ee : S r1 ++ S r2 ++ S r3 ++ S r4 = S (r1 ++ r2 ++ r3 ++ r4) := by rw [S_append, S_append, S_append]
  repeat' (first | ((first | refine Sem.st tt_ok rfl ?_ | refine BS_t (by assumption) ?_ | refine BS_f (by assumption) ?_ | refine atG (by repeat (first | assumption | exact setG_same _ _ _ | refine atNe (by first | assumption | exact Ne.symm (by assumption)) ?_)) ?_ | refine nthKi (by assumption) ?_ | refine ⟨_, ⟨(by omega), (by assumption)⟩, ?_⟩ | refine And.intro (by first | decide | omega) ?_); conv => whnf) | refine Sem.seqS ?_ | refine Sem.block ?_)
  refine draw_sound (eff := []) tt_ok (by kernel_rfl) (by kernel_rfl) ?_; conv => whnf
  repeat' (first | ((first | refine BS_t (by assumption) ?_ | refine BS_f (by assumption) ?_ | refine atG (by repeat (first | assumption | exact setG_same _ _ _ | refine atNe (by first | assumption | exact Ne.symm (by assumption)) ?_)) ?_ | refine nthKi (by assumption) ?_ | refine ⟨_, ⟨(by omega), (by assumption)⟩, ?_⟩ | refine And.intro (by first | decide | omega) ?_); conv => whnf) | fail)
  refine ⟨_, _, k1, ?_⟩; (conv => whnf); refine And.intro rfl ?_; conv => whnf
  repeat' (first | ((first | refine BS_t (by assumption) ?_ | refine BS_f (by assumption) ?_ | refine atG (by repeat (first | assumption | exact setG_same _ _ _ | refine atNe (by first | assumption | exact Ne.symm (by assumption)) ?_)) ?_ | refine nthKi (by assumption) ?_ | refine ⟨_, ⟨(by omega), (by assumption)⟩, ?_⟩ | refine And.intro (by first | decide | omega) ?_); conv => whnf) | fail)
  refine ⟨_, _, t1, ?_⟩; (conv => whnf); refine And.intro rfl ?_; conv => whnf
  repeat' (first | ((first | refine BS_t (by assumption) ?_ | refine BS_f (by assumption) ?_ | refine atG (by repeat (first | assumption | exact setG_same _ _ _ | refine atNe (by first | assumption | exact Ne.symm (by assumption)) ?_)) ?_ | refine nthKi (by assumption) ?_ | refine ⟨_, ⟨(by omega), (by assumption)⟩, ?_⟩ | refine And.intro (by first | decide | omega) ?_); conv => whnf) | fail)
  refine ⟨_, _, k2, ?_⟩; (conv => whnf); refine And.intro rfl ?_; conv => whnf
  repeat' (first | ((first | refine BS_t (by assumption) ?_ | refine BS_f (by assumption) ?_ | refine atG (by repeat (first | assumption | exact setG_same _ _ _ | refine atNe (by first | assumption | exact Ne.symm (by assumption)) ?_)) ?_ | refine nthKi (by assumption) ?_ | refine ⟨_, ⟨(by omega), (by assumption)⟩, ?_⟩ | refine And.intro (by first | decide | omega) ?_); conv => whnf) | fail)
  refine ⟨_, _, t2, ?_⟩; (conv => whnf); refine And.intro rfl ?_; conv => whnf
  repeat' (first | ((first | refine BS_t (by assumption) ?_ | refine BS_f (by assumption) ?_ | refine atG (by repeat (first | assumption | exact setG_same _ _ _ | refine atNe (by first | assumption | exact Ne.symm (by assumption)) ?_)) ?_ | refine nthKi (by assumption) ?_ | refine ⟨_, ⟨(by omega), (by assumption)⟩, ?_⟩ | refine And.intro (by first | decide | omega) ?_); conv => whnf) | fail)
  refine ⟨_, _, k3, ?_⟩; (conv => whnf); refine And.intro rfl ?_; conv => whnf
  repeat' (first | ((first | refine BS_t (by assumption) ?_ | refine BS_f (by assumption) ?_ | refine atG (by repeat (first | assumption | exact setG_same _ _ _ | refine atNe (by first | assumption | exact Ne.symm (by assumption)) ?_)) ?_ | refine nthKi (by assumption) ?_ | refine ⟨_, ⟨(by omega), (by assumption)⟩, ?_⟩ | refine And.intro (by first | decide | omega) ?_); conv => whnf) | fail)
  refine ⟨_, _, t3, ?_⟩; (conv => whnf); refine And.intro rfl ?_; conv => whnf
  repeat' (first | ((first | refine BS_t (by assumption) ?_ | refine BS_f (by assumption) ?_ | refine atG (by repeat (first | assumption | exact setG_same _ _ _ | refine atNe (by first | assumption | exact Ne.symm (by assumption)) ?_)) ?_ | refine nthKi (by assumption) ?_ | refine ⟨_, ⟨(by omega), (by assumption)⟩, ?_⟩ | refine And.intro (by first | decide | omega) ?_); conv => whnf) | fail)
  refine ⟨_, _, k4, ?_⟩; (conv => whnf); refine And.intro rfl ?_; conv => whnf
  repeat' (first | ((first | refine BS_t (by assumption) ?_ | refine BS_f (by assumption) ?_ | refine atG (by repeat (first | assumption | exact setG_same _ _ _ | refine atNe (by first | assumption | exact Ne.symm (by assumption)) ?_)) ?_ | refine nthKi (by assumption) ?_ | refine ⟨_, ⟨(by omega), (by assumption)⟩, ?_⟩ | refine And.intro (by first | decide | omega) ?_); conv => whnf) | fail)
  refine ⟨_, _, t4, ?_⟩; (conv => whnf); refine And.intro rfl ?_; conv => whnf
  repeat' (first | ((first | refine BS_t (by assumption) ?_ | refine BS_f (by assumption) ?_ | refine atG (by repeat (first | assumption | exact setG_same _ _ _ | refine atNe (by first | assumption | exact Ne.symm (by assumption)) ?_)) ?_ | refine nthKi (by assumption) ?_ | refine ⟨_, ⟨(by omega), (by assumption)⟩, ?_⟩ | refine And.intro (by first | decide | omega) ?_); conv => whnf) | fail)
  repeat' (first | ((first | refine Sem.st tt_ok rfl ?_ | refine BS_t (by assumption) ?_ | refine BS_f (by assumption) ?_ | refine atG (by repeat (first | assumption | exact setG_same _ _ _ | refine atNe (by first | assumption | exact Ne.symm (by assumption)) ?_)) ?_ | refine nthKi (by assumption) ?_ | refine ⟨_, ⟨(by omega), (by assumption)⟩, ?_⟩ | refine And.intro (by first | decide | omega) ?_); conv => whnf) | refine Sem.seqS ?_ | refine Sem.block ?_)
  refine ⟨G, sub, congrArg AV.str ee, rfl⟩
end Go.Proofs.YtpihanlillbhkaaGreatDoor
