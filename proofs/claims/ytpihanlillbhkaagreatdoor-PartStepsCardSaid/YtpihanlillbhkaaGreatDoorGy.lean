/- One text out of several: ValP, ValA, Blde, ValB, PtH, PtU. -/
import Derived.Test.YtpihanlillbhkaaGreatDoorBase
import Derived.Lib.ItoaNum
import Derived.Test.YtpihanlillbhkaaGreatDoorGd
import Derived.Test.YtpihanlillbhkaaGreatDoorLaw
import Derived.Test.YtpihanlillbhkaaGreatDoorGe

section
/- Values in plain words: trees, their texts. -/
namespace Go.Proofs.YtpihanlillbhkaaGreatDoor
open Go Go.RowKit

inductive VT where
  | mk (kind num : Int) (text : List UInt8) (tags : List Int) (items : List VT)
def VT.kind : VT → Int
  | .mk k _ _ _ _ => k
def VT.num : VT → Int
  | .mk _ n _ _ _ => n
def VT.text : VT → List UInt8
  | .mk _ _ s _ _ => s
def VT.tags : VT → List Int
  | .mk _ _ _ t _ => t
def VT.items : VT → List VT
  | .mk _ _ _ _ l => l
def fig (n : Nat) : UInt8 := if n < 10 then UInt8.ofNat (48 + n) else UInt8.ofNat (97 + n - 10)
def qc (c : UInt8) : List UInt8 := if c.toNat < 32 ∨ c.toNat = 34 ∨ c.toNat = 92 ∨ 126 < c.toNat then [92, fig (c.toNat / 16), fig (c.toNat % 16)] else [c]
def quoteT (s : List UInt8) : List UInt8 := 34 :: (s.flatMap qc ++ [34])
def sepV (i how : Nat) : List UInt8 := if i = 0 then [] else if how < 2 ∨ i % 2 = 0 then [44] else [58]
def tagV (i how : Nat) (tags : List Int) : List UInt8 := if how = 1 then Lib.itoa (tags.getD i 0) ++ [61] else []
def u64N (n : Int) : Nat := (n % 18446744073709551616).toNat
mutual
def textT : VT → List UInt8
  | .mk k n s tags l =>
    if k = 1 then (if n = 0 then [102, 97, 108, 115, 101] else [116, 114, 117, 101])
    else if k = 2 ∨ k = 6 then Lib.itoa n
    else if k = 3 then Lib.decDigits (u64N n)
    else if k = 4 ∨ k = 5 then quoteT s
    else if k = 7 then [91] ++ itemsT l 0 0 tags ++ [93]
    else if k = 8 then [123] ++ itemsT l 0 2 tags ++ [125]
    else if k = 9 then [40] ++ itemsT l 0 1 tags ++ [41]
    else if k = 10 then [60] ++ itemsT l 0 1 tags ++ [62]
    else [63]
def itemsT : List VT → Nat → Nat → List Int → List UInt8
  | [], _, _, _ => []
  | x :: r, i, how, tags => sepV i how ++ tagV i how tags ++ textT x ++ itemsT r (i + 1) how tags
end
end Go.Proofs.YtpihanlillbhkaaGreatDoor
end

section
/- The document's digits and quotes, in the abstract run. -/
set_option maxRecDepth 100000
set_option linter.unusedSimpArgs false
namespace Go.Proofs.YtpihanlillbhkaaGreatDoor
open Go Go.RowKit Go.Proofs

theorem vdec_le : ∀ (k n : Nat), n < 10 ^ (k + 1) → (Lib.decDigits n).length ≤ k + 1 := by
  intro k
  induction k with
  | zero => intro n h; rw [Lib.decDigits, dif_pos (by omega)]; simp
  | succ k ih =>
    intro n h
    by_cases h0 : n < 10
    · rw [Lib.decDigits, dif_pos h0]; simp
    · rw [Lib.decDigits, dif_neg h0, List.length_append]
      have h' : n < 10 ^ (k + 1) * 10 := by rwa [← Nat.pow_succ]
      have := ih (n / 10) (by omega)
      simp only [List.length_singleton]; omega
theorem vbyte_ok (n : Int) (G : Glob) (h0 : 0 ≤ n) (h1 : n ≤ 255) : CallOk Tryz.prog TT 103 [.int .i64 n] G (fun v G' => v = .str (S [UInt8.ofNat n.toNat]) ∧ G' = G) := by
  refine CallOk.of_gives ⟨_, Tryz.func103, by decide, rfl⟩ fun g us w hl hd => ?_
  obtain ⟨us⟩ := us
  match us, hl with
  | [u0], _ =>
    cases hd 0 _ u0 rfl rfl
    exact ⟨_, .str _, byte_any n w h0 h1⟩
theorem digits_ok : ∀ (k n : Nat) (G : Glob), n < k → n ≤ 18446744073709551615 → CallOk Tryz.prog TT 78 [.int .u64 (n : Nat)] G (fun v G' => v = .str (S (Lib.decDigits n)) ∧ G' = G)
  | 0, n, G, h, _ => by omega
  | k + 1, n, G, h, hn => by
    by_cases h10 : n < 10
    · have t1 : decide (((n : Nat) : Int) < 10) = true := by rw [decide_eq_true_eq]; omega
      have hb := vbyte_ok (48 + n) G (by omega) (by omega)
      have e : S [UInt8.ofNat ((48 : Int) + n).toNat] = S (Lib.decDigits n) := by
        rw [Lib.decDigits, dif_pos h10, show ((48 : Int) + (n : Nat)).toNat = 48 + n by omega]
      rw [e] at hb
      have w1 : IntKind.i64.wrap ((n : Nat) : Int) = ((n : Nat) : Int) := by rw [IntWalk.i64_in _ (by omega)]
      have w2 : IntKind.i64.wrap (48 + ((n : Nat) : Int)) = 48 + ((n : Nat) : Int) := by rw [IntWalk.i64_in _ (by omega)]
      refine call_sem tt_ok Tryz.func78 rfl (by kernel_rfl) Tryz.ntmps78 Tryz.results78 ?_; conv => whnf
      repeat' (first | ((first | refine Sem.st tt_ok rfl ?_ | refine BS_t (by assumption) ?_ | refine BS_f (by assumption) ?_ | refine nthKi (by assumption) ?_ | refine ⟨_, ⟨(by omega), (by assumption)⟩, ?_⟩ | refine And.intro (by first | decide | omega) ?_); conv => whnf) | refine Sem.seqS ?_ | refine Sem.block ?_)
      rw [w1, w2]
      refine hb.on ?_; conv => whnf
      repeat' (first | ((first | refine Sem.st tt_ok rfl ?_ | refine BS_t (by assumption) ?_ | refine BS_f (by assumption) ?_ | refine nthKi (by assumption) ?_ | refine ⟨_, ⟨(by omega), (by assumption)⟩, ?_⟩ | refine And.intro (by first | decide | omega) ?_); conv => whnf) | refine Sem.seqS ?_ | refine Sem.block ?_)
      exact ⟨_, fun _ _ h => h, rfl, rfl⟩
    · have t1 : decide (((n : Nat) : Int) < 10) = false := by rw [decide_eq_false_iff_not]; omega
      have ih := digits_ok k (n / 10) G (by omega) (by omega)
      have hb := vbyte_ok (48 + ((n % 10 : Nat) : Int)) G (by omega) (by omega)
      have w3 : IntKind.u64.wrap (((n : Nat) : Int).tdiv 10) = ((n / 10 : Nat) : Int) := by rw [show ((n : Nat) : Int).tdiv 10 = ((n / 10 : Nat) : Int) from by rw [Int.tdiv_eq_ediv_of_nonneg (by omega)]; omega, IntWalk.u64_in _ (by omega)]
      have w4 : ((n : Nat) : Int).tmod 10 = ((n % 10 : Nat) : Int) := by rw [Int.tmod_eq_emod_of_nonneg (by omega)]; omega
      have w5 : IntKind.i64.wrap ((n % 10 : Nat) : Int) = ((n % 10 : Nat) : Int) := by rw [IntWalk.i64_in _ (by omega)]
      have w6 : IntKind.i64.wrap (48 + ((n % 10 : Nat) : Int)) = 48 + ((n % 10 : Nat) : Int) := by rw [IntWalk.i64_in _ (by omega)]
      have e : S (Lib.decDigits (n / 10)) ++ S [UInt8.ofNat (48 + ((n % 10 : Nat) : Int)).toNat] = S (Lib.decDigits n) := by
        rw [S_append, show (48 + ((n % 10 : Nat) : Int)).toNat = 48 + n % 10 by omega]
        congr 1
        rw [Lib.decDigits.eq_def n, dif_neg h10]
      have hl1 := vdec_le 19 (n / 10) (by omega)
      have hmx : IntKind.i64.max = 9223372036854775807 := rfl
      have z1 := S_size (Lib.decDigits (n / 10))
      have z2 := S_size [UInt8.ofNat (48 + ((n % 10 : Nat) : Int)).toNat]
      simp only [List.length_singleton] at z2
      refine call_sem tt_ok Tryz.func78 rfl (by kernel_rfl) Tryz.ntmps78 Tryz.results78 ?_; conv => whnf
      repeat' (first | ((first | refine Sem.st tt_ok rfl ?_ | refine BS_t (by assumption) ?_ | refine BS_f (by assumption) ?_ | refine nthKi (by assumption) ?_ | refine ⟨_, ⟨(by omega), (by assumption)⟩, ?_⟩ | refine And.intro (by first | decide | omega) ?_); conv => whnf) | refine Sem.seqS ?_ | refine Sem.block ?_)
      rw [w3]
      refine ih.on ?_; conv => whnf
      repeat' (first | ((first | refine Sem.st tt_ok rfl ?_ | refine BS_t (by assumption) ?_ | refine BS_f (by assumption) ?_ | refine nthKi (by assumption) ?_ | refine ⟨_, ⟨(by omega), (by assumption)⟩, ?_⟩ | refine And.intro (by first | decide | omega) ?_); conv => whnf) | refine Sem.seqS ?_ | refine Sem.block ?_)
      rw [w4, w5, w6]
      refine hb.on ?_; conv => whnf
      repeat' (first | ((first | refine Sem.st tt_ok rfl ?_ | refine BS_t (by assumption) ?_ | refine BS_f (by assumption) ?_ | refine nthKi (by assumption) ?_ | refine ⟨_, ⟨(by omega), (by assumption)⟩, ?_⟩ | refine And.intro (by first | decide | omega) ?_); conv => whnf) | refine Sem.seqS ?_ | refine Sem.block ?_)
      exact ⟨_, fun _ _ h => h, congrArg AV.str e, rfl⟩
theorem signed_ok (n : Int) (G : Glob) (h0 : -9223372036854775808 ≤ n) (h1 : n ≤ 9223372036854775807) : CallOk Tryz.prog TT 45 [.int .i64 n] G (fun v G' => v = .str (S (Lib.itoa n)) ∧ G' = G) := by
  by_cases hn : n ≥ 0
  · have t1 : decide (n ≥ 0) = true := decide_eq_true hn
    have hd := digits_ok (n.toNat + 1) n.toNat G (by omega) (by omega)
    have e1 : Lib.itoa n = Lib.decDigits n.toNat := by unfold Lib.itoa; rw [if_neg (by omega)]
    have w1 : IntKind.u64.wrap n = ((n.toNat : Nat) : Int) := by rw [IntWalk.u64_in _ (by omega)]; omega
    rw [e1]
    refine call_sem tt_ok Tryz.func45 rfl (by kernel_rfl) Tryz.ntmps45 Tryz.results45 ?_; conv => whnf
    repeat' (first | ((first | refine Sem.st tt_ok rfl ?_ | refine BS_t (by assumption) ?_ | refine BS_f (by assumption) ?_ | refine nthKi (by assumption) ?_ | refine ⟨_, ⟨(by omega), (by assumption)⟩, ?_⟩ | refine And.intro (by first | decide | omega) ?_); conv => whnf) | refine Sem.seqS ?_ | refine Sem.block ?_)
    rw [w1]
    refine hd.on ?_; conv => whnf
    repeat' (first | ((first | refine Sem.st tt_ok rfl ?_ | refine BS_t (by assumption) ?_ | refine BS_f (by assumption) ?_ | refine nthKi (by assumption) ?_ | refine ⟨_, ⟨(by omega), (by assumption)⟩, ?_⟩ | refine And.intro (by first | decide | omega) ?_); conv => whnf) | refine Sem.seqS ?_ | refine Sem.block ?_)
    exact ⟨_, fun _ _ h => h, rfl, rfl⟩
  · have t1 : decide (n ≥ 0) = false := decide_eq_false hn
    have hd := digits_ok (n.natAbs + 1) n.natAbs G (by omega) (by omega)
    have e1 : Lib.itoa n = 45 :: Lib.decDigits n.natAbs := by unfold Lib.itoa; rw [if_pos (by omega)]
    have w1 : IntKind.i64.wrap (n + 1) = n + 1 := IntWalk.i64_in _ (by omega)
    have w2 : IntKind.i64.wrap (0 - (n + 1)) = -(n + 1) := by rw [IntWalk.i64_in _ (by omega)]; omega
    have w3 : IntKind.u64.wrap (-(n + 1)) = -(n + 1) := IntWalk.u64_in _ (by omega)
    have w4 : IntKind.u64.wrap (-(n + 1) + 1) = ((n.natAbs : Nat) : Int) := by rw [IntWalk.u64_in _ (by omega)]; omega
    have hl1 := vdec_le 19 n.natAbs (by omega)
    have z1 := S_size (Lib.decDigits n.natAbs)
    have e2 : (⟨#[45]⟩ : ByteArray) ++ S (Lib.decDigits n.natAbs) = S (Lib.itoa n) := by rw [show (⟨#[45]⟩ : ByteArray) = S [45] from rfl, S_append, e1]; rfl
    have z2 : (⟨#[45]⟩ : ByteArray).size = 1 := rfl
    have hmx : IntKind.i64.max = 9223372036854775807 := rfl
    refine call_sem tt_ok Tryz.func45 rfl (by kernel_rfl) Tryz.ntmps45 Tryz.results45 ?_; conv => whnf
    repeat' (first | ((first | refine Sem.st tt_ok rfl ?_ | refine BS_t (by assumption) ?_ | refine BS_f (by assumption) ?_ | refine nthKi (by assumption) ?_ | refine ⟨_, ⟨(by omega), (by assumption)⟩, ?_⟩ | refine And.intro (by first | decide | omega) ?_); conv => whnf) | refine Sem.seqS ?_ | refine Sem.block ?_)
    rw [w1, w2, w3, w4]
    refine hd.on ?_; conv => whnf
    repeat' (first | ((first | refine Sem.st tt_ok rfl ?_ | refine BS_t (by assumption) ?_ | refine BS_f (by assumption) ?_ | refine nthKi (by assumption) ?_ | refine ⟨_, ⟨(by omega), (by assumption)⟩, ?_⟩ | refine And.intro (by first | decide | omega) ?_); conv => whnf) | refine Sem.seqS ?_ | refine Sem.block ?_)
    exact ⟨_, fun _ _ h => h, congrArg AV.str e2, rfl⟩
theorem vbyteAt {s : List UInt8} {i : Nat} {c : UInt8} (h : s[i]? = some c) : byteAt (S s) ((i : Nat) : Int).toNat = ((c.toNat : Nat) : Int) := by
  unfold byteAt
  rw [Int.toNat_natCast, S_list, List.getD_eq_getElem?_getD, h]; rfl
end Go.Proofs.YtpihanlillbhkaaGreatDoor
end

section
/- strings.Builder: WriteByte, in the model and in the abstract run. -/
set_option maxRecDepth 100000
namespace Go.Proofs.YtpihanlillbhkaaGreatDoor
open Go Go.RowKit Go.Proofs

theorem Bld.alloc {w : World} {k : Nat} {p v : Value} {l : List Value} (h : Bld w k p v l) (o : Obj) : Bld (w.alloc o) k p v l :=
  ⟨by rw [((Up.refl w).alloc o).block (blk_lt h.blk)]; exact h.blk, h.adr, own_up h.own ((Up.refl w).alloc o), h.ne, h.nil⟩
theorem Two.alloc {w w1 : World} {k : Nat} {v : Value} (h : Two w w1 k v) (o : Obj) : Two w (w1.alloc o) k v :=
  have hu := (Up.refl w1).alloc o
  ⟨hu.os.trans h.os, hu.tape.trans h.tape, hu.output.trans h.output, Nat.le_trans h.size hu.size, fun j h1 h2 h3 => (hu.block (Nat.lt_of_lt_of_le h1 h.size)).trans (h.block j h1 h2 h3)⟩
theorem wpList_bldbyte {ops : Array Oper} {rest : List Oper} {o : Oper} {a : Act} {Q : Exit → Act → World → Prop} {w w1 : World} {k : Nat} {p v : Value} {l : List Value} (hgd : o.guard = none) (sl x : Operand)
    (ho : o.op = .call { callee := .builtin .append, args := #[sl, x], argTypes := #[125, 125] }) (h : Bld w k p v l) (h1 : Bld w1 k (.pointer (some ⟨k, 0, none⟩)) v l) (q1 : Two w w1 k v) (hs : a.eval sl = v) (N : Nat) (c : Value) (hx : a.eval x = .slice (some ⟨N, 0, none⟩) 1 1) {T : TypeId} (hb : w1.heap[N]? = some (.cells #[c] T (0, 0))) (hc : c.oneCell' = true) (hlen : l.length + 1 ≤ 140737488355328)
    (hK : ∀ ao n c' w2, Wrote w (w2.setCell ⟨k, 1, none⟩ (.slice ao n c')) k v (.slice ao n c') (l ++ [c]) → w2.cell? ⟨k, 0, none⟩ = some (.pointer (some ⟨k, 0, none⟩)) → w2.cell? ⟨k, 1, none⟩ = some v → w2.frozen? ⟨k, 1, none⟩ = false → wpList Tryz.prog ops Q rest (a.put o.dst (.slice ao n c')) w2) : wpList Tryz.prog ops Q (o :: rest) a w1 := by
  obtain ⟨ht, hi, hzs, hsz⟩ := rowU8
  obtain ⟨i0, hi0, hz0, hz1, hz2⟩ := info_parts hi
  refine wpList_plain hgd fun K hKK => ?_
  obtain ⟨v', w2, hr, hown', hg, _, hat⟩ := run_append_own_at (P := Tryz.prog) w1 0 125 o.type 5 i0 (.int .u8 0) 1 1 ht hi0 hz0 hz1 hz2 hzs hsz v l.length l h1.own ⟨N, 0, none⟩ 1 1 [c] (by simp) (fun j u hj => by
    have hadd : (⟨N, 0, none⟩ : Addr).add j = ⟨N, j, none⟩ := by unfold Addr.add; split <;> simp_all
    rw [hadd, blk_cell hb]; simpa using hj) (by simpa using hc) (by unfold maxLen; omega) (by omega) (Nat.zero_le _)
  have f := bld_put (m := [c]) h h1 q1 hg hat hown' (fun hh => by simp at hh)
  have hb2 : w2.heap[k]? = some (.cells #[.pointer (some ⟨k, 0, none⟩), v] 127 (0, 0)) := by rw [hg.block k (blk_lt h1.blk) (fun e => h1.ne e.symm)]; exact h1.blk
  obtain ⟨ao, n', cap, rfl⟩ : ∃ ao n' cap, v' = .slice ao n' cap := by
    rcases hown'.2 with ⟨hv, _⟩ | ⟨g, cap, cur, hv, _⟩
    · exact ⟨_, _, _, hv⟩
    · exact ⟨_, _, _, hv⟩
  unfold Oper.wp execOp
  simp only [ho, resolve, invoke, builtin, Sem.run_bind, Sem.run_pure, Result.andThen_ok, List.map_toArray, List.map_cons, List.map_nil, hs, hx, hr]
  exact hKK _ _ (hK ao n' cap w2 f (by rw [Lib.cell_of_heap hb2]; rfl) (by rw [Lib.cell_of_heap hb2]; rfl) (Lib.frozen_of_heap hb2 1))
set_option maxHeartbeats 2000000 in
theorem wbyte_any (k : Nat) (p v : Value) (l : List Value) (c : Int) (w : World) (h : Bld w k p v l) (hlen : l.length + 1 ≤ 140737488355328) :
    Calls Tryz.prog 71 #[.pointer (some ⟨k, 0, none⟩), .int .u8 c] w (fun e w' => e = .returned .nilIface ∧ ∃ v', Wrote w w' k v v' (l ++ [.int .u8 c])) := by
  have hck := checks_any k p v l w h
  have hH := Lib.hid h
  have hL := Lib.hid hlen
  clear h hlen
  go_enter Tryz.func71, Tryz.ntmps71
  go_wp2_with (first | (go_at_call 94; refine (hck).mono ?_; rintro e w1 ⟨rfl, h1, c0, c1⟩) | (at_builtin; refine wpList_bldbyte rfl _ _ rfl hH.out (h1.1.alloc _) (h1.2.alloc _) rfl _ _ rfl (blk_new _ _) rfl hL.out ?_; intro ao n c w2 hW d0 d1 f1))
  go_ret
  exact ⟨rfl, _, hW⟩
theorem strCells_one (c : UInt8) : Lib.strCells (S [c]) = [.int .u8 ((c.toNat : Nat) : Int)] := rfl
theorem wbyte_ok (s : List UInt8) (c : UInt8) (b : Nat) (G : Glob) (hG : G b = some (.bld (S s))) (hl : s.length + 1 ≤ 140737488355328) :
    CallOk Tryz.prog TT 71 [.gptr b 0, .int .u8 ((c.toNat : Nat) : Int)] G (fun v G' => v = .nili ∧ G' = setG G b (.bld (S (s ++ [c])))) := by
  refine bld_step (S (s ++ [c])) ⟨_, Tryz.func71, by decide, rfl⟩ hG fun g k us p v w hlen hd hB => ?_
  match us, hlen with
  | [u], _ =>
    cases hd 0 _ u rfl rfl
    refine ⟨.nilIface, fun g' w' => .nili, ?_⟩
    rw [← S_append, strCells_app, strCells_one]
    exact wbyte_any k p v (Lib.strCells (S s)) _ w hB (by rw [Lib.strCells_length, S_size]; exact hl)
end Go.Proofs.YtpihanlillbhkaaGreatDoor
end

section
/- value.quoted in the abstract run. -/
set_option maxRecDepth 100000
set_option linter.unusedSimpArgs false
namespace Go.Proofs.YtpihanlillbhkaaGreatDoor
open Go Go.RowKit Go.Proofs

def figsS : List UInt8 := [48, 49, 50, 51, 52, 53, 54, 55, 56, 57, 97, 98, 99, 100, 101, 102]
theorem fig_at : ∀ n, n < 16 → figsS[n]? = some (fig n) := by decide
theorem and15 (n : Nat) (h : n < 2 ^ 8) : IntKind.u8.wrap (((BitVec.ofInt IntKind.u8.bits ((n : Nat) : Int) &&& BitVec.ofInt IntKind.u8.bits 15).toNat : Nat) : Int) = ((n % 16 : Nat) : Int) := by
  have e1 : (BitVec.ofInt IntKind.u8.bits ((n : Nat) : Int)).toNat = n := by
    rw [BitVec.toNat_ofInt]
    show (((n : Nat) : Int) % ((2 ^ 8 : Nat) : Int)).toNat = n
    omega
  have e2 : (BitVec.ofInt IntKind.u8.bits 15).toNat = 2 ^ 4 - 1 := rfl
  rw [BitVec.toNat_and, e1, e2, Nat.and_two_pow_sub_one_eq_mod, IntWalk.u8_in _ (by omega)]
end Go.Proofs.YtpihanlillbhkaaGreatDoor
end

section
/- part.hex, part.lines, and the document's Hex. -/
set_option maxRecDepth 100000
set_option linter.unusedSimpArgs false
namespace Go.Proofs.YtpihanlillbhkaaGreatDoor
open Go Go.RowKit Go.Proofs

def hx (c : UInt8) : List UInt8 := [fig (c.toNat / 16), fig (c.toNat % 16)]
def hexT (s : List UInt8) : List UInt8 := match s with | [] => [45] | c :: r => (c :: r).flatMap hx
theorem hexT_len (s : List UInt8) : (hexT s).length ≤ 2 * s.length + 1 := by
  cases s with
  | nil => simp [hexT]
  | cons c r =>
    have : ∀ l : List UInt8, (l.flatMap hx).length = 2 * l.length := fun l => by
      induction l with
      | nil => rfl
      | cons a l ih => rw [List.flatMap_cons, List.length_append, ih]; simp only [hx, List.length_cons, List.length_nil]; omega
    show ((c :: r).flatMap hx).length ≤ _
    rw [this]; omega
theorem hx_take (s : List UInt8) (k : Nat) (c : UInt8) (h : s[k]? = some c) : (s.take (k + 1)).flatMap hx = (s.take k).flatMap hx ++ hx c := by
  rw [List.take_add_one, h]; simp
theorem hx_le (s : List UInt8) (k : Nat) : ((s.take k).flatMap hx).length ≤ 2 * s.length := by
  have : ∀ l : List UInt8, (l.flatMap hx).length = 2 * l.length := fun l => by
    induction l with
    | nil => rfl
    | cons a l ih => rw [List.flatMap_cons, List.length_append, ih]; simp only [hx, List.length_cons, List.length_nil]; omega
  rw [this, List.length_take]; omega
theorem hex0_ok (G : Glob) (z : ByteArray) (e0 : (z.toList == (⟨#[]⟩ : ByteArray).toList) = true) : CallOk Tryz.prog TT 31 [.str z] G (fun v G' => v = .str (S [45]) ∧ G' = G) := by
  refine call_sem tt_ok Tryz.func31 rfl (by kernel_rfl) Tryz.ntmps31 Tryz.results31 ?_; conv => whnf
  repeat' (first | ((first | refine Sem.st tt_ok rfl ?_ | refine BS_t (by assumption) ?_ | refine BS_f (by assumption) ?_ | refine nthKi (by assumption) ?_ | refine ⟨_, ⟨(by omega), (by assumption)⟩, ?_⟩ | refine And.intro (by first | decide | omega) ?_); conv => whnf) | refine Sem.seqS ?_ | refine Sem.block ?_)
  exact ⟨_, fun _ _ h => h, rfl, rfl⟩
set_option maxHeartbeats 1000000 in
theorem hex1_ok (s : List UInt8) (hs : s.length ≤ 1000000000000) (G : Glob) (z : ByteArray) (e0 : (z.toList == (⟨#[]⟩ : ByteArray).toList) = false) (hsz : z.size = s.length) (hby : ∀ (k : Nat) (c : UInt8), s[k]? = some c → byteAt z ((k : Nat) : Int).toNat = ((c.toNat : Nat) : Int)) : CallOk Tryz.prog TT 31 [.str z] G (fun v G' => v = .str (S (s.flatMap hx)) ∧ G' = G) := by
  refine call_sem tt_ok Tryz.func31 rfl (by kernel_rfl) Tryz.ntmps31 Tryz.results31 ?_; conv => whnf
  repeat' (first | ((first | refine Sem.st tt_ok rfl ?_ | refine BS_t (by assumption) ?_ | refine BS_f (by assumption) ?_ | refine nthKi (by assumption) ?_ | refine ⟨_, ⟨(by omega), (by assumption)⟩, ?_⟩ | refine And.intro (by first | decide | omega) ?_); conv => whnf) | refine Sem.seqS ?_ | refine Sem.block ?_)
  intro pb hpb
  conv => whnf
  clear e0
  have hgG : ∀ x : List UInt8, setG G pb (.bld (S x)) pb = some (.bld (S x)) := fun x => setG_same _ _ _
  have hw : ∀ (x : List UInt8) (c : UInt8), x.length + 1 ≤ 140737488355328 → CallOk Tryz.prog TT 71 [.gptr pb 0, .int .u8 ((c.toNat : Nat) : Int)] (setG G pb (.bld (S x))) (fun v G' => v = .nili ∧ G' = setG G pb (.bld (S (x ++ [c])))) := fun x c h => by
    have := wbyte_ok x c pb _ (hgG x) h
    rw [setG_twice] at this
    exact this
  repeat' (first | ((first | refine Sem.st tt_ok rfl ?_ | refine BS_t (by assumption) ?_ | refine BS_f (by assumption) ?_ | refine nthKi (by assumption) ?_ | refine ⟨_, ⟨(by omega), (by assumption)⟩, ?_⟩ | refine And.intro (by first | decide | omega) ?_); conv => whnf) | refine Sem.seqS ?_ | refine Sem.block ?_)
  refine Sem.loop (ι := {k : Nat // k ≤ s.length}) (fun x => ⟨(.str z :: .top :: .top :: .gptr pb 0 :: .top :: .top :: .top :: .top :: .int .i64 (z.size : Nat) :: .int .i64 (x.1 : Nat) :: .top :: .top :: .top :: .top :: .top :: .top :: .top :: .top :: .top :: .top :: .top :: .top :: .top :: .top :: .top :: .top :: []), [], 0, 0, setG G pb (.bld (S ((s.take x.1).flatMap hx)))⟩) (fun x => s.length - x.1) ⟨0, Nat.zero_le _⟩ ?_ (fun x => ?_)
  · refine weak_by [] ?_; (conv => whnf); repeat (refine And.intro rfl ?_; conv => whnf)
    exact ⟨fun i y hy => hy, rfl, by decide, rfl, rfl⟩
  obtain ⟨k, hk⟩ := x
  simp only
  have hle := hx_le s k
  by_cases hlt : k < s.length
  · obtain ⟨c, hc⟩ : ∃ c, s[k]? = some c := ⟨_, List.getElem?_eq_getElem hlt⟩
    have tl : decide (((k : Nat) : Int) < (z.size : Nat)) = true := by rw [hsz, decide_eq_true_eq]; omega
    have hft := hx_take s k c hc
    have hi : IntKind.i64.wrap ((k : Int) + 1) = ((k + 1 : Nat) : Int) := by rw [IntWalk.i64_in _ (by omega)]; omega
    have hcb := c.toNat_lt
    have hba := hby k c hc
    have h2 := hw ((s.take k).flatMap hx) (fig (c.toNat / 16)) (by omega)
    have h3 := hw ((s.take k).flatMap hx ++ [fig (c.toNat / 16)]) (fig (c.toNat % 16)) (by simp only [List.length_cons, List.length_append, List.length_nil]; omega)
    have ee : (s.take k).flatMap hx ++ [fig (c.toNat / 16)] ++ [fig (c.toNat % 16)] = (s.take (k + 1)).flatMap hx := by
      rw [hft]; simp [hx]
    have wd : ((c.toNat : Nat) : Int).fdiv (2 ^ min (Int.toNat 4) IntKind.u8.bits) = ((c.toNat / 16 : Nat) : Int) := by
      rw [show (2 ^ min (Int.toNat 4) IntKind.u8.bits : Int) = 16 from rfl, Int.fdiv_eq_ediv_of_nonneg _ (by omega)]; omega
    have hsz16 : (⟨#[48, 49, 50, 51, 52, 53, 54, 55, 56, 57, 97, 98, 99, 100, 101, 102]⟩ : ByteArray).size = 16 := rfl
    have hb1 : byteAt ⟨#[48, 49, 50, 51, 52, 53, 54, 55, 56, 57, 97, 98, 99, 100, 101, 102]⟩ (((c.toNat / 16 : Nat) : Int)).toNat = (((fig (c.toNat / 16)).toNat : Nat) : Int) := vbyteAt (s := figsS) (fig_at _ (by omega))
    have hb2 : byteAt ⟨#[48, 49, 50, 51, 52, 53, 54, 55, 56, 57, 97, 98, 99, 100, 101, 102]⟩ (((c.toNat % 16 : Nat) : Int)).toNat = (((fig (c.toNat % 16)).toNat : Nat) : Int) := vbyteAt (s := figsS) (fig_at _ (by omega))
    have wa := and15 c.toNat hcb
    repeat' (first | ((first | refine Sem.st tt_ok rfl ?_ | refine BS_t (by assumption) ?_ | refine BS_f (by assumption) ?_ | refine nthKi (by assumption) ?_ | refine ⟨_, ⟨(by omega), (by assumption)⟩, ?_⟩ | refine And.intro (by first | decide | omega) ?_); conv => whnf) | refine Sem.seqS ?_ | refine Sem.block ?_)
    rw [hba, wd]
    repeat' (first | ((first | refine Sem.st tt_ok rfl ?_ | refine BS_t (by assumption) ?_ | refine BS_f (by assumption) ?_ | refine nthKi (by assumption) ?_ | refine ⟨_, ⟨(by omega), (by assumption)⟩, ?_⟩ | refine And.intro (by first | decide | omega) ?_); conv => whnf) | refine Sem.seqS ?_ | refine Sem.block ?_)
    rw [hb1]
    refine h2.on ?_; conv => whnf
    repeat' (first | ((first | refine Sem.st tt_ok rfl ?_ | refine BS_t (by assumption) ?_ | refine BS_f (by assumption) ?_ | refine nthKi (by assumption) ?_ | refine ⟨_, ⟨(by omega), (by assumption)⟩, ?_⟩ | refine And.intro (by first | decide | omega) ?_); conv => whnf) | refine Sem.seqS ?_ | refine Sem.block ?_)
    rw [hba, wa]
    repeat' (first | ((first | refine Sem.st tt_ok rfl ?_ | refine BS_t (by assumption) ?_ | refine BS_f (by assumption) ?_ | refine nthKi (by assumption) ?_ | refine ⟨_, ⟨(by omega), (by assumption)⟩, ?_⟩ | refine And.intro (by first | decide | omega) ?_); conv => whnf) | refine Sem.seqS ?_ | refine Sem.block ?_)
    rw [hb2]
    refine h3.on ?_; conv => whnf
    repeat' (first | ((first | refine Sem.st tt_ok rfl ?_ | refine BS_t (by assumption) ?_ | refine BS_f (by assumption) ?_ | refine nthKi (by assumption) ?_ | refine ⟨_, ⟨(by omega), (by assumption)⟩, ?_⟩ | refine And.intro (by first | decide | omega) ?_); conv => whnf) | refine Sem.seqS ?_ | refine Sem.block ?_)
    rw [ee]
    refine ⟨⟨k + 1, by omega⟩, by show s.length - (k + 1) < s.length - k; omega, ?_⟩
    refine weak_by [] ?_; (conv => whnf); repeat (refine And.intro rfl ?_; conv => whnf)
    refine And.intro hi ?_
    (conv => whnf); repeat (refine And.intro rfl ?_; conv => whnf)
    exact ⟨fun i y hy => hy, rfl, by decide, rfl, rfl⟩
  · have hk' : k = s.length := by omega
    subst hk'
    have tl : decide (((s.length : Nat) : Int) < (z.size : Nat)) = false := by rw [hsz, decide_eq_false_iff_not]; omega
    rw [List.take_length] at *
    have h2 := bstring_ok (S (s.flatMap hx)) pb (setG G pb (.bld (S (s.flatMap hx)))) (hgG _)
    have hdel : ∀ i y, G i = some y → delG (setG G pb (.bld (S (s.flatMap hx)))) pb i = some y := fun i y hi => del_new hpb i y hi
    repeat' (first | ((first | refine Sem.st tt_ok rfl ?_ | refine BS_t (by assumption) ?_ | refine BS_f (by assumption) ?_ | refine nthKi (by assumption) ?_ | refine ⟨_, ⟨(by omega), (by assumption)⟩, ?_⟩ | refine And.intro (by first | decide | omega) ?_); conv => whnf) | refine Sem.seqS ?_ | refine Sem.block ?_)
    refine h2.on ?_; conv => whnf
    repeat' (first | ((first | refine Sem.st tt_ok rfl ?_ | refine BS_t (by assumption) ?_ | refine BS_f (by assumption) ?_ | refine nthKi (by assumption) ?_ | refine ⟨_, ⟨(by omega), (by assumption)⟩, ?_⟩ | refine And.intro (by first | decide | omega) ?_); conv => whnf) | refine Sem.seqS ?_ | refine Sem.block ?_)
    exact ⟨_, hdel, rfl, rfl⟩
theorem hex_ok (s : List UInt8) (hs : s.length ≤ 1000000000000) (G : Glob) : CallOk Tryz.prog TT 31 [.str (S s)] G (fun v G' => v = .str (S (hexT s)) ∧ G' = G) := by
  cases s with
  | nil => exact hex0_ok G _ (by simp [S])
  | cons c r => exact hex1_ok (c :: r) hs G _ (by simp [S]) (S_size _) fun k c h => vbyteAt h
/-- a line of a text -/
def lineT (word : List UInt8) (r : ByteArray → List UInt8) (n : ByteArray) : List UInt8 := word ++ [32] ++ hexT n.data.toList ++ [32] ++ r n ++ [10]
def linesT (word : List UInt8) (r : ByteArray → List UInt8) (ns : List ByteArray) : List UInt8 := ns.flatMap (lineT word r)
theorem lines_take (word : List UInt8) (r : ByteArray → List UInt8) (ns : List ByteArray) (k : Nat) (n : ByteArray) (h : ns[k]? = some n) : linesT word r (ns.take (k + 1)) = linesT word r (ns.take k) ++ lineT word r n := by
  unfold linesT
  rw [List.take_add_one, h]; simp
theorem lines_le (word : List UInt8) (r : ByteArray → List UInt8) (ns : List ByteArray) (k : Nat) : (linesT word r (ns.take k)).length ≤ (linesT word r ns).length := by
  conv => rhs; rw [← List.take_append_drop k ns]
  unfold linesT
  rw [List.flatMap_append, List.length_append]; omega
set_option maxHeartbeats 1000000 in
theorem lines_ok (ns : List ByteArray) (word : List UInt8) (f : FuncId) (x : Nat) (r : ByteArray → List UInt8) (G : Glob) (hn : ns.length ≤ 1000000) (hk : ∀ n ∈ ns, n.size ≤ 1000000000000) (hl : (linesT word r ns).length ≤ 100000000000000)
    (hr : ∀ G1 : Glob, (∀ i y, G i = some y → G1 i = some y) → ∀ n ∈ ns, CallOk Tryz.prog TT f [.str n, .gptr x 0] G1 (fun v G' => v = .str (S (r n)) ∧ G' = G1)) :
    CallOk Tryz.prog TT 27 [.slc 9 (ns.map fun n => [AV.str n]), .str (S word), .fn (.func f) [] [.gptr x 0]] G (fun v G' => v = .str (S (linesT word r ns)) ∧ G' = G) := by
  have hnl : (ns.map fun n => [AV.str n]).length = ns.length := by simp
  have zw := S_size word
  refine call_sem tt_ok Tryz.func27 rfl (by kernel_rfl) Tryz.ntmps27 Tryz.results27 ?_; conv => whnf
  repeat' (first | ((first | refine Sem.st tt_ok rfl ?_ | refine BS_t (by assumption) ?_ | refine BS_f (by assumption) ?_ | refine nthKi (by assumption) ?_ | refine ⟨_, ⟨(by omega), (by assumption)⟩, ?_⟩ | refine And.intro (by first | decide | omega) ?_); conv => whnf) | refine Sem.seqS ?_ | refine Sem.block ?_)
  intro pb hpb
  conv => whnf
  have hgG : ∀ x : List UInt8, setG G pb (.bld (S x)) pb = some (.bld (S x)) := fun x => setG_same _ _ _
  have hsub : ∀ X, ∀ i y, G i = some y → setG G pb X i = some y := fun X i y hi => by
    rw [setG_ne _ _ (fun e => by rw [e, hpb] at hi; cases hi)]; exact hi
  repeat' (first | ((first | refine Sem.st tt_ok rfl ?_ | refine BS_t (by assumption) ?_ | refine BS_f (by assumption) ?_ | refine nthKi (by assumption) ?_ | refine ⟨_, ⟨(by omega), (by assumption)⟩, ?_⟩ | refine And.intro (by first | decide | omega) ?_); conv => whnf) | refine Sem.seqS ?_ | refine Sem.block ?_)
  refine Sem.loop (ι := {k : Nat // k ≤ ns.length}) (fun y => ⟨(.top :: .str (S word) :: .fn (.func f) [] [.gptr x 0] :: .top :: .top :: .top :: .top :: .gptr pb 0 :: .top :: .top :: .slc 9 (ns.map fun n => [AV.str n]) :: .int .i64 ((ns.map fun n => [AV.str n]).length : Nat) :: .int .i64 (y.1 : Nat) :: .top :: .top :: .top :: .top :: .top :: .top :: .top :: .top :: .top :: .top :: .top :: .top :: .top :: .top :: .top :: .top :: .top :: []), [], 0, 0, setG G pb (.bld (S (linesT word r (ns.take y.1))))⟩) (fun y => ns.length - y.1) ⟨0, Nat.zero_le _⟩ ?_ (fun y => ?_)
  · refine weak_by [] ?_; (conv => whnf); repeat (refine And.intro rfl ?_; conv => whnf)
    exact ⟨fun i y hy => hy, rfl, by decide, rfl, rfl⟩
  obtain ⟨k, hkl⟩ := y
  simp only
  have h0 : (0 : Int) ≤ ((k : Nat) : Int) := by omega
  by_cases hlt : k < ns.length
  · obtain ⟨n, hnk⟩ : ∃ n, ns[k]? = some n := ⟨_, List.getElem?_eq_getElem hlt⟩
    have tl : decide (((k : Nat) : Int) < ((ns.map fun n => [AV.str n]).length : Nat)) = true := by rw [hnl, decide_eq_true_eq]; omega
    have hm : (ns.map fun n => [AV.str n])[((k : Nat) : Int).toNat]? = some [.str n] := by rw [Int.toNat_natCast, List.getElem?_map, hnk]; rfl
    have hmem := List.mem_of_getElem? hnk
    have hft := lines_take word r ns k n hnk
    have hle := lines_le word r ns (k + 1)
    rw [hft, List.length_append] at hle
    have hi : IntKind.i64.wrap ((k : Int) + 1) = ((k + 1 : Nat) : Int) := by rw [IntWalk.i64_in _ (by omega)]; omega
    have hll : (lineT word r n).length = word.length + 1 + (hexT n.data.toList).length + 1 + (r n).length + 1 := by unfold lineT; simp only [List.length_append, List.length_cons, List.length_nil]
    have hx := hex_ok n.data.toList (by have := hk n hmem; simpa using this) (setG G pb (.bld (S (linesT word r (ns.take k)))))
    rw [S_of] at hx
    have hc := hr _ (hsub (.bld (S (linesT word r (ns.take k))))) n hmem
    have hwr := write_ok (S (linesT word r (ns.take k))) (S (lineT word r n)) pb _ (hgG (linesT word r (ns.take k))) (by rw [S_size, S_size]; omega)
    rw [setG_twice, S_append, ← hft] at hwr
    have z1 := S_size (hexT n.data.toList)
    have z2 := S_size (r n)
    have c32 : (⟨#[32]⟩ : ByteArray).size = 1 := rfl
    have c10 : (⟨#[10]⟩ : ByteArray).size = 1 := rfl
    have hmx : IntKind.i64.max = 9223372036854775807 := rfl
    have y1 : (S word ++ (⟨#[32]⟩ : ByteArray)).size = word.length + 1 := by rw [ByteArray.size_append, zw]; rfl
    have y2 : (S word ++ (⟨#[32]⟩ : ByteArray) ++ S (hexT n.data.toList)).size = word.length + 1 + (hexT n.data.toList).length := by rw [ByteArray.size_append, y1, z1]
    have y3 : (S word ++ (⟨#[32]⟩ : ByteArray) ++ S (hexT n.data.toList) ++ (⟨#[32]⟩ : ByteArray)).size = word.length + 1 + (hexT n.data.toList).length + 1 := by rw [ByteArray.size_append, y2]; rfl
    have y4 : (S word ++ (⟨#[32]⟩ : ByteArray) ++ S (hexT n.data.toList) ++ (⟨#[32]⟩ : ByteArray) ++ S (r n)).size = word.length + 1 + (hexT n.data.toList).length + 1 + (r n).length := by rw [ByteArray.size_append, y3, z2]
    have ee : S word ++ (⟨#[32]⟩ : ByteArray) ++ S (hexT n.data.toList) ++ (⟨#[32]⟩ : ByteArray) ++ S (r n) ++ (⟨#[10]⟩ : ByteArray) = S (lineT word r n) := by
      apply ByteArray.ext; simp [S, lineT, ByteArray.data_append]
    repeat' (first | ((first | refine Sem.st tt_ok rfl ?_ | refine BS_t (by assumption) ?_ | refine BS_f (by assumption) ?_ | refine nthKi (by assumption) ?_ | refine ⟨_, ⟨(by omega), (by assumption)⟩, ?_⟩ | refine And.intro (by first | decide | omega) ?_); conv => whnf) | refine Sem.seqS ?_ | refine Sem.block ?_)
    refine hx.on ?_; conv => whnf
    repeat' (first | ((first | refine Sem.st tt_ok rfl ?_ | refine BS_t (by assumption) ?_ | refine BS_f (by assumption) ?_ | refine nthKi (by assumption) ?_ | refine ⟨_, ⟨(by omega), (by assumption)⟩, ?_⟩ | refine And.intro (by first | decide | omega) ?_); conv => whnf) | refine Sem.seqS ?_ | refine Sem.block ?_)
    refine hc.on ?_; conv => whnf
    repeat' (first | ((first | refine Sem.st tt_ok rfl ?_ | refine BS_t (by assumption) ?_ | refine BS_f (by assumption) ?_ | refine nthKi (by assumption) ?_ | refine ⟨_, ⟨(by omega), (by assumption)⟩, ?_⟩ | refine And.intro (by first | decide | omega) ?_); conv => whnf) | refine Sem.seqS ?_ | refine Sem.block ?_)
    rw [ee]
    refine hwr.on ?_; conv => whnf
    repeat' (first | ((first | refine Sem.st tt_ok rfl ?_ | refine BS_t (by assumption) ?_ | refine BS_f (by assumption) ?_ | refine nthKi (by assumption) ?_ | refine ⟨_, ⟨(by omega), (by assumption)⟩, ?_⟩ | refine And.intro (by first | decide | omega) ?_); conv => whnf) | refine Sem.seqS ?_ | refine Sem.block ?_)
    refine ⟨⟨k + 1, by omega⟩, by show ns.length - (k + 1) < ns.length - k; omega, ?_⟩
    refine weak_by [] ?_; (conv => whnf); repeat (refine And.intro rfl ?_; conv => whnf)
    refine And.intro hi ?_
    (conv => whnf); repeat (refine And.intro rfl ?_; conv => whnf)
    exact ⟨fun i y hy => hy, rfl, by decide, rfl, rfl⟩
  · have hk' : k = ns.length := by omega
    subst hk'
    have tl : decide (((ns.length : Nat) : Int) < ((ns.map fun n => [AV.str n]).length : Nat)) = false := by rw [hnl, decide_eq_false_iff_not]; omega
    rw [List.take_length] at *
    have h2 := bstring_ok (S (linesT word r ns)) pb (setG G pb (.bld (S (linesT word r ns)))) (hgG _)
    have hdel : ∀ i y, G i = some y → delG (setG G pb (.bld (S (linesT word r ns)))) pb i = some y := fun i y hi => del_new hpb i y hi
    repeat' (first | ((first | refine Sem.st tt_ok rfl ?_ | refine BS_t (by assumption) ?_ | refine BS_f (by assumption) ?_ | refine nthKi (by assumption) ?_ | refine ⟨_, ⟨(by omega), (by assumption)⟩, ?_⟩ | refine And.intro (by first | decide | omega) ?_); conv => whnf) | refine Sem.seqS ?_ | refine Sem.block ?_)
    refine h2.on ?_; conv => whnf
    repeat' (first | ((first | refine Sem.st tt_ok rfl ?_ | refine BS_t (by assumption) ?_ | refine BS_f (by assumption) ?_ | refine nthKi (by assumption) ?_ | refine ⟨_, ⟨(by omega), (by assumption)⟩, ?_⟩ | refine And.intro (by first | decide | omega) ?_); conv => whnf) | refine Sem.seqS ?_ | refine Sem.block ?_)
    exact ⟨_, hdel, rfl, rfl⟩
theorem figure31_ok (n : Nat) (hn : n < 16) (G : Glob) : CallOk Tryz.prog TT 77 [.int .i64 (n : Nat)] G (fun v G' => v = .str (S [fig n]) ∧ G' = G) := by
  by_cases h10 : n < 10
  · have t1 : decide (((n : Nat) : Int) < 10) = true := by rw [decide_eq_true_eq]; omega
    have hb := vbyte_ok (48 + ((n : Nat) : Int)) G (by omega) (by omega)
    have w1 : IntKind.i64.wrap (48 + ((n : Nat) : Int)) = 48 + ((n : Nat) : Int) := IntWalk.i64_in _ (by omega)
    rw [show UInt8.ofNat (48 + ((n : Nat) : Int)).toNat = fig n by unfold fig; rw [if_pos h10]; congr 1] at hb
    refine call_sem tt_ok Tryz.func77 rfl (by kernel_rfl) Tryz.ntmps77 Tryz.results77 ?_; conv => whnf
    repeat' (first | ((first | refine Sem.st tt_ok rfl ?_ | refine BS_t (by assumption) ?_ | refine BS_f (by assumption) ?_ | refine nthKi (by assumption) ?_ | refine ⟨_, ⟨(by omega), (by assumption)⟩, ?_⟩ | refine And.intro (by first | decide | omega) ?_); conv => whnf) | refine Sem.seqS ?_ | refine Sem.block ?_)
    rw [w1]
    refine hb.on ?_; conv => whnf
    repeat' (first | ((first | refine Sem.st tt_ok rfl ?_ | refine BS_t (by assumption) ?_ | refine BS_f (by assumption) ?_ | refine nthKi (by assumption) ?_ | refine ⟨_, ⟨(by omega), (by assumption)⟩, ?_⟩ | refine And.intro (by first | decide | omega) ?_); conv => whnf) | refine Sem.seqS ?_ | refine Sem.block ?_)
    exact ⟨_, fun _ _ h => h, rfl, rfl⟩
  · have t1 : decide (((n : Nat) : Int) < 10) = false := by rw [decide_eq_false_iff_not]; omega
    have hb := vbyte_ok (97 + ((n : Nat) : Int) - 10) G (by omega) (by omega)
    have w1 : IntKind.i64.wrap (97 + ((n : Nat) : Int)) = 97 + ((n : Nat) : Int) := IntWalk.i64_in _ (by omega)
    have w2 : IntKind.i64.wrap (97 + ((n : Nat) : Int) - 10) = 97 + ((n : Nat) : Int) - 10 := IntWalk.i64_in _ (by omega)
    rw [show UInt8.ofNat (97 + ((n : Nat) : Int) - 10).toNat = fig n by unfold fig; rw [if_neg h10]; congr 1; omega] at hb
    refine call_sem tt_ok Tryz.func77 rfl (by kernel_rfl) Tryz.ntmps77 Tryz.results77 ?_; conv => whnf
    repeat' (first | ((first | refine Sem.st tt_ok rfl ?_ | refine BS_t (by assumption) ?_ | refine BS_f (by assumption) ?_ | refine nthKi (by assumption) ?_ | refine ⟨_, ⟨(by omega), (by assumption)⟩, ?_⟩ | refine And.intro (by first | decide | omega) ?_); conv => whnf) | refine Sem.seqS ?_ | refine Sem.block ?_)
    rw [w1, w2]
    refine hb.on ?_; conv => whnf
    repeat' (first | ((first | refine Sem.st tt_ok rfl ?_ | refine BS_t (by assumption) ?_ | refine BS_f (by assumption) ?_ | refine nthKi (by assumption) ?_ | refine ⟨_, ⟨(by omega), (by assumption)⟩, ?_⟩ | refine And.intro (by first | decide | omega) ?_); conv => whnf) | refine Sem.seqS ?_ | refine Sem.block ?_)
    exact ⟨_, fun _ _ h => h, rfl, rfl⟩
theorem rhex0_ok (G : Glob) (z : ByteArray) (e0 : (z.toList == (⟨#[]⟩ : ByteArray).toList) = true) : CallOk Tryz.prog TT 43 [.str z] G (fun v G' => v = .str (S [45]) ∧ G' = G) := by
  refine call_sem tt_ok Tryz.func43 rfl (by kernel_rfl) Tryz.ntmps43 Tryz.results43 ?_; conv => whnf
  repeat' (first | ((first | refine Sem.st tt_ok rfl ?_ | refine BS_t (by assumption) ?_ | refine BS_f (by assumption) ?_ | refine nthKi (by assumption) ?_ | refine ⟨_, ⟨(by omega), (by assumption)⟩, ?_⟩ | refine And.intro (by first | decide | omega) ?_); conv => whnf) | refine Sem.seqS ?_ | refine Sem.block ?_)
  exact ⟨_, fun _ _ h => h, rfl, rfl⟩
end Go.Proofs.YtpihanlillbhkaaGreatDoor
end

section
/- The document's Hex. -/
set_option maxRecDepth 100000
set_option linter.unusedSimpArgs false
set_option linter.unusedVariables false
namespace Go.Proofs.YtpihanlillbhkaaGreatDoor
open Go Go.RowKit Go.Proofs

set_option maxHeartbeats 1000000 in
theorem rhex1_ok (s : List UInt8) (hs : s.length ≤ 1000000000000) (G : Glob) (z : ByteArray) (e0 : (z.toList == (⟨#[]⟩ : ByteArray).toList) = false) (hsz : z.size = s.length) (hby : ∀ (k : Nat) (c : UInt8), s[k]? = some c → byteAt z ((k : Nat) : Int).toNat = ((c.toNat : Nat) : Int)) : CallOk Tryz.prog TT 43 [.str z] G (fun v G' => v = .str (S (s.flatMap hx)) ∧ G' = G) := by
  have hmx : IntKind.i64.max = 9223372036854775807 := rfl
  refine call_sem tt_ok Tryz.func43 rfl (by kernel_rfl) Tryz.ntmps43 Tryz.results43 ?_; conv => whnf
  repeat' (first | ((first | refine Sem.st tt_ok rfl ?_ | refine BS_t (by assumption) ?_ | refine BS_f (by assumption) ?_ | refine nthKi (by assumption) ?_ | refine ⟨_, ⟨(by omega), (by assumption)⟩, ?_⟩ | refine And.intro (by first | decide | omega) ?_); conv => whnf) | refine Sem.seqS ?_ | refine Sem.block ?_)
  clear e0
  refine Sem.loop (ι := {k : Nat // k ≤ s.length}) (fun x => ⟨(.str z :: .top :: .top :: .str (S ((s.take x.1).flatMap hx)) :: .int .i64 (x.1 : Nat) :: .top :: .top :: .top :: .top :: .top :: .top :: .top :: .top :: .top :: .top :: .top :: .top :: .top :: .top :: .top :: .top :: .top :: .top :: .top :: .top :: .top :: .top :: .top :: .top :: []), [], 0, 0, G⟩) (fun x => s.length - x.1) ⟨0, Nat.zero_le _⟩ ?_ (fun x => ?_)
  · refine weak_by [] ?_; (conv => whnf); repeat (refine And.intro rfl ?_; conv => whnf)
    exact ⟨fun i y hy => hy, rfl, by decide, rfl, rfl⟩
  obtain ⟨k, hk⟩ := x
  simp only
  have hle := hx_le s k
  by_cases hlt : k < s.length
  · obtain ⟨c, hc⟩ : ∃ c, s[k]? = some c := ⟨_, List.getElem?_eq_getElem hlt⟩
    have tl : decide (((k : Nat) : Int) < (z.size : Nat)) = true := by rw [hsz, decide_eq_true_eq]; omega
    have hft := hx_take s k c hc
    have hi : IntKind.i64.wrap ((k : Int) + 1) = ((k + 1 : Nat) : Int) := by rw [IntWalk.i64_in _ (by omega)]; omega
    have hcb := c.toNat_lt
    have hba := hby k c hc
    have hwb : IntKind.i64.wrap ((c.toNat : Nat) : Int) = ((c.toNat : Nat) : Int) := IntWalk.i64_in _ (by omega)
    have zk := S_size ((s.take k).flatMap hx)
    have zf1 : (S [fig (c.toNat / 16)]).size = 1 := rfl
    have zf2 : (S [fig (c.toNat % 16)]).size = 1 := rfl
    have zz1 : (S [fig (c.toNat / 16)] ++ S [fig (c.toNat % 16)]).size = 2 := by rw [ByteArray.size_append]; rfl
    have hf1 := figure31_ok (c.toNat / 16) (by omega) G
    have hf2 := figure31_ok (c.toNat % 16) (by omega) G
    have wq : IntKind.i64.wrap (((c.toNat : Nat) : Int).tdiv 16) = ((c.toNat / 16 : Nat) : Int) := by rw [show ((c.toNat : Nat) : Int).tdiv 16 = ((c.toNat / 16 : Nat) : Int) from by rw [Int.tdiv_eq_ediv_of_nonneg (by omega)]; omega, IntWalk.i64_in _ (by omega)]
    have wr : ((c.toNat : Nat) : Int).tmod 16 = ((c.toNat % 16 : Nat) : Int) := by rw [Int.tmod_eq_emod_of_nonneg (by omega)]; omega
    have ee : S ((s.take k).flatMap hx) ++ (S [fig (c.toNat / 16)] ++ S [fig (c.toNat % 16)]) = S ((s.take (k + 1)).flatMap hx) := by
      rw [S_append, S_append, hft]
      rfl
    repeat' (first | ((first | refine Sem.st tt_ok rfl ?_ | refine BS_t (by assumption) ?_ | refine BS_f (by assumption) ?_ | refine nthKi (by assumption) ?_ | refine ⟨_, ⟨(by omega), (by assumption)⟩, ?_⟩ | refine And.intro (by first | decide | omega) ?_); conv => whnf) | refine Sem.seqS ?_ | refine Sem.block ?_)
    refine draw_sound (eff := []) tt_ok (by kernel_rfl) (by kernel_rfl) ?_; conv => whnf
    repeat' (first | ((first | refine BS_t (by assumption) ?_ | refine BS_f (by assumption) ?_ | refine nthKi (by assumption) ?_ | refine ⟨_, ⟨(by omega), (by assumption)⟩, ?_⟩ | refine And.intro (by first | decide | omega) ?_); conv => whnf) | fail)
    rw [hba, hwb]
    repeat' (first | ((first | refine BS_t (by assumption) ?_ | refine BS_f (by assumption) ?_ | refine nthKi (by assumption) ?_ | refine ⟨_, ⟨(by omega), (by assumption)⟩, ?_⟩ | refine And.intro (by first | decide | omega) ?_); conv => whnf) | fail)
    rw [wq]
    refine ⟨_, _, hf1, ?_⟩; (conv => whnf); refine And.intro rfl ?_; conv => whnf
    repeat' (first | ((first | refine BS_t (by assumption) ?_ | refine BS_f (by assumption) ?_ | refine nthKi (by assumption) ?_ | refine ⟨_, ⟨(by omega), (by assumption)⟩, ?_⟩ | refine And.intro (by first | decide | omega) ?_); conv => whnf) | fail)
    rw [hba, hwb]
    repeat' (first | ((first | refine BS_t (by assumption) ?_ | refine BS_f (by assumption) ?_ | refine nthKi (by assumption) ?_ | refine ⟨_, ⟨(by omega), (by assumption)⟩, ?_⟩ | refine And.intro (by first | decide | omega) ?_); conv => whnf) | fail)
    rw [wr]
    refine ⟨_, _, hf2, ?_⟩; (conv => whnf); refine And.intro rfl ?_; conv => whnf
    repeat' (first | ((first | refine BS_t (by assumption) ?_ | refine BS_f (by assumption) ?_ | refine nthKi (by assumption) ?_ | refine ⟨_, ⟨(by omega), (by assumption)⟩, ?_⟩ | refine And.intro (by first | decide | omega) ?_); conv => whnf) | fail)
    repeat' (first | ((first | refine Sem.st tt_ok rfl ?_ | refine BS_t (by assumption) ?_ | refine BS_f (by assumption) ?_ | refine nthKi (by assumption) ?_ | refine ⟨_, ⟨(by omega), (by assumption)⟩, ?_⟩ | refine And.intro (by first | decide | omega) ?_); conv => whnf) | refine Sem.seqS ?_ | refine Sem.block ?_)
    rw [ee]
    refine ⟨⟨k + 1, by omega⟩, by show s.length - (k + 1) < s.length - k; omega, ?_⟩
    refine weak_by [] ?_; (conv => whnf); repeat (refine And.intro rfl ?_; conv => whnf)
    refine And.intro hi ?_
    (conv => whnf); repeat (refine And.intro rfl ?_; conv => whnf)
    exact ⟨fun i y hy => hy, rfl, by decide, rfl, rfl⟩
  · have hk' : k = s.length := by omega
    subst hk'
    have tl : decide (((s.length : Nat) : Int) < (z.size : Nat)) = false := by rw [hsz, decide_eq_false_iff_not]; omega
    rw [List.take_length] at *
    repeat' (first | ((first | refine Sem.st tt_ok rfl ?_ | refine BS_t (by assumption) ?_ | refine BS_f (by assumption) ?_ | refine nthKi (by assumption) ?_ | refine ⟨_, ⟨(by omega), (by assumption)⟩, ?_⟩ | refine And.intro (by first | decide | omega) ?_); conv => whnf) | refine Sem.seqS ?_ | refine Sem.block ?_)
    exact ⟨_, fun _ _ h => h, rfl, rfl⟩
theorem rhex_ok (s : List UInt8) (hs : s.length ≤ 1000000000000) (G : Glob) : CallOk Tryz.prog TT 43 [.str (S s)] G (fun v G' => v = .str (S (hexT s)) ∧ G' = G) := by
  cases s with
  | nil => exact rhex0_ok G _ (by simp [S])
  | cons c r => exact rhex1_ok (c :: r) hs G _ (by simp [S]) (S_size _) fun k c h => vbyteAt h
end Go.Proofs.YtpihanlillbhkaaGreatDoor
end
