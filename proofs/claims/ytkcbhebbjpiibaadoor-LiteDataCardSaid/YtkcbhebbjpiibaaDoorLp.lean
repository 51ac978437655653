/-
  The rules' matrices, as one number's bits: the conflict of two basic concepts, the concepts that are dead.
-/
import Derived.Test.YtkcbhebbjpiibaaDoorLm
set_option linter.unusedVariables false
set_option linter.unusedSimpArgs false
set_option maxRecDepth 20000
set_option maxHeartbeats 8000000
namespace Go.Proofs.YtkcbhebbjpiibaaDoor.Pg
open Go
theorem sbLp {A : Prop} (h : A := by repeat' (first | exact trivial | refine And.intro ?_ ?_ | exact SubB.v | exact SubB.any | ((first | refine SubB.ptr ?_ | refine SubB.arr ?_ | refine SubB.mp ?_) <;> first | assumption | (unfold pid; omega)) | ((first | refine SubB.pure ?_ | refine SubBs.pure ?_) <;> (simp only [AV.pure, AV.pures, pures_append, jpu, rrow_pur, rb_pur, Bool.and_self, Bool.and_true, Bool.true_and]; done)) | refine SubB.fn ?_ ?_ | refine SubB.sl ?_ ?_ | refine SubB.agg ?_ | refine SubB.tup ?_ | rfl)) : A := h
variable {m : Int} {G : Nat → Option (List AV)}
def rb (N : Nat) : List AV := (List.range 1740).map fun k => .v (.bool (N.testBit k))
def rrow (N k n : Nat) : List AV := (List.range n).map fun i => .v (.bool (N.testBit (k + i)))
theorem rb_len {N : Nat} : (rb N).length = 1740 := by simp [rb]
theorem rrow_len {N k n : Nat} : (rrow N k n).length = n := by simp [rrow]
theorem rb_at {N k : Nat} : icut none (rb N) k = if k < 1740 then some (BOO (N.testBit k)) else none := by
  unfold icut rb
  simp only [List.getElem?_map]
  split
  · rw [List.getElem?_range (by assumption)]; rfl
  · rw [List.getElem?_eq_none (by simp; omega)]; rfl
theorem rb_row {N k n : Nat} (h : k + n ≤ 1740) : icut (some n) (rb N) k = some (.agg (rrow N k n)) := by
  have e : ((rb N).drop k).take n = rrow N k n := by
    refine List.ext_getElem? fun i => ?_
    unfold rb rrow
    simp only [List.getElem?_take, List.getElem?_drop, List.getElem?_map]
    by_cases q : i < n
    · rw [if_pos q, List.getElem?_range q, List.getElem?_range (by omega)]; rfl
    · rw [if_neg q, List.getElem?_eq_none (by simp; omega)]; rfl
  unfold icut
  simp only [e]
  rw [if_pos (by rw [rrow_len])]
theorem rrow_at {N k n i : Nat} : icut none (rrow N k n) i = if i < n then some (BOO (N.testBit (k + i))) else none := by
  unfold icut rrow
  simp only [List.getElem?_map]
  split
  · rw [List.getElem?_range (by assumption)]; rfl
  · rw [List.getElem?_eq_none (by simp; omega)]; rfl
theorem rb_pur (N : Nat) : AV.pures (rb N) = true := by
  unfold rb
  generalize List.range 1740 = l
  induction l with
  | nil => rfl
  | cons k l ih => simp [AV.pures, AV.pure, ih]
theorem rrow_pur (N k n : Nat) : AV.pures (rrow N k n) = true := by
  unfold rrow
  generalize List.range n = l
  induction l with
  | nil => rfl
  | cons k l ih => simp [AV.pures, AV.pure, ih]
def put (N k : Nat) : Nat := N ||| 2 ^ k
theorem put_bit (N k i : Nat) : (put N k).testBit i = (N.testBit i || decide (k = i)) := by
  unfold put; rw [Nat.testBit_or, Nat.testBit_two_pow]
theorem rb_put {N k : Nat} (h : k < 1740) : splice (rb N) k [.v (.bool true)] = rb (put N k) := by
  unfold splice rb
  refine List.ext_getElem? fun i => ?_
  simp only [List.length_cons, List.length_nil]
  rw [List.getElem?_append, List.getElem?_append]
  simp only [List.length_append, List.length_take, List.length_map, List.length_range, List.length_cons, List.length_nil, List.getElem?_take, List.getElem?_drop, List.getElem?_map, put_bit]
  rw [Nat.min_eq_left (by omega)]
  by_cases q : i < k
  · rw [if_pos (by omega), if_pos q, if_pos q, List.getElem?_range (by omega)]; simp; omega
  · by_cases q2 : i = k
    · subst q2; rw [if_pos (by omega), if_neg (by omega), List.getElem?_range h]; simp
    · rw [if_neg (by omega)]
      have e : k + (0 + 1) + (i - (k + (0 + 1))) = i := by omega
      rw [e]
      by_cases q3 : i < 1740
      · rw [List.getElem?_range q3]; simp; omega
      · rw [List.getElem?_eq_none (by simp; omega)]; rfl
section
variable {K : AV → Prop} {N k n i : Nat}
theorem rb_ld : @wh _ (icut none (rb N) k) ⟨K⟩ = @wc (k < 1740) ⟨K (BOO (N.testBit k))⟩ := by
  rw [rb_at]; split
  · exact propext ⟨fun h => ⟨by assumption, h⟩, fun h => h.2⟩
  · exact propext ⟨fun h => h.elim, fun h => absurd h.1 (by assumption)⟩
theorem rb_ld28 : @wh _ (icut (some 28) (rb N) k) ⟨K⟩ = @wh _ (icut (some 28) (rb N) k) ⟨K⟩ := rfl
theorem rrow_ld : @wh _ (icut none (rrow N k n) i) ⟨K⟩ = @wc (i < n) ⟨K (BOO (N.testBit (k + i)))⟩ := by
  rw [rrow_at]; split
  · exact propext ⟨fun h => ⟨by assumption, h⟩, fun h => h.2⟩
  · exact propext ⟨fun h => h.elim, fun h => absurd h.1 (by assumption)⟩
theorem wh.row (h : k + n ≤ 1740) (q : K (.agg (rrow N k n))) : @wh _ (icut (some n) (rb N) k) ⟨K⟩ := by rw [rb_row h]; exact q
theorem wc.put {c : Prop} {KL : List AV → Prop} (hc : c) (h : k < 1740) (q : KL (rb (put N k))) : @wc c ⟨@jcs (splice (rb N) k [.v (.bool true)]) ⟨KL⟩⟩ := ⟨hc, by rw [rb_put h]; exact q⟩
end
abbrev rch (N i k : Nat) : Bool := N.testBit (i * 28 + k)
abbrev rol (N i k : Nat) : Bool := N.testBit (784 + i * 12 + k)
abbrev apt (N i k : Nat) : Bool := N.testBit (928 + i * 28 + k)
abbrev emp (N c : Nat) : Bool := N.testBit (1712 + c)
def confl (N c d : Nat) : Bool := (List.range 28).any fun x => (List.range 28).any fun y => rch N c x && rch N d y && apt N x y
def ir84 : IFn := ⟨12, [⟨6, none⟩], (.seq (.reg [oA 6 (.mov (.k (.v (.pointer none))))]) (.seq (.reg [oA 7 (kM 0), oA 8 (kM 1), oA 9 (kM 2), oA 10 (.iasl 28 (.r 7) (.r 8)), oA 11 (.iaar 28 1 (.r 10) (.r 9)), oA 6 (kM 11)]) .ret))⟩
theorem c84 : cfunc Tryd.prog 84 = some ir84 := by kernel_rfl
theorem k84 : okIR (max 3 ir84.n) ir84.ir = true := by decide +kernel
theorem s_at28 (o off : Nat) (i k : Nat) (hi : i < 28) (hk : k < 28) (j : JH) (ho : o < j.next) : JC Tryd.prog G 84 [.arr o off 28, I64 i, I64 k] j (RET (.ptr o (off + i * 28 + k)) j) := by
  refine JC.run hmix c84 (by exact k84) ?_
  (try simp only[↓jr,jw,seval,ir84])
  repeat' ((first | refine wq.intro (fun _ => ?_) (fun _ => ?_) | refine ww.intro (fun _ => ?_) (fun _ => ?_) | refine wc.intro (by first | omega | (unfold R64; omega) | trivial) ?_ | refine wr.in (by unfold R64; omega) ?_) <;> first | contradiction | (try simp only[↓jr,jw,seval]))
  refine JFIN.rb ?_
  exact SubB.ptr ho
def ir86 : IFn := ⟨12, [⟨6, none⟩], (.seq (.reg [oA 6 (.mov (.k (.v (.pointer none))))]) (.seq (.reg [oA 7 (kM 0), oA 8 (kM 1), oA 9 (kM 2), oA 10 (.iasl 12 (.r 7) (.r 8)), oA 11 (.iaar 12 1 (.r 10) (.r 9)), oA 6 (kM 11)]) .ret))⟩
theorem c86 : cfunc Tryd.prog 86 = some ir86 := by kernel_rfl
theorem k86 : okIR (max 3 ir86.n) ir86.ir = true := by decide +kernel
theorem s_at12 (o off : Nat) (i k : Nat) (hi : i < 12) (hk : k < 12) (j : JH) (ho : o < j.next) : JC Tryd.prog G 86 [.arr o off 12, I64 i, I64 k] j (RET (.ptr o (off + i * 12 + k)) j) := by
  refine JC.run hmix c86 (by exact k86) ?_
  (try simp only[↓jr,jw,seval,ir86])
  repeat' ((first | refine wq.intro (fun _ => ?_) (fun _ => ?_) | refine ww.intro (fun _ => ?_) (fun _ => ?_) | refine wc.intro (by first | omega | (unfold R64; omega) | trivial) ?_ | refine wr.in (by unfold R64; omega) ?_) <;> first | contradiction | (try simp only[↓jr,jw,seval]))
  refine JFIN.rb ?_
  exact SubB.ptr ho
theorem any_step {p : Nat → Bool} {n k : Nat} (hk : k < n) (h : p k = false) (hI : (List.range k).any p = false) : (List.range (k + 1)).any p = false := by
  rw [List.range_succ, List.any_append, hI, List.any_cons, h]; rfl
theorem any_hit {p : Nat → Bool} {n k : Nat} (hk : k < n) (h : p k = true) : (List.range n).any p = true :=
  List.any_eq_true.2 ⟨k, List.mem_range.2 hk, h⟩
def ir78 : IFn := ⟨49, [⟨6, none⟩], (.seq (.reg [oA 6 (.mov (kB false))]) (.seq (.reg [oA 7 (.mov (kB false))]) (.seq .skip (.seq (.seq (.reg [oA 12 (kM 0), oA 13 (kM 1), oA 14 (.nchk (.r 12)), oA 15 (.fadr 0 (.r 14)), oA 16 (.iaar 28 28 (.r 15) (.r 13)), oL 17 16 (some 28), oA 18 (.mov (kI 0))]) (.block 0 (.loop (.seq (.reg [oA 19 (.bin .lss (.r 18) (kI 28))]) (.seq (.cond (.r 19) .skip (.exit 0)) (.seq (.block 1 (.seq (.reg [oA 20 (kM 18), oA 21 (.aidx none 28 1 (.r 17) (.r 18)), oA 8 (kM 20), oA 9 (kM 21)]) (.seq (.reg [oA 22 (kM 0), oA 23 (kM 2), oA 24 (.nchk (.r 22)), oA 25 (.fadr 0 (.r 24)), oA 26 (.iaar 28 28 (.r 25) (.r 23)), oL 27 26 (some 28), oA 28 (.mov (kI 0))]) (.block 2 (.loop (.seq (.reg [oA 29 (.bin .lss (.r 28) (kI 28))]) (.seq (.cond (.r 29) .skip (.exit 2)) (.seq (.block 3 (.seq (.reg [oA 30 (kM 28), oA 31 (.aidx none 28 1 (.r 27) (.r 28)), oA 10 (kM 30), oA 11 (kM 31)]) (.seq (.reg [oA 32 (kM 9), oA 33 (kM 32), ⟨(some 34), (some ((33, true))), none, (kM 11)⟩, oA 35 (.pick (.r 33) (.r 34) (kB false)), oA 36 (kM 35), ⟨(some 37), (some ((36, true))), none, (kM 0)⟩, ⟨(some 38), (some ((36, true))), none, (kM 8)⟩, ⟨(some 39), (some ((36, true))), none, (kM 10)⟩, ⟨(some 40), (some ((36, true))), none, (.nchk (.r 37))⟩, ⟨(some 41), (some ((36, true))), none, (.fadr 928 (.r 40))⟩, ⟨(some 42), (some ((36, true))), none, (.iaar 28 28 (.r 41) (.r 38))⟩, ⟨(some 43), (some ((36, true))), none, (.iaar 28 1 (.r 42) (.r 39))⟩, ⟨(some 44), (some ((36, true))), (some (.r 43)), (.load none (.r 43))⟩, oA 45 (.pick (.r 36) (.r 44) (kB false))]) (.cond (.r 45) (.seq (.reg [oA 7 (.mov (kB true))]) (.exit 0)) .skip)))) (.reg [oA 46 (.bin .add (.r 28) (kI 1)), oA 28 (kM 46)]))))))))) (.reg [oA 47 (.bin .add (.r 18) (kI 1)), oA 18 (kM 47)]))))))) (.seq (.reg [oA 48 (kM 7), oA 6 (kM 48)]) .ret)))))⟩
theorem c78 : cfunc Tryd.prog 78 = some ir78 := by kernel_rfl
theorem k78 : okIR (max 3 ir78.n) ir78.ir = true := by decide +kernel
theorem s_conflict (o : Nat) (t : TypeId) (N : Nat) (c d : Nat) (hc : c < 28) (hd : d < 28) (j : JH) (ho : o < j.next) (hg : j.get o = some (.cells t (rb N))) : JC Tryd.prog G 78 [.ptr o 0, I64 c, I64 d] j (RET (BOO (confl N c d)) j) := by
  refine JC.run hmix c78 (by exact k78) ?_
  (try simp only[↓jr,jw,seval,ext_get_old,ho,hg,rb_ld,rrow_ld,rb_len,rrow_len,ir78])
  refine wc.intro (by omega) ?_
  (try simp only[↓jr,jw,seval,ext_get_old,ho,hg,rb_ld,rrow_ld,rb_len,rrow_len])
  refine wh.row (by omega) ?_
  (try simp only[↓jr,jw,seval,ext_get_old,ho,hg,rb_ld,rrow_ld,rb_len,rrow_len])
  refine JLOOP.of (σ := Nat) (fun x => x ≤ 28 ∧ ((List.range x).any fun x => (List.range 28).any fun y => rch N c x && rch N d y && apt N x y) = false) (fun x => 28 - x) (fun x => [(18, I64 x), (17, .agg (rrow N (c * 28) 28)), (0, .ptr o 0), (2, I64 d), (7, BOO false)]) (fun x => ext j []) 0 ⟨by omega, rfl⟩ ?_ (JDropH.refl _) ?_
  · ((try simp only[↓jr,jw,seval,ext_get_old,ho,hg,rb_ld,rrow_ld,rb_len,rrow_len,DL]) <;> exact sbLp)
  · rintro x ⟨hx, hI⟩
    (try simp only[↓jr,jw,seval,ext_get_old,ho,hg,rb_ld,rrow_ld,rb_len,rrow_len])
    refine wq.intro (fun h1 => ?_) (fun h1 => ?_)
    · (try simp only[↓jr,jw,seval,ext_get_old,ho,hg,rb_ld,rrow_ld,rb_len,rrow_len])
      refine wc.intro (by omega) ?_
      (try simp only[↓jr,jw,seval,ext_get_old,ho,hg,rb_ld,rrow_ld,rb_len,rrow_len])
      refine wc.intro (by omega) ?_
      (try simp only[↓jr,jw,seval,ext_get_old,ho,hg,rb_ld,rrow_ld,rb_len,rrow_len])
      refine wc.intro (by omega) ?_
      (try simp only[↓jr,jw,seval,ext_get_old,ho,hg,rb_ld,rrow_ld,rb_len,rrow_len])
      refine wh.row (by omega) ?_
      (try simp only[↓jr,jw,seval,ext_get_old,ho,hg,rb_ld,rrow_ld,rb_len,rrow_len])
      refine JLOOP.of (σ := Nat) (fun y => y ≤ 28 ∧ ((List.range y).any fun y => rch N c x && rch N d y && apt N x y) = false) (fun y => 28 - y) (fun y => [(28, I64 y), (27, .agg (rrow N (d * 28) 28)), (18, I64 x), (17, .agg (rrow N (c * 28) 28)), (8, I64 x), (9, BOO (rch N c x)), (0, .ptr o 0), (2, I64 d), (7, BOO false)]) (fun y => ext j []) 0 ⟨by omega, rfl⟩ ?_ (JDropH.refl _) ?_
      · ((try simp only[↓jr,jw,seval,ext_get_old,ho,hg,rb_ld,rrow_ld,rb_len,rrow_len,DL]) <;> exact sbLp)
      · rintro y ⟨hy, hJ⟩
        (try simp only[↓jr,jw,seval,ext_get_old,ho,hg,rb_ld,rrow_ld,rb_len,rrow_len])
        refine wq.intro (fun h2 => ?_) (fun h2 => ?_)
        · (try simp only[↓jr,jw,seval,ext_get_old,ho,hg,rb_ld,rrow_ld,rb_len,rrow_len])
          refine wc.intro (by omega) ?_
          (try simp only[↓jr,jw,seval,ext_get_old,ho,hg,rb_ld,rrow_ld,rb_len,rrow_len])
          refine wc.intro (by omega) ?_
          (try simp only[↓jr,jw,seval,ext_get_old,ho,hg,rb_ld,rrow_ld,rb_len,rrow_len])
          repeat' ((first | refine wq.intro (fun _ => ?_) (fun _ => ?_) | refine ww.intro (fun _ => ?_) (fun _ => ?_) | refine wc.intro (by first | omega | (unfold R64; omega) | trivial) ?_ | refine wr.in (by unfold R64; omega) ?_) <;> first | contradiction | (try simp only[↓jr,jw,seval,ext_get_old,ho,hg,rb_ld,rrow_ld,rb_len,rrow_len]))
          all_goals first
            | (refine JFIN.rb ?_
               have e : confl N c d = true := any_hit (k := x) (by omega) (any_hit (k := y) (by omega) (by simp only [rch, apt, Bool.and_eq_true]; exact ⟨⟨by assumption, by assumption⟩, by assumption⟩))
               rw [e]; exact SubB.v)
            | (refine JNEXT.of (y + 1) ⟨by omega, any_step (n := 28) (by omega) (by simp only [rch, apt] at *; simp only [*, Bool.false_and, Bool.and_false, Bool.true_and]) hJ⟩ (by omega) ?_ JDropH.nx
               ((try simp only[↓jr,jw,seval,ext_get_old,ho,hg,rb_ld,rrow_ld,rb_len,rrow_len,DL]) <;> exact sbLp))
        · (try simp only[↓jr,jw,seval,ext_get_old,ho,hg,rb_ld,rrow_ld,rb_len,rrow_len])
          refine wc.intro (by unfold R64; omega) ?_
          (try simp only[↓jr,jw,seval,ext_get_old,ho,hg,rb_ld,rrow_ld,rb_len,rrow_len])
          have e : y = 28 := by omega
          subst e
          refine JNEXT.of (x + 1) ⟨by omega, any_step (n := 28) (by omega) hJ hI⟩ (by omega) ?_ JDropH.nx
          ((try simp only[↓jr,jw,seval,ext_get_old,ho,hg,rb_ld,rrow_ld,rb_len,rrow_len,DL]) <;> exact sbLp)
    · (try simp only[↓jr,jw,seval,ext_get_old,ho,hg,rb_ld,rrow_ld,rb_len,rrow_len])
      refine JFIN.rb ?_
      have e : x = 28 := by omega
      subst e
      have e : confl N c d = false := hI
      rw [e]; exact SubB.v
end Go.Proofs.YtkcbhebbjpiibaaDoor.Pg
