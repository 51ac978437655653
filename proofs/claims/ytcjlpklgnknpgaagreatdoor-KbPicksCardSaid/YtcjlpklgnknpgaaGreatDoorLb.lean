/-
  Concepts: validity, as the reference tells it.
-/
import Derived.Test.YtcjlpklgnknpgaaGreatDoorLa
import Derived.Test.YtcjlpklgnknpgaaGreatDoorPgM
import Derived.Test.YtcjlpklgnknpgaaGreatDoorShelf
set_option linter.unusedVariables false
set_option linter.unusedSimpArgs false
set_option maxRecDepth 20000
set_option maxHeartbeats 8000000
namespace Go.Proofs.YtcjlpklgnknpgaaGreatDoor.Pg
open Go
section
variable {G : Nat → Option (List AV)}
def arity (op : Int) : Int := if op = 0 ∨ op = 1 ∨ op = 2 then 0 else if op = 3 ∨ op = 6 ∨ op = 7 then 1 else if op = 4 ∨ op = 5 then 2 else -1
def quant (op : Int) : Bool := decide (op = 6) || decide (op = 7)
mutual
def shaped (nc nr : Nat) : Con → Bool
 | .mk op n l => decide (arity op = l.length) && decide (0 ≤ n) && (if op = 0 then decide (n < nc) else if quant op then decide (n < 2 * nr) else decide (n = 0)) && shapedL nc nr l
def shapedL (nc nr : Nat) : List Con → Bool
 | [] => true
 | c :: l => shaped nc nr c && shapedL nc nr l
end
def conOK (m : Nms) (c : Con) : Bool := decide (c.nodes ≤ 400) && decide (c.depth ≤ 20) && shaped m.cs.length m.rs.length c
def Nms.ok (m : Nms) : Prop := m.cs.length < 4611686018427387904 ∧ m.rs.length < 4611686018427387904 ∧ m.is.length < 4611686018427387904
def SH (nc nr : Nat) (op n : Int) (k : Nat) : Prop := arity op = k ∧ 0 ≤ n ∧ (op = 0 → n < nc) ∧ (op ≠ 0 → quant op = true → n < 2 * nr) ∧ (op ≠ 0 → quant op = false → n = 0)
theorem shaped_mk {nc nr : Nat} {op n : Int} {l : List Con} : (shaped nc nr (.mk op n l) = true) = (SH nc nr op n l.length ∧ shapedL nc nr l = true) := by
 simp only [shaped, SH, Bool.and_eq_true, decide_eq_true_eq]
 by_cases h0 : op = 0
 ·simp [h0]; omega
 ·by_cases hq : quant op = true
  ·simp [h0, hq]; omega
  ·simp only [Bool.not_eq_true] at hq; simp [h0, hq]; omega
theorem shaped_f {nc nr : Nat} {op n : Int} {l : List Con} (h : ¬ SH nc nr op n l.length) : shaped nc nr (.mk op n l) = false := by
 rw [Bool.eq_false_iff, ne_eq, shaped_mk]; exact fun q => h q.1
theorem shaped_t {nc nr : Nat} {op n : Int} {l : List Con} (h : SH nc nr op n l.length) : shaped nc nr (.mk op n l) = shapedL nc nr l := by
 rw [Bool.eq_iff_iff, shaped_mk]; exact ⟨fun q => q.2, fun q => ⟨h, q⟩⟩
theorem arity0 {k : Nat} (h : arity 0 = k) : k = 0 := by simp [arity] at h; omega
noncomputable def ir161 : IFn := ⟨15, [⟨2, none⟩], (.seq (.reg [oA 2 (.mov (kI 0))]) (.seq (.seq (.reg [oA 3 (kM 0)]) (.block 0 (.seq (.seq (.reg [oA 5 (.bin .eql (.r 3) (kI 0)), oA 4 (kM 5)]) (.cond (.r 4) .skip (.seq (.reg [oA 6 (.bin .eql (.r 3) (kI 1)), oA 4 (kM 6)]) (.cond (.r 4) .skip (.reg [oA 7 (.bin .eql (.r 3) (kI 2)), oA 4 (kM 7)]))))) (.cond (.r 4) (.seq (.reg [oA 2 (.mov (kI 0))]) .ret) (.seq (.seq (.reg [oA 9 (.bin .eql (.r 3) (kI 3)), oA 8 (kM 9)]) (.cond (.r 8) .skip (.seq (.reg [oA 10 (.bin .eql (.r 3) (kI 6)), oA 8 (kM 10)]) (.cond (.r 8) .skip (.reg [oA 11 (.bin .eql (.r 3) (kI 7)), oA 8 (kM 11)]))))) (.cond (.r 8) (.seq (.reg [oA 2 (.mov (kI 1))]) .ret) (.seq (.seq (.reg [oA 13 (.bin .eql (.r 3) (kI 4)), oA 12 (kM 13)]) (.cond (.r 12) .skip (.reg [oA 14 (.bin .eql (.r 3) (kI 5)), oA 12 (kM 14)]))) (.cond (.r 12) (.seq (.reg [oA 2 (.mov (kI 2))]) .ret) .skip)))))))) (.seq (.reg [oA 2 (.mov (kI (-1)))]) .ret)))⟩
theorem c161 : cfunc Tryz.prog 161 = some ir161 := by kernel_rfl
theorem k161 : okIR (max 1 ir161.n) ir161.ir = true := by decide +kernel
theorem s_Arity (op : Int) (j : JH) : JC Tryz.prog G 161 [I64 op] j (RET (I64 (arity op)) j) := by
 refine JC.run hmix c161 (by exact k161) ?_
 (try simp only[↓jr,jw,seval,ir161])
 repeat' ((first | refine wq.intro (fun _ => ?_) (fun _ => ?_) | refine ww.intro (fun _ => ?_) (fun _ => ?_) | refine wc.intro (by first | omega | (unfold R64; omega) | trivial) ?_ | refine wr.in (by unfold R64; omega) ?_) <;> first | contradiction | (try simp only[↓jr,jw,seval]))
 all_goals
  refine JFIN.rb ?_
  unfold arity
  repeat' split
  all_goals first | exact SubB.v | (exfalso; omega)
noncomputable def ir101 : IFn := ⟨9, [⟨2, none⟩], (.seq (.reg [oA 2 (.mov (kB false))]) (.seq (.reg [oA 3 (kM 0), oA 4 (.bin .eql (.r 3) (kI 6)), oA 5 (kM 4), ⟨(some 6), (some ((5, false))), none, (kM 0)⟩, ⟨(some 7), (some ((5, false))), none, (.bin .eql (.r 6) (kI 7))⟩, oA 8 (.pick (.r 5) (kB true) (.r 7)), oA 2 (kM 8)]) .ret))⟩
theorem c101 : cfunc Tryz.prog 101 = some ir101 := by kernel_rfl
theorem k101 : okIR (max 1 ir101.n) ir101.ir = true := by decide +kernel
theorem s_Quantified (op : Int) (j : JH) : JC Tryz.prog G 101 [I64 op] j (RET (BOO (quant op)) j) := by
 refine JC.run hmix c101 (by exact k101) ?_
 (try simp only[↓jr,jw,seval,ir101])
 repeat' ((first | refine wq.intro (fun _ => ?_) (fun _ => ?_) | refine ww.intro (fun _ => ?_) (fun _ => ?_) | refine wc.intro (by first | omega | (unfold R64; omega) | trivial) ?_ | refine wr.in (by unfold R64; omega) ?_) <;> first | contradiction | (try simp only[↓jr,jw,seval]))
 all_goals
  refine JFIN.rb ?_
  simp only [quant, *, decide_true, Bool.true_or, decide_false, Bool.false_or, Bool.or_true]
  exact SubB.v
noncomputable def ir136 : IFn := ⟨56, [⟨4, none⟩], (.seq (.reg [oA 2 (.box 24 (.r 0)), oA 3 (.box 71 (.r 1)), oA 4 (.mov (kB false))]) (.seq (.seq (.draw [oA 7 (.fadr 0 (.r 3)), oL 8 7 none, oT 9 8 (.call 161 [.r 8]), oA 10 (.fadr 2 (.r 3)), oL 11 10 none, oT 12 11 (.lenl (.r 11)), oA 13 (.bin .neq (.r 9) (.r 12)), oA 14 (kM 13), ⟨(some 15), (some ((14, false))), none, (.fadr 1 (.r 3))⟩, ⟨(some 16), (some ((14, false))), (some (.r 15)), (.load none (.r 15))⟩, ⟨(some 17), (some ((14, false))), none, (.bin .lss (.r 16) (kI 0))⟩, oA 18 (.pick (.r 14) (kB true) (.r 17))] [(4, 2), (5, 2)]) (.cond (.r 18) (.seq (.reg [oA 4 (.mov (kB false))]) .ret) .skip)) (.seq (.block 0 (.seq (.reg [oA 20 (.fadr 0 (.r 3)), oL 21 20 none, oA 22 (.bin .eql (.r 21) (kI 0)), oA 19 (kM 22)]) (.cond (.r 19) (.seq (.reg [oA 23 (.fadr 1 (.r 3)), oL 24 23 none, oA 25 (.fadr 0 (.r 2)), oL 26 25 none, oT 27 26 (.lenl (.r 26)), oA 28 (.bin .lss (.r 24) (.r 27)), oA 4 (kM 28)]) .ret) (.seq (.reg [oA 30 (.fadr 0 (.r 3)), oL 31 30 none, oT 32 31 (.call 101 [.r 31]), oA 29 (kM 32)]) (.cond (.r 29) (.seq (.reg [oA 33 (.fadr 1 (.r 3)), oL 34 33 none, oA 35 (.fadr 1 (.r 2)), oL 36 35 none, oT 37 36 (.lenl (.r 36)), oA 38 (.bin .mul (kI 2) (.r 37)), oA 39 (.bin .geq (.r 34) (.r 38))]) (.cond (.r 39) (.seq (.reg [oA 4 (.mov (kB false))]) .ret) .skip)) (.seq (.reg [oA 41 (.fadr 1 (.r 3)), oL 42 41 none, oA 43 (.bin .neq (.r 42) (kI 0)), oA 40 (kM 43)]) (.cond (.r 40) (.seq (.reg [oA 4 (.mov (kB false))]) .ret) .skip))))))) (.seq (.seq (.reg [oA 44 (.fadr 2 (.r 3)), oL 45 44 none, oT 46 45 (.lenl (.r 45)), oA 47 (.mov (kI 0))]) (.block 1 (.loop (.seq (.reg [oA 48 (.bin .lss (.r 47) (.r 46))]) (.seq (.cond (.r 48) .skip (.exit 1)) (.seq (.block 2 (.seq (.reg [oA 49 (.iasl 3 (.r 45) (.r 47)), oL 50 49 (some 3), oA 6 (.alloc 71 [.v (.int .i64 0), .v (.int .i64 0), .sl .nil 0 []]), oN (.store 3 (.r 6) (.r 50))]) (.seq (.reg [oL 51 2 (some 3), oL 52 6 (some 3), oA 53 (.call 136 [.r 51, .r 52]), oA 54 (.not (.r 53))]) (.cond (.r 54) (.seq (.reg [oA 4 (.mov (kB false))]) .ret) .skip)))) (.reg [oA 55 (.bin .add (.r 47) (kI 1)), oA 47 (kM 55)]))))))) (.seq (.reg [oA 4 (.mov (kB true))]) .ret)))))⟩
theorem c136 : cfunc Tryz.prog 136 = some ir136 := by kernel_rfl
theorem k136 : okIR (max 2 ir136.n) ir136.ir = true := by decide +kernel
theorem s_shaped (m : Nms) (hm : m.ok) : ∀ (c : Con) (j : JH), c.ok → JC Tryz.prog G 136 [.agg m.enc, .agg c.enc] j (RET (BOO (shaped m.cs.length m.rs.length c)) j) := by
 intro c
 induction c using Con.ind with
 | h op n args ih =>
 intro j hc
 simp only [Con.ok] at hc
 obtain ⟨hc1, hc2, hc3, hc4⟩ := hc
 obtain ⟨hm1, hm2, hm3⟩ := hm
 refine JC.run hmix c136 (by exact k136) ?_
 (try simp only[↓jr,jw,seval,ir136])
 refine JDC.use (s_Arity op _) ?_
 (try simp only[↓jr,jw,seval])
 have fls : ∀ {j' : JH} {l : List AObj}, TokExt j j' → ¬ SH m.cs.length m.rs.length op n args.length → @JFIN (ext j []) (ext j' l) (.v (.bool false)) ⟨fun y j' => RET (BOO (shaped m.cs.length m.rs.length (Con.mk op n args))) j (.ret y) j'⟩ := by
  intro j' l ht h
  refine JFIN.ret ((JDropH.back ht).of_ext) ?_
  rw [shaped_f h]; exact SubB.v
 repeat' ((first | refine wq.intro (fun _ => ?_) (fun _ => ?_) | refine ww.intro (fun _ => ?_) (fun _ => ?_) | refine wc.intro (by first | omega | (unfold R64; omega) | trivial) ?_ | refine wr.in (by unfold R64; omega) ?_ | refine JCs.ret (s_Quantified _ _) ?_ | refine JDC.use (s_Quantified _ _) ?_ | (refine JDRAW.oc (by (try simp only[↓jr,jw,seval,jq]) <;> exact orq) ?_; (try simp only[↓jr,jw,seval]))) <;> first | contradiction | (try simp only[↓jr,jw,seval]))
 any_goals exact fls tkq (by rintro ⟨h1, h2, h3, h4, h5⟩; first | omega | (simp_all; done) | (simp_all; omega))
 case h.refine_1.refine_2.refine_1 =>
  rename_i h1 h2 h3
  refine JFIN.rb ?_
  subst h3
  have hl : args = [] := List.eq_nil_of_length_eq_zero (arity0 h1)
  subst hl
  have e : shaped m.cs.length m.rs.length (Con.mk 0 n []) = decide (n < m.cs.length) := by
   rw [Bool.eq_iff_iff, shaped_mk]; simp [SH, shapedL, arity]; omega
  rw [e]; exact SubB.v
 all_goals
  have hSH : SH m.cs.length m.rs.length op n args.length := ⟨by assumption, by omega, fun _ => by contradiction, fun _ _ => by first | omega | simp_all, fun _ _ => by first | omega | simp_all⟩
  refine JLOOP.of (σ := Nat) (fun k => k ≤ args.length ∧ shapedL m.cs.length m.rs.length (args.drop k) = shapedL m.cs.length m.rs.length args) (fun k => args.length - k)
   (fun k => [(47, I64 k), (46, I64 args.length), (45, .sl .none args.length (encs Con.enc args)), (2, .ptr (pid j.next 0) 0)]) (fun k => ext j [.cells 24 m.enc, .cells 71 (Con.mk op n args).enc]) 0 ⟨by omega, by simp⟩ ?_ (JDropH.refl _) ?_
  ·((try simp only[↓jr,jw,seval,DL]) <;> exact sbq)
  ·rintro k ⟨hk, hI⟩
   (try simp only[↓jr,jw,seval])
   refine wq.intro (fun h1 => ?_) (fun h1 => ?_)
   ·have hlt : k < (args).length := by omega
    obtain ⟨c, l, hd⟩ : ∃ c_ l_, List.drop k (args) = c_ :: l_ := ⟨_, _, List.drop_eq_getElem_cons hlt⟩
    have hd1 : List.drop (k + 1) (args) = l := by rw [← List.drop_drop, hd]; rfl
    have hmem : c ∈ args := List.mem_of_mem_drop (hd ▸ List.mem_cons_self)
    (try simp only[↓jr,jw,seval,hd])
    rw [hd] at hI
    simp only [shapedL] at hI
    refine wc.intro (by omega) ?_
    (try simp only[↓jr,jw,seval,hd])
    refine JCs.ret (ih c hmem _ (Con.oks_mem hc4 hmem)) ?_
    (try simp only[↓jr,jw,seval])
    refine ww.intro (fun h2 => ?_) (fun h2 => ?_)
    ·(try simp only[↓jr,jw,seval])
     refine wc.intro (R64_add hlt hc3) ?_
     (try simp only[↓jr,jw,seval])
     refine JNEXT.of (k + 1) ⟨by omega, by rw [hd1, ← hI, h2]; simp⟩ (by omega) ?_ ?_
     ·((try simp only[↓jr,jw,seval,DL]) <;> exact sbq)
     ·exact JDropH.nx
    ·(try simp only[↓jr,jw,seval])
     refine JFIN.rb ?_
     rw [shaped_t hSH, ← hI, h2]; exact SubB.v
   ·(try simp only[↓jr,jw,seval])
    refine JFIN.rb ?_
    rw [shaped_t hSH, ← hI, List.drop_eq_nil_of_le (by omega)]; exact SubB.v
noncomputable def ir135 : IFn := ⟨15, [⟨2, none⟩], (.seq (.reg [oA 1 (.box 71 (.r 0)), oA 2 (.mov (kB false))]) (.seq (.seq (.reg [oL 5 1 (some 3), oA 6 (.call 33 [.r 5, .k (.v (.int .i64 400))]), oA 7 (.not (.r 6))]) (.cond (.r 7) (.seq (.reg [oA 2 (.mov (kB false))]) .ret) .skip)) (.seq (.reg [oL 9 1 (some 3), oT 10 9 (.call 34 [.r 9]), oA 8 (kM 10), oA 11 (.ext (.r 8) 0), oA 12 (.ext (.r 8) 1), oA 3 (kM 11), oA 4 (kM 12)]) (.seq (.reg [oA 13 (kM 4), oA 14 (.bin .leq (.r 13) (kI 20)), oA 2 (kM 14)]) .ret))))⟩
theorem c135 : cfunc Tryz.prog 135 = some ir135 := by kernel_rfl
theorem k135 : okIR (max 1 ir135.n) ir135.ir = true := by decide +kernel
theorem s_Small (c : Con) (j : JH) (hc : c.ok) : JC Tryz.prog G 135 [.agg c.enc] j (RET (BOO (decide (c.nodes ≤ 400) && decide (c.depth ≤ 20))) j) := by
 refine JC.run hmix c135 (by exact k135) ?_
 (try simp only[↓jr,jw,seval,ir135])
 refine JCs.ret (s_Fits c 400 _ hc (by omega) (by omega)) ?_
 (try simp only[↓jr,jw,seval])
 refine wq.intro (fun h => ?_) (fun h => ?_)
 ·(try simp only[↓jr,jw,seval])
  refine JCs.ret (s_Size c _ hc (by omega)) ?_
  (try simp only[↓jr,jw,seval])
  refine JFIN.rb ?_
  have e : (decide (c.nodes ≤ 400) && decide (c.depth ≤ 20)) = decide ((c.depth : Int) ≤ 20) := by
   rw [decide_eq_true (by omega : c.nodes ≤ 400), Bool.true_and]; exact decide_eq_decide.2 (by omega)
  rw [e]; exact SubB.v
 ·(try simp only[↓jr,jw,seval])
  refine JFIN.rb ?_
  rw [decide_eq_false (by omega : ¬ c.nodes ≤ 400), Bool.false_and]; exact SubB.v
noncomputable def ir86 : IFn := ⟨12, [⟨4, none⟩], (.seq (.reg [oA 2 (.box 24 (.r 0)), oA 3 (.box 71 (.r 1)), oA 4 (.mov (kB false))]) (.seq (.reg [oL 5 3 (some 3), oT 6 5 (.call 135 [.r 5]), oA 7 (kM 6), ⟨(some 8), (some ((7, true))), (some (.r 2)), (.load (some 3) (.r 2))⟩, ⟨(some 9), (some ((7, true))), (some (.r 3)), (.load (some 3) (.r 3))⟩, ⟨(some 10), (some ((7, true))), none, (.call 136 [.r 8, .r 9])⟩, oA 11 (.pick (.r 7) (.r 10) (kB false)), oA 4 (kM 11)]) .ret))⟩
theorem c86 : cfunc Tryz.prog 86 = some ir86 := by kernel_rfl
theorem k86 : okIR (max 2 ir86.n) ir86.ir = true := by decide +kernel
theorem s_Is (m : Nms) (c : Con) (j : JH) (hm : m.ok) (hc : c.ok) : JC Tryz.prog G 86 [.agg m.enc, .agg c.enc] j (RET (BOO (conOK m c)) j) := by
 refine JC.run hmix c86 (by exact k86) ?_
 (try simp only[↓jr,jw,seval,ir86])
 refine JCs.ret (s_Small c _ hc) ?_
 (try simp only[↓jr,jw,seval])
 refine ww.intro (fun h => ?_) (fun h => ?_)
 ·(try simp only[↓jr,jw,seval])
  refine JCs.ret (s_shaped m hm c _ hc) ?_
  (try simp only[↓jr,jw,seval])
  refine JFIN.rb ?_
  unfold conOK; rw [h, Bool.true_and]; exact SubB.v
 ·(try simp only[↓jr,jw,seval])
  refine JFIN.rb ?_
  unfold conOK; rw [h, Bool.false_and]; exact SubB.v
end
section
variable {G : Nat → Option (List AV)}
def lttI (x : Int) : Bool := decide (97 ≤ x) && decide (x ≤ 122) || decide (65 ≤ x) && decide (x ≤ 90)
def digI (x : Int) : Bool := decide (48 ≤ x) && decide (x ≤ 57)
def letB (b : UInt8) : Bool := lttI b.toNat
def witB (b : UInt8) : Bool := lttI b.toNat || digI b.toNat || decide ((b.toNat : Int) = 95)
noncomputable def ir137 : IFn := ⟨17, [⟨2, none⟩], (.seq (.reg [oA 2 (.mov (kB false))]) (.seq (.reg [oA 3 (kM 0), oA 4 (.bin .geq (.r 3) (.k (.v (.int .u8 97)))), oA 5 (kM 4), ⟨(some 6), (some ((5, true))), none, (kM 0)⟩, ⟨(some 7), (some ((5, true))), none, (.bin .leq (.r 6) (.k (.v (.int .u8 122))))⟩, oA 8 (.pick (.r 5) (.r 7) (kB false)), oA 9 (kM 8), ⟨(some 10), (some ((9, false))), none, (kM 0)⟩, ⟨(some 11), (some ((9, false))), none, (.bin .geq (.r 10) (.k (.v (.int .u8 65))))⟩, ⟨(some 12), (some ((9, false))), none, (kM 11)⟩, ⟨(some 13), (some ((12, true))), none, (kM 0)⟩, ⟨(some 14), (some ((12, true))), none, (.bin .leq (.r 13) (.k (.v (.int .u8 90))))⟩, ⟨(some 15), (some ((9, false))), none, (.pick (.r 12) (.r 14) (kB false))⟩, oA 16 (.pick (.r 9) (kB true) (.r 15)), oA 2 (kM 16)]) .ret))⟩
theorem c137 : cfunc Tryz.prog 137 = some ir137 := by kernel_rfl
theorem k137 : okIR (max 1 ir137.n) ir137.ir = true := by decide +kernel
theorem s_rletter (x : Int) (j : JH) : JC Tryz.prog G 137 [U8 x] j (RET (BOO (lttI x)) j) := by
 refine JC.run hmix c137 (by exact k137) ?_
 (try simp only[↓jr,jw,seval,ir137])
 repeat' ((first | refine wq.intro (fun _ => ?_) (fun _ => ?_) | refine ww.intro (fun _ => ?_) (fun _ => ?_) | refine wc.intro (by first | omega | (unfold R64; omega) | trivial) ?_ | refine wr.in (by unfold R64; omega) ?_) <;> first | contradiction | (try simp only[↓jr,jw,seval]))
 all_goals
  refine JFIN.rb ?_
  simp only [lttI, *, decide_true, Bool.true_and, Bool.true_or, decide_false, Bool.false_and, Bool.false_or, Bool.or_true, Bool.and_true, Bool.and_false, Bool.or_false]
  exact SubB.v
noncomputable def ir77 : IFn := ⟨17, [⟨2, none⟩], (.seq (.reg [oA 2 (.mov (kB false))]) (.seq (.reg [oA 3 (kM 0), oA 4 (.bin .geq (.r 3) (.k (.v (.int .u8 97)))), oA 5 (kM 4), ⟨(some 6), (some ((5, true))), none, (kM 0)⟩, ⟨(some 7), (some ((5, true))), none, (.bin .leq (.r 6) (.k (.v (.int .u8 122))))⟩, oA 8 (.pick (.r 5) (.r 7) (kB false)), oA 9 (kM 8), ⟨(some 10), (some ((9, false))), none, (kM 0)⟩, ⟨(some 11), (some ((9, false))), none, (.bin .geq (.r 10) (.k (.v (.int .u8 65))))⟩, ⟨(some 12), (some ((9, false))), none, (kM 11)⟩, ⟨(some 13), (some ((12, true))), none, (kM 0)⟩, ⟨(some 14), (some ((12, true))), none, (.bin .leq (.r 13) (.k (.v (.int .u8 90))))⟩, ⟨(some 15), (some ((9, false))), none, (.pick (.r 12) (.r 14) (kB false))⟩, oA 16 (.pick (.r 9) (kB true) (.r 15)), oA 2 (kM 16)]) .ret))⟩
theorem c77 : cfunc Tryz.prog 77 = some ir77 := by kernel_rfl
theorem k77 : okIR (max 1 ir77.n) ir77.ir = true := by decide +kernel
theorem s_letter (x : Int) (j : JH) : JC Tryz.prog G 77 [U8 x] j (RET (BOO (lttI x)) j) := by
 refine JC.run hmix c77 (by exact k77) ?_
 (try simp only[↓jr,jw,seval,ir77])
 repeat' ((first | refine wq.intro (fun _ => ?_) (fun _ => ?_) | refine ww.intro (fun _ => ?_) (fun _ => ?_) | refine wc.intro (by first | omega | (unfold R64; omega) | trivial) ?_ | refine wr.in (by unfold R64; omega) ?_) <;> first | contradiction | (try simp only[↓jr,jw,seval]))
 all_goals
  refine JFIN.rb ?_
  simp only [lttI, *, decide_true, Bool.true_and, Bool.true_or, decide_false, Bool.false_and, Bool.false_or, Bool.or_true, Bool.and_true, Bool.and_false, Bool.or_false]
  exact SubB.v
noncomputable def ir138 : IFn := ⟨9, [⟨2, none⟩], (.seq (.reg [oA 2 (.mov (kB false))]) (.seq (.reg [oA 3 (kM 0), oA 4 (.bin .geq (.r 3) (.k (.v (.int .u8 48)))), oA 5 (kM 4), ⟨(some 6), (some ((5, true))), none, (kM 0)⟩, ⟨(some 7), (some ((5, true))), none, (.bin .leq (.r 6) (.k (.v (.int .u8 57))))⟩, oA 8 (.pick (.r 5) (.r 7) (kB false)), oA 2 (kM 8)]) .ret))⟩
theorem c138 : cfunc Tryz.prog 138 = some ir138 := by kernel_rfl
theorem k138 : okIR (max 1 ir138.n) ir138.ir = true := by decide +kernel
theorem s_digit (x : Int) (j : JH) : JC Tryz.prog G 138 [U8 x] j (RET (BOO (digI x)) j) := by
 refine JC.run hmix c138 (by exact k138) ?_
 (try simp only[↓jr,jw,seval,ir138])
 repeat' ((first | refine wq.intro (fun _ => ?_) (fun _ => ?_) | refine ww.intro (fun _ => ?_) (fun _ => ?_) | refine wc.intro (by first | omega | (unfold R64; omega) | trivial) ?_ | refine wr.in (by unfold R64; omega) ?_) <;> first | contradiction | (try simp only[↓jr,jw,seval]))
 all_goals
  refine JFIN.rb ?_
  simp only [digI, *, decide_true, Bool.true_and, decide_false, Bool.false_and]
  exact SubB.v
noncomputable def ir78 : IFn := ⟨17, [⟨2, none⟩], (.seq (.reg [oA 2 (.mov (kB false))]) (.seq (.reg [oA 3 (kM 0), oT 4 3 (.call 77 [.r 3]), oA 5 (kM 4), ⟨(some 6), (some ((5, false))), none, (kM 0)⟩, ⟨(some 7), (some ((5, false))), none, (.bin .geq (.r 6) (.k (.v (.int .u8 48))))⟩, ⟨(some 8), (some ((5, false))), none, (kM 7)⟩, ⟨(some 9), (some ((8, true))), none, (kM 0)⟩, ⟨(some 10), (some ((8, true))), none, (.bin .leq (.r 9) (.k (.v (.int .u8 57))))⟩, ⟨(some 11), (some ((5, false))), none, (.pick (.r 8) (.r 10) (kB false))⟩, oA 12 (.pick (.r 5) (kB true) (.r 11)), oA 13 (kM 12), ⟨(some 14), (some ((13, false))), none, (kM 0)⟩, ⟨(some 15), (some ((13, false))), none, (.bin .eql (.r 14) (.k (.v (.int .u8 95))))⟩, oA 16 (.pick (.r 13) (kB true) (.r 15)), oA 2 (kM 16)]) .ret))⟩
theorem c78 : cfunc Tryz.prog 78 = some ir78 := by kernel_rfl
theorem k78 : okIR (max 1 ir78.n) ir78.ir = true := by decide +kernel
theorem s_within (x : Int) (j : JH) : JC Tryz.prog G 78 [U8 x] j (RET (BOO (lttI x || digI x || decide (x = 95))) j) := by
 refine JC.run hmix c78 (by exact k78) ?_
 (try simp only[↓jr,jw,seval,ir78])
 refine JCs.ret (s_letter _ _) ?_
 (try simp only[↓jr,jw,seval])
 repeat' ((first | refine wq.intro (fun _ => ?_) (fun _ => ?_) | refine ww.intro (fun _ => ?_) (fun _ => ?_) | refine wc.intro (by first | omega | (unfold R64; omega) | trivial) ?_ | refine wr.in (by unfold R64; omega) ?_) <;> first | contradiction | (try simp only[↓jr,jw,seval]))
 all_goals
  refine JFIN.rb ?_
  simp only [digI, *, decide_true, Bool.true_and, Bool.true_or, decide_false, Bool.false_and, Bool.false_or, Bool.or_true, Bool.and_true, Bool.and_false, Bool.or_false]
  exact SubB.v
def wordF : Bool → List UInt8 → Bool
 | _, [] => true
 | f, b :: l => (letB b || !f && (digI b.toNat || decide ((b.toNat : Int) = 95))) && wordF false l
def word (l : List UInt8) : Bool := wordF true l && !l.isEmpty
noncomputable def ir90 : IFn := ⟨34, [⟨2, none⟩], (.seq (.reg [oA 2 (.mov (kB false))]) (.seq (.seq (.reg [oA 3 (.mov (kI 0))]) (.block 0 (.loop (.seq (.seq (.reg [oA 4 (kM 3), oA 5 (kM 0), oT 6 5 (.lens (.r 5)), oA 7 (.bin .lss (.r 4) (.r 6))]) (.cond (.r 7) .skip (.exit 0))) (.seq (.block 1 (.seq (.reg [oA 10 (kM 0), oA 11 (kM 3), oA 12 (.idxs (.r 10) (.r 11)), oT 13 12 (.call 137 [.r 12]), oA 14 (.not (.r 13)), oA 15 (kM 14), ⟨(some 16), (some ((15, true))), none, (kM 3)⟩, ⟨(some 17), (some ((15, true))), none, (.bin .eql (.r 16) (kI 0))⟩, ⟨(some 18), (some ((15, true))), none, (kM 17)⟩, ⟨(some 19), (some ((18, false))), none, (kM 0)⟩, ⟨(some 20), (some ((18, false))), none, (kM 3)⟩, ⟨(some 21), (some ((18, false))), none, (.idxs (.r 19) (.r 20))⟩, ⟨(some 22), (some ((18, false))), (some (.r 21)), (.call 138 [.r 21])⟩, ⟨(some 23), (some ((18, false))), none, (.not (.r 22))⟩, ⟨(some 24), (some ((18, false))), none, (kM 23)⟩, ⟨(some 25), (some ((24, true))), none, (kM 0)⟩, ⟨(some 26), (some ((24, true))), none, (kM 3)⟩, ⟨(some 27), (some ((24, true))), none, (.idxs (.r 25) (.r 26))⟩, ⟨(some 28), (some ((24, true))), none, (.bin .neq (.r 27) (.k (.v (.int .u8 95))))⟩, ⟨(some 29), (some ((18, false))), none, (.pick (.r 24) (.r 28) (kB false))⟩, ⟨(some 30), (some ((15, true))), none, (.pick (.r 18) (kB true) (.r 29))⟩, oA 31 (.pick (.r 15) (.r 30) (kB false))]) (.cond (.r 31) (.seq (.reg [oA 2 (.mov (kB false))]) .ret) .skip))) (.reg [oA 8 (kM 3), oA 9 (.bin .add (.r 8) (kI 1)), oA 3 (kM 9)])))))) (.seq (.reg [oA 32 (kM 0), oA 33 (.bin .neq (.r 32) (.k (.v (.string ⟨#[]⟩)))), oA 2 (kM 33)]) .ret)))⟩
theorem c90 : cfunc Tryz.prog 90 = some ir90 := by kernel_rfl
theorem k90 : okIR (max 1 ir90.n) ir90.ir = true := by decide +kernel
theorem s_Word (s : ByteArray) (j : JH) (hs : s.size < 4611686018427387904) : JC Tryz.prog G 90 [STR s] j (RET (BOO (word (bs s))) j) := by
 have hlen := bs_len s
 refine JC.run hmix c90 (by exact k90) ?_
 (try simp only[↓jr,jw,seval,ir90])
 refine JLOOP.of (σ := Nat) (fun k => k ≤ s.size ∧ wordF (decide (k = 0)) ((bs s).drop k) = wordF true (bs s)) (fun k => s.size - k)
   (fun k => [(3, I64 k), (0, STR s)]) (fun k => ext j []) 0 ⟨by omega, by simp⟩ ?_ (JDropH.refl _) ?_
 ·((try simp only[↓jr,jw,seval,DL]) <;> exact sbq)
 ·rintro k ⟨hk, hI⟩
  (try simp only[↓jr,jw,seval])
  refine wq.intro (fun h1 => ?_) (fun h1 => ?_)
  ·have hlt : k < (bs s).length := by omega
   obtain ⟨b, l, hd⟩ : ∃ c_ l_, List.drop k (bs s) = c_ :: l_ := ⟨_, _, List.drop_eq_getElem_cons hlt⟩
   have hd1 : List.drop (k + 1) (bs s) = l := by rw [← List.drop_drop, hd]; rfl
   have hmem : b ∈ bs s := List.mem_of_mem_drop (hd ▸ List.mem_cons_self)
   have hb := byte_at hd
   (try simp only[↓jr,jw,seval,hb])
   rw [hd] at hI
   simp only [wordF] at hI
   refine wc.intro (by omega) ?_
   (try simp only[↓jr,jw,seval,hb])
   refine JCs.ret (s_rletter _ _) ?_
   (try simp only[↓jr,jw,seval,hb])
   have e0 : decide ((k : Int) = 0) = decide (k = 0) := decide_eq_decide.2 (by omega)
   have nxt : ∀ {fr : L} {n : Nat}, n = s.size - k → (letB b || !decide (k = 0) && (digI ↑b.toNat || decide ((b.toNat : Int) = 95))) = true → DL j.next j.tnext fr [(3, I64 (k + 1 : Nat)), (0, STR s)] → JNEXT
     (fun n l j_1 => ∃ s_1, (s_1 ≤ s.size ∧ wordF (decide (s_1 = 0)) (List.drop s_1 (bs s)) = wordF true (bs s)) ∧ s.size - s_1 = n ∧ l = [(3, I64 ↑s_1), (0, STR s)] ∧ j_1 = ext j []) n (ext j []) fr (ext j []) := by
    intro fr n hn hc hfr
    refine JNEXT.of (k + 1) ⟨by omega, by rw [hd1, ← hI, hc]; simp⟩ (by omega) ?_ (JDropH.refl _)
    exact hfr
   have fls : (letB b || !decide (k = 0) && (digI ↑b.toNat || decide ((b.toNat : Int) = 95))) = false → @JFIN (ext j []) (ext j []) (AV.v (Value.bool false)) ⟨fun y j' => RET (BOO (word (bs s))) j (.ret y) j'⟩ := by
    intro hc
    refine JFIN.rb ?_
    rw [hc, Bool.false_and] at hI
    unfold word; rw [← hI]; exact SubB.v
   repeat' ((first | refine wq.intro (fun _ => ?_) (fun _ => ?_) | refine ww.intro (fun _ => ?_) (fun _ => ?_) | refine wc.intro (by first | omega | (unfold R64; omega) | trivial) ?_ | refine wr.in (by unfold R64; omega) ?_) <;> first | contradiction | (try simp only[↓jr,jw,seval]))
   ·refine nxt rfl (by unfold letB; simp [*]) ?_
    ((try simp only[↓jr,jw,seval,DL]) <;> exact sbq)
   ·exact fls (by unfold letB; simp [*]; omega)
   ·(try simp only[↓jr,jw,seval,hb])
    refine JCs.ret (s_digit _ _) ?_
    (try simp only[↓jr,jw,seval])
    repeat' ((first | refine wq.intro (fun _ => ?_) (fun _ => ?_) | refine ww.intro (fun _ => ?_) (fun _ => ?_) | refine wc.intro (by first | omega | (unfold R64; omega) | trivial) ?_ | refine wr.in (by unfold R64; omega) ?_) <;> first | contradiction | (try simp only[↓jr,jw,seval]))
    ·refine nxt rfl (by unfold letB; simp [*]; omega) ?_
     ((try simp only[↓jr,jw,seval,DL]) <;> exact sbq)
    ·(try simp only[↓jr,jw,seval,hb])
     repeat' ((first | refine wq.intro (fun _ => ?_) (fun _ => ?_) | refine ww.intro (fun _ => ?_) (fun _ => ?_) | refine wc.intro (by first | omega | (unfold R64; omega) | trivial) ?_ | refine wr.in (by unfold R64; omega) ?_) <;> first | contradiction | (try simp only[↓jr,jw,seval]))
     ·refine nxt rfl (by unfold letB; simp [*]; omega) ?_
      ((try simp only[↓jr,jw,seval,DL]) <;> exact sbq)
     ·exact fls (by unfold letB; simp [*])
  ·(try simp only[↓jr,jw,seval])
   rw [List.drop_eq_nil_of_le (by omega)] at hI
   simp only [wordF] at hI
   refine JFIN.rb ?_
   have e : word (bs s) = !decide (s = ⟨#[]⟩) := by
    unfold word
    rw [← hI, Bool.true_and]
    congr 1
    rw [Bool.eq_iff_iff]
    simp only [List.isEmpty_iff, decide_eq_true_eq]
    constructor
    ·intro h
     have : s.size = 0 := by rw [← bs_len, h]; rfl
     exact ByteArray.ext (Array.eq_empty_of_size_eq_zero this)
    ·rintro rfl; rfl
   rw [e]; exact SubB.v
end
end Go.Proofs.YtcjlpklgnknpgaaGreatDoor.Pg
