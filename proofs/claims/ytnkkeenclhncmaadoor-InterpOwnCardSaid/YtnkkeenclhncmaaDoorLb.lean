/-
  Concepts: validity, as the reference tells it.
-/
import Derived.Test.YtnkkeenclhncmaaDoorLa
import Derived.Test.YtnkkeenclhncmaaDoorPgM
import Derived.Test.YtnkkeenclhncmaaDoorShelf
set_option linter.unusedVariables false
set_option linter.unusedSimpArgs false
set_option maxRecDepth 20000
set_option maxHeartbeats 8000000
namespace Go.Proofs.YtnkkeenclhncmaaDoor.Pg
open Go
section
variable {G : Nat → Option (List AV)}
def arity (op : Int) : Int := if op = 0 ∨ op = 1 ∨ op = 2 then 0 else if op = 3 ∨ op = 6 ∨ op = 7 then 1 else if op = 4 ∨ op = 5 then 2 else -1
def quant (op : Int) : Bool := decide (op = 6) || decide (op = 7)
mutual
def shaped (nc nr : Nat) : Con → Bool
  | .mk op n l => decide (arity op = l.length) && decide (0 ≤ n) && (if op = 0 then decide (n < nc) else if quant op then decide (n < 2 * nr) else decide (n = 0)) && shapedL nc nr l
def shapedL (nc nr : Nat) : List Con → Bool
  | [] => true
  | c :: l => shaped nc nr c && shapedL nc nr l
end
def conOK (m : Nms) (c : Con) : Bool := decide (c.nodes ≤ 400) && decide (c.depth ≤ 20) && shaped m.cs.length m.rs.length c
def Nms.ok (m : Nms) : Prop := m.cs.length < 4611686018427387904 ∧ m.rs.length < 4611686018427387904 ∧ m.is.length < 4611686018427387904

def SH (nc nr : Nat) (op n : Int) (k : Nat) : Prop := arity op = k ∧ 0 ≤ n ∧ (op = 0 → n < nc) ∧ (op ≠ 0 → quant op = true → n < 2 * nr) ∧ (op ≠ 0 → quant op = false → n = 0)
theorem shaped_mk {nc nr : Nat} {op n : Int} {l : List Con} : (shaped nc nr (.mk op n l) = true) = (SH nc nr op n l.length ∧ shapedL nc nr l = true) := by
  simp only [shaped, SH, Bool.and_eq_true, decide_eq_true_eq]
  by_cases h0 : op = 0
  · simp [h0]; omega
  · by_cases hq : quant op = true
    · simp [h0, hq]; omega
    · simp only [Bool.not_eq_true] at hq; simp [h0, hq]; omega
theorem shaped_t {nc nr : Nat} {op n : Int} {l : List Con} (h : SH nc nr op n l.length) : shaped nc nr (.mk op n l) = shapedL nc nr l := by
  rw [Bool.eq_iff_iff, shaped_mk]; exact ⟨fun q => q.2, fun q => ⟨h, q⟩⟩
end

/-! ### Names: words, reserved words, valid names, as both packages tell them. -/
section
variable {G : Nat → Option (List AV)}
def lttI (x : Int) : Bool := decide (97 ≤ x) && decide (x ≤ 122) || decide (65 ≤ x) && decide (x ≤ 90)
def digI (x : Int) : Bool := decide (48 ≤ x) && decide (x ≤ 57)
def letB (b : UInt8) : Bool := lttI b.toNat
def witB (b : UInt8) : Bool := lttI b.toNat || digI b.toNat || decide ((b.toNat : Int) = 95)
def ir90 : IFn := ⟨17, [⟨2, none⟩], (.seq (.reg [oA 2 (.mov (kB false))]) (.seq (.reg [oA 3 (kM 0), oA 4 (.bin .geq (.r 3) (.k (.v (.int .u8 97)))), oA 5 (kM 4), ⟨(some 6), (some ((5, true))), none, (kM 0)⟩, ⟨(some 7), (some ((5, true))), none, (.bin .leq (.r 6) (.k (.v (.int .u8 122))))⟩, oA 8 (.pick (.r 5) (.r 7) (kB false)), oA 9 (kM 8), ⟨(some 10), (some ((9, false))), none, (kM 0)⟩, ⟨(some 11), (some ((9, false))), none, (.bin .geq (.r 10) (.k (.v (.int .u8 65))))⟩, ⟨(some 12), (some ((9, false))), none, (kM 11)⟩, ⟨(some 13), (some ((12, true))), none, (kM 0)⟩, ⟨(some 14), (some ((12, true))), none, (.bin .leq (.r 13) (.k (.v (.int .u8 90))))⟩, ⟨(some 15), (some ((9, false))), none, (.pick (.r 12) (.r 14) (kB false))⟩, oA 16 (.pick (.r 9) (kB true) (.r 15)), oA 2 (kM 16)]) .ret))⟩
theorem c90 : cfunc Tryd.prog 90 = some ir90 := by kernel_rfl
theorem k90 : okIR (max 1 ir90.n) ir90.ir = true := by decide +kernel
theorem s_letter (x : Int) (j : JH) : JC Tryd.prog G 90 [U8 x] j (RET (BOO (lttI x)) j) := by
  refine JC.run hmix c90 (by exact k90) ?_
  (try simp only[↓jr,jw,seval,ir90])
  repeat' ((first | refine wq.intro (fun _ => ?_) (fun _ => ?_) | refine ww.intro (fun _ => ?_) (fun _ => ?_) | refine wc.intro (by first | omega | (unfold R64; omega) | trivial) ?_ | refine wr.in (by unfold R64; omega) ?_) <;> first | contradiction | (try simp only[↓jr,jw,seval]))
  all_goals
    refine JFIN.rb ?_
    simp only [lttI, *, decide_true, Bool.true_and, Bool.true_or, decide_false, Bool.false_and, Bool.false_or, Bool.or_true, Bool.and_true, Bool.and_false, Bool.or_false]
    exact SubB.v
def ir92 : IFn := ⟨17, [⟨2, none⟩], (.seq (.reg [oA 2 (.mov (kB false))]) (.seq (.reg [oA 3 (kM 0), oT 4 3 (.call 90 [.r 3]), oA 5 (kM 4), ⟨(some 6), (some ((5, false))), none, (kM 0)⟩, ⟨(some 7), (some ((5, false))), none, (.bin .geq (.r 6) (.k (.v (.int .u8 48))))⟩, ⟨(some 8), (some ((5, false))), none, (kM 7)⟩, ⟨(some 9), (some ((8, true))), none, (kM 0)⟩, ⟨(some 10), (some ((8, true))), none, (.bin .leq (.r 9) (.k (.v (.int .u8 57))))⟩, ⟨(some 11), (some ((5, false))), none, (.pick (.r 8) (.r 10) (kB false))⟩, oA 12 (.pick (.r 5) (kB true) (.r 11)), oA 13 (kM 12), ⟨(some 14), (some ((13, false))), none, (kM 0)⟩, ⟨(some 15), (some ((13, false))), none, (.bin .eql (.r 14) (.k (.v (.int .u8 95))))⟩, oA 16 (.pick (.r 13) (kB true) (.r 15)), oA 2 (kM 16)]) .ret))⟩
theorem c92 : cfunc Tryd.prog 92 = some ir92 := by kernel_rfl
theorem k92 : okIR (max 1 ir92.n) ir92.ir = true := by decide +kernel
theorem s_within (x : Int) (j : JH) : JC Tryd.prog G 92 [U8 x] j (RET (BOO (lttI x || digI x || decide (x = 95))) j) := by
  refine JC.run hmix c92 (by exact k92) ?_
  (try simp only[↓jr,jw,seval,ir92])
  refine JCs.ret (s_letter _ _) ?_
  (try simp only[↓jr,jw,seval])
  repeat' ((first | refine wq.intro (fun _ => ?_) (fun _ => ?_) | refine ww.intro (fun _ => ?_) (fun _ => ?_) | refine wc.intro (by first | omega | (unfold R64; omega) | trivial) ?_ | refine wr.in (by unfold R64; omega) ?_) <;> first | contradiction | (try simp only[↓jr,jw,seval]))
  all_goals
    refine JFIN.rb ?_
    simp only [digI, *, decide_true, Bool.true_and, Bool.true_or, decide_false, Bool.false_and, Bool.false_or, Bool.or_true, Bool.and_true, Bool.and_false, Bool.or_false]
    exact SubB.v
def wordF : Bool → List UInt8 → Bool
  | _, [] => true
  | f, b :: l => (letB b || !f && (digI b.toNat || decide ((b.toNat : Int) = 95))) && wordF false l
def word (l : List UInt8) : Bool := wordF true l && !l.isEmpty
end
end Go.Proofs.YtnkkeenclhncmaaDoor.Pg
