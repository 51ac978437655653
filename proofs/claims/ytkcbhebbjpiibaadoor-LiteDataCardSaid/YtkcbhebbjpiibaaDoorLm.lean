/-
  Basic concepts and right sides, in the reference and in the program.
-/
import Derived.Test.YtkcbhebbjpiibaaDoorLl
set_option linter.unusedVariables false
set_option linter.unusedSimpArgs false
set_option maxRecDepth 20000
set_option maxHeartbeats 8000000
namespace Go.Proofs.YtkcbhebbjpiibaaDoor.Pg
open Go
section
section
variable {m : Int} {G : Nat → Option (List AV)}
def basC : Con → Bool
  | .mk op _ (a :: _) => decide (op = 0) || (decide (op = 6) && decide (a.op = 1))
  | .mk op _ [] => decide (op = 0)
def basN : Con → Int
  | .mk op n _ => if op = 0 then n else 16 + n
/-- The right side of an inclusion, or not one. -/
def supC (c : Con) : Bool := decide (c.op = 2) || (match c with
  | .mk op _ (a :: _) => if op = 3 then basC a else basC c
  | _ => basC c)
theorem basC_op {c : Con} (h : basC c = true) : c.op = 0 ∨ c.op = 6 := by
  obtain ⟨op, n, l⟩ := c
  cases l <;> simp [basC] at h <;> simp only [Con.op] <;> omega
def Con.hd (c : Con) : Prop := (c.op = 6 → c.args ≠ []) ∧ (c.op = 3 → c.args ≠ [])
def Con.hd2 (c : Con) : Prop := c.hd ∧ ∀ a ∈ c.args, a.hd
theorem shaped_hd {nc nr : Nat} {c : Con} (h : shaped nc nr c = true) : c.hd := by
  obtain ⟨op, n, l⟩ := c
  rw [shaped_mk] at h
  obtain ⟨⟨h1, _⟩, _⟩ := h
  constructor <;> · intro e; simp only [Con.op] at e; subst e; intro q; simp only [Con.args] at q; subst q; simp [arity] at h1
theorem shapedL_mem {nc nr : Nat} : ∀ {l : List Con} {c : Con}, shapedL nc nr l = true → c ∈ l → shaped nc nr c = true
  | d :: l, c, h, hc => by
    simp only [shapedL, Bool.and_eq_true] at h
    rcases List.mem_cons.1 hc with rfl | hc
    · exact h.1
    · exact shapedL_mem h.2 hc
theorem shaped_hd2 {nc nr : Nat} {c : Con} (h : shaped nc nr c = true) : c.hd2 := by
  refine ⟨shaped_hd h, fun a ha => ?_⟩
  obtain ⟨op, n, l⟩ := c
  rw [shaped_mk] at h
  exact shaped_hd (shapedL_mem h.2 ha)
def ir24 : IFn := ⟨19, [⟨2, none⟩], (.seq (.reg [oA 1 (.box 43 (.r 0)), oA 2 (.mov (kB false))]) (.seq (.reg [oA 3 (.fadr 0 (.r 1)), oL 4 3 none, oA 5 (.bin .eql (.r 4) (kI 0)), oA 6 (kM 5), ⟨(some 7), (some ((6, false))), none, (.fadr 0 (.r 1))⟩, ⟨(some 8), (some ((6, false))), (some (.r 7)), (.load none (.r 7))⟩, ⟨(some 9), (some ((6, false))), none, (.bin .eql (.r 8) (kI 6))⟩, ⟨(some 10), (some ((6, false))), none, (kM 9)⟩, ⟨(some 11), (some ((10, true))), none, (.fadr 2 (.r 1))⟩, ⟨(some 12), (some ((10, true))), (some (.r 11)), (.load none (.r 11))⟩, ⟨(some 13), (some ((10, true))), none, (.iasl 3 (.r 12) (kI 0))⟩, ⟨(some 14), (some ((10, true))), none, (.fadr 0 (.r 13))⟩, ⟨(some 15), (some ((10, true))), (some (.r 14)), (.load none (.r 14))⟩, ⟨(some 16), (some ((10, true))), none, (.bin .eql (.r 15) (kI 1))⟩, ⟨(some 17), (some ((6, false))), none, (.pick (.r 10) (.r 16) (kB false))⟩, oA 18 (.pick (.r 6) (kB true) (.r 17)), oA 2 (kM 18)]) .ret))⟩
theorem c24 : cfunc Tryd.prog 24 = some ir24 := by kernel_rfl
theorem k24 : okIR (max 1 ir24.n) ir24.ir = true := by decide +kernel
theorem s_RBasic (c : Con) (hc : c.hd) (j : JH) : JC Tryd.prog G 24 [.agg c.enc] j (RET (BOO (basC c)) j) := by
  obtain ⟨op, n, args⟩ := c
  obtain ⟨h6, -⟩ := hc
  simp only [Con.op, Con.args] at h6
  cases args with
  | nil =>
    refine JC.run hmix c24 (by exact k24) ?_
    (try simp only[↓jr,jw,seval,ir24])
    repeat' ((first | refine wq.intro (fun _ => ?_) (fun _ => ?_) | refine ww.intro (fun _ => ?_) (fun _ => ?_) | refine wc.intro (by first | omega | (unfold R64; omega) | trivial) ?_ | refine wr.in (by unfold R64; omega) ?_) <;> first | contradiction | (try simp only[↓jr,jw,seval]))
    all_goals first
      | (exfalso; first | (exact h6 (by assumption) rfl) | omega)
      | (refine JFIN.rb ?_; simp only [basC]; simp only [*, decide_true, decide_false]; exact SubB.v)
  | cons a l =>
    refine JC.run hmix c24 (by exact k24) ?_
    (try simp only[↓jr,jw,seval,ir24])
    repeat' ((first | refine wq.intro (fun _ => ?_) (fun _ => ?_) | refine ww.intro (fun _ => ?_) (fun _ => ?_) | refine wc.intro (by first | omega | (unfold R64; omega) | trivial) ?_ | refine wr.in (by unfold R64; omega) ?_) <;> first | contradiction | (try simp only[↓jr,jw,seval]))
    all_goals first
      | (refine JFIN.rb ?_; simp only [basC]; simp [*]; done)
      | (refine JFIN.rb ?_; simp only [basC]; simp only [*, decide_true, decide_false, Bool.true_or, Bool.false_or, Bool.true_and, Bool.false_and, Bool.or_true]; exact SubB.v)
def ir49 : IFn := ⟨22, [⟨2, none⟩], (.seq (.reg [oA 1 (.box 43 (.r 0)), oA 2 (.mov (kB false))]) (.seq (.reg [oL 3 1 (some 3), oT 4 3 (.call 24 [.r 3]), oA 5 (kM 4), ⟨(some 6), (some ((5, false))), none, (.fadr 0 (.r 1))⟩, ⟨(some 7), (some ((5, false))), (some (.r 6)), (.load none (.r 6))⟩, ⟨(some 8), (some ((5, false))), none, (.bin .eql (.r 7) (kI 2))⟩, oA 9 (.pick (.r 5) (kB true) (.r 8)), oA 10 (kM 9), ⟨(some 11), (some ((10, false))), none, (.fadr 0 (.r 1))⟩, ⟨(some 12), (some ((10, false))), (some (.r 11)), (.load none (.r 11))⟩, ⟨(some 13), (some ((10, false))), none, (.bin .eql (.r 12) (kI 3))⟩, ⟨(some 14), (some ((10, false))), none, (kM 13)⟩, ⟨(some 15), (some ((14, true))), none, (.fadr 2 (.r 1))⟩, ⟨(some 16), (some ((14, true))), (some (.r 15)), (.load none (.r 15))⟩, ⟨(some 17), (some ((14, true))), none, (.iasl 3 (.r 16) (kI 0))⟩, ⟨(some 18), (some ((14, true))), (some (.r 17)), (.load (some 3) (.r 17))⟩, ⟨(some 19), (some ((14, true))), (some (.r 18)), (.call 24 [.r 18])⟩, ⟨(some 20), (some ((10, false))), none, (.pick (.r 14) (.r 19) (kB false))⟩, oA 21 (.pick (.r 10) (kB true) (.r 20)), oA 2 (kM 21)]) .ret))⟩
theorem c49 : cfunc Tryd.prog 49 = some ir49 := by kernel_rfl
theorem k49 : okIR (max 1 ir49.n) ir49.ir = true := by decide +kernel
theorem s_Super (c : Con) (hc : c.hd2) (j : JH) : JC Tryd.prog G 49 [.agg c.enc] j (RET (BOO (supC c)) j) := by
  obtain ⟨op, n, args⟩ := c
  obtain ⟨h1, h2⟩ := hc
  have h3 := h1.2
  simp only [Con.op, Con.args] at h3 h2
  cases args with
  | nil =>
    refine JC.run hmix c49 (by exact k49) ?_
    (try simp only[↓jr,jw,seval,ir49])
    refine JCs.ret (s_RBasic (.mk op n []) h1 _) ?_
    (try simp only[↓jr,jw,seval])
    repeat' ((first | refine wq.intro (fun _ => ?_) (fun _ => ?_) | refine ww.intro (fun _ => ?_) (fun _ => ?_) | refine wc.intro (by first | omega | (unfold R64; omega) | trivial) ?_ | refine wr.in (by unfold R64; omega) ?_) <;> first | contradiction | (try simp only[↓jr,jw,seval]))
    all_goals first
      | (exfalso; first | (exact h3 (by assumption) rfl) | omega)
      | (refine JFIN.rb ?_; simp only [supC, Con.op]; simp [*]; done)
      | (refine JFIN.rb ?_; simp only [supC, Con.op]; simp only [*, decide_true, decide_false, Bool.true_or, Bool.false_or, Bool.or_true, if_true, if_false]; exact SubB.v)
  | cons a l =>
    refine JC.run hmix c49 (by exact k49) ?_
    (try simp only[↓jr,jw,seval,ir49])
    refine JCs.ret (s_RBasic (.mk op n (a :: l)) h1 _) ?_
    (try simp only[↓jr,jw,seval])
    repeat' ((first | refine wq.intro (fun _ => ?_) (fun _ => ?_) | refine ww.intro (fun _ => ?_) (fun _ => ?_) | refine wc.intro (by first | omega | (unfold R64; omega) | trivial) ?_ | refine wr.in (by unfold R64; omega) ?_ | refine JCs.ret (s_RBasic a (h2 a (by simp)) _) ?_ | refine JDC.use (s_RBasic a (h2 a (by simp)) _) ?_ | (refine JDRAW.oc (by (try simp only[↓jr,jw,seval,jq]) <;> exact orq) ?_; (try simp only[↓jr,jw,seval]))) <;> first | contradiction | (try simp only[↓jr,jw,seval]))
    case cons.refine_1 hb => refine JFIN.rb ?_; have n3 : op ≠ 3 := by rcases basC_op hb with q | q <;> simp only [Con.op] at q <;> omega
                             simp only [supC, Con.op, if_neg n3, hb, Bool.or_true]; exact SubB.v
    all_goals first
      | (refine JFIN.rb ?_; simp only [supC, Con.op]; simp [*]; done)
      | (refine JFIN.rb ?_; simp only [supC, Con.op]; simp only [*, decide_true, decide_false, Bool.true_or, Bool.false_or, Bool.or_true, if_true, if_false]; exact SubB.v)
def fitR (b : Bas) : Bool := b.incls.all (fun x => basC x.sub && supC x.sup) && b.facts.all (fun x => decide (x.con.op = 0))
def Bas.hds (b : Bas) : Prop := ∀ x ∈ b.incls, x.sub.hd2 ∧ x.sup.hd2
def ir22 : IFn := ⟨37, [⟨2, none⟩], (.seq (.reg [oA 1 (.box 30 (.r 0)), oA 2 (.mov (kB false))]) (.seq (.seq (.reg [oA 7 (.fadr 3 (.r 1)), oL 8 7 none, oT 9 8 (.lenl (.r 8)), oA 10 (.mov (kI 0))]) (.block 0 (.loop (.seq (.reg [oA 11 (.bin .lss (.r 10) (.r 9))]) (.seq (.cond (.r 11) .skip (.exit 0)) (.seq (.block 1 (.seq (.reg [oA 12 (.iasl 6 (.r 8) (.r 10)), oL 13 12 (some 6), oA 4 (.alloc 89 [.v (.int .i64 0), .v (.int .i64 0), .sl .nil 0 [], .v (.int .i64 0), .v (.int .i64 0), .sl .nil 0 []]), oN (.store 6 (.r 4) (.r 13))]) (.seq (.reg [oA 14 (.fadr 0 (.r 4)), oL 15 14 (some 3), oT 16 15 (.call 24 [.r 15]), oA 17 (.not (.r 16)), oA 18 (kM 17), ⟨(some 19), (some ((18, false))), none, (.fadr 3 (.r 4))⟩, ⟨(some 20), (some ((18, false))), (some (.r 19)), (.load (some 3) (.r 19))⟩, ⟨(some 21), (some ((18, false))), (some (.r 20)), (.call 49 [.r 20])⟩, ⟨(some 22), (some ((18, false))), none, (.not (.r 21))⟩, oA 23 (.pick (.r 18) (kB true) (.r 22))]) (.cond (.r 23) (.seq (.reg [oA 2 (.mov (kB false))]) .ret) .skip)))) (.reg [oA 24 (.bin .add (.r 10) (kI 1)), oA 10 (kM 24)]))))))) (.seq (.seq (.reg [oA 25 (.fadr 5 (.r 1)), oL 26 25 none, oT 27 26 (.lenl (.r 26)), oA 28 (.mov (kI 0))]) (.block 2 (.loop (.seq (.reg [oA 29 (.bin .lss (.r 28) (.r 27))]) (.seq (.cond (.r 29) .skip (.exit 2)) (.seq (.block 3 (.seq (.reg [oA 30 (.iasl 4 (.r 26) (.r 28)), oL 31 30 (some 4), oA 6 (.alloc 92 [.v (.int .i64 0), .v (.int .i64 0), .v (.int .i64 0), .sl .nil 0 []]), oN (.store 4 (.r 6) (.r 31))]) (.seq (.reg [oA 32 (.fadr 1 (.r 6)), oA 33 (.fadr 0 (.r 32)), oL 34 33 none, oA 35 (.bin .neq (.r 34) (kI 0))]) (.cond (.r 35) (.seq (.reg [oA 2 (.mov (kB false))]) .ret) .skip)))) (.reg [oA 36 (.bin .add (.r 28) (kI 1)), oA 28 (kM 36)]))))))) (.seq (.reg [oA 2 (.mov (kB true))]) .ret))))⟩
theorem c22 : cfunc Tryd.prog 22 = some ir22 := by kernel_rfl
theorem k22 : okIR (max 1 ir22.n) ir22.ir = true := by decide +kernel
theorem s_RFits (b : Bas) (hb : b.ok) (hh : b.hds) (j : JH) : JC Tryd.prog G 22 [.agg b.enc] j (RET (BOO (fitR b)) j) := by
  have fls : ∀ {l : List AObj}, fitR b = false → @JFIN (ext j []) (ext j l) (.v (.bool false)) ⟨fun y j' => RET (BOO (fitR b)) j (.ret y) j'⟩ := by
    intro l h
    refine JFIN.rb ?_
    rw [h]; exact SubB.v
  have l1 := hb.li
  have l3 := hb.lf
  refine JC.run hmix c22 (by exact k22) ?_
  (try simp only[↓jr,jw,seval,ir22])
  refine JLOOP.of (σ := Nat) (fun s => s ≤ (b.incls).length ∧ (b.incls.drop s).all (fun x => basC x.sub && supC x.sup) = b.incls.all (fun x => basC x.sub && supC x.sup)) (fun s => (b.incls).length - s) (fun s => [(10, I64 s), (9, I64 b.incls.length), (8, .sl .none b.incls.length (encs Inc.enc b.incls)), (1, .ptr (pid j.next 0) 0)]) (fun s => ext j [.cells 30 b.enc]) 0 ⟨Nat.zero_le _, ?_⟩ ?_ (JDropH.refl _) ?_
  · rfl
  · ((try simp only[↓jr,jw,seval,DL]) <;> exact sbq)
  rintro k ⟨hk, hI⟩
  try simp only at hk hI
  (try simp only[↓jr,jw,seval])
  refine wq.intro (fun h1 => ?_) (fun h1 => ?_)
  · have hlt : k < (b.incls).length := by omega
    obtain ⟨x, r, hd⟩ : ∃ c_ l_, List.drop k (b.incls) = c_ :: l_ := ⟨_, _, List.drop_eq_getElem_cons hlt⟩
    have hd1 : List.drop (k + 1) (b.incls) = r := by rw [← List.drop_drop, hd]; rfl
    have hmem : x ∈ b.incls := List.mem_of_mem_drop (hd ▸ List.mem_cons_self)
    (try simp only[↓jr,jw,seval,hd])
    refine wc.intro (by omega) ?_
    (try simp only[↓jr,jw,seval,hd])
    rw [hd] at hI
    rw [List.all_cons] at hI
    have hx := hh x hmem
    refine JCs.ret (s_RBasic x.sub hx.1.1 _) ?_
    (try simp only[↓jr,jw,seval])
    refine ww.intro (fun c1 => ?_) (fun c1 => by (try simp only[↓jr,jw,seval]); exact fls (by unfold fitR; rw [← hI, c1]; rfl))
    (try simp only[↓jr,jw,seval])
    refine JCs.ret (s_Super x.sup hx.2 _) ?_
    (try simp only[↓jr,jw,seval])
    refine ww.intro (fun c2 => ?_) (fun c2 => by (try simp only[↓jr,jw,seval]); exact fls (by unfold fitR; rw [← hI, c1, c2]; rfl))
    (try simp only[↓jr,jw,seval])
    rw [c1, c2] at hI
    refine wc.intro (R64_add hlt (by omega)) ?_; (try simp only[↓jr,jw,seval])
    refine JNEXT.of (k + 1) ⟨by omega, by rw [hd1]; exact hI⟩ (by omega) ?_ JDropH.nx
    ((try simp only[↓jr,jw,seval,DL]) <;> exact sbq)
  (try simp only[↓jr,jw,seval])
  rw [List.drop_eq_nil_of_le (by omega), List.all_nil] at hI
  have hB : fitR b = b.facts.all (fun x => decide (x.con.op = 0)) := by unfold fitR; rw [← hI]; rfl
  clear hI h1 hk
  refine JLOOP.of (σ := Nat) (fun s => s ≤ (b.facts).length ∧ (b.facts.drop s).all (fun x => decide (x.con.op = 0)) = b.facts.all (fun x => decide (x.con.op = 0))) (fun s => (b.facts).length - s) (fun s => [(28, I64 s), (27, I64 b.facts.length), (26, .sl .none b.facts.length (encs Fac.enc b.facts)), (1, .ptr (pid j.next 0) 0)]) (fun s => ext j [.cells 30 b.enc]) 0 ⟨Nat.zero_le _, ?_⟩ ?_ (JDropH.refl _) ?_
  · rfl
  · ((try simp only[↓jr,jw,seval,DL]) <;> exact sbq)
  rintro k ⟨hk, hI⟩
  try simp only at hk hI
  (try simp only[↓jr,jw,seval])
  refine wq.intro (fun h1 => ?_) (fun h1 => ?_)
  · have hlt : k < (b.facts).length := by omega
    obtain ⟨x, r, hd⟩ : ∃ c_ l_, List.drop k (b.facts) = c_ :: l_ := ⟨_, _, List.drop_eq_getElem_cons hlt⟩
    have hd1 : List.drop (k + 1) (b.facts) = r := by rw [← List.drop_drop, hd]; rfl
    have hmem : x ∈ b.facts := List.mem_of_mem_drop (hd ▸ List.mem_cons_self)
    (try simp only[↓jr,jw,seval,hd])
    refine wc.intro (by omega) ?_
    (try simp only[↓jr,jw,seval,hd])
    rw [hd] at hI
    rw [List.all_cons] at hI
    refine wq.intro (fun c1 => ?_) (fun c1 => ?_)
    · (try simp only[↓jr,jw,seval])
      rw [decide_eq_true c1] at hI
      refine wc.intro (R64_add hlt (by omega)) ?_; (try simp only[↓jr,jw,seval])
      refine JNEXT.of (k + 1) ⟨by omega, by rw [hd1]; exact hI⟩ (by omega) ?_ JDropH.nx
      ((try simp only[↓jr,jw,seval,DL]) <;> exact sbq)
    · (try simp only[↓jr,jw,seval])
      exact fls (by rw [hB, ← hI, decide_eq_false c1]; rfl)
  (try simp only[↓jr,jw,seval])
  rw [List.drop_eq_nil_of_le (by omega), List.all_nil] at hI
  refine JFIN.rb ?_
  rw [hB, ← hI]; exact SubB.v
end

/-! ### Basic concepts and right sides, in the program; the errors of a knowledge base. -/
section
variable {m : Int} {G : Nat → Option (List AV)}
def ir65 : IFn := ⟨5, [⟨2, none⟩], (.seq (.reg [oA 2 (.mov (kI 0))]) (.seq (.reg [oA 3 (kM 0), oA 4 (.bin .add (kI 16) (.r 3)), oA 2 (kM 4)]) .ret))⟩
theorem c65 : cfunc Tryd.prog 65 = some ir65 := by kernel_rfl
theorem k65 : okIR (max 1 ir65.n) ir65.ir = true := by decide +kernel
theorem s_some (r : Int) (h : R64 (16 + r)) (j : JH) : JC Tryd.prog G 65 [I64 r] j (RET (I64 (16 + r)) j) := by
  refine JC.run hmix c65 (by exact k65) ?_
  (try simp only[↓jr,jw,seval,ir65])
  refine wc.intro h ?_
  (try simp only[↓jr,jw,seval])
  refine JFIN.rb ?_
  exact SubB.v
/-- The number of a basic concept, and 0 of others. -/
def numC (c : Con) : Int := if basC c then basN c else 0
def Con.r16 (c : Con) : Prop := R64 (16 + c.n)
def ir55 : IFn := ⟨25, [⟨2, none⟩, ⟨3, none⟩], (.seq (.reg [oA 1 (.box 43 (.r 0)), oA 2 (.mov (kI 0)), oA 3 (.mov (kB false))]) (.seq (.block 0 (.seq (.reg [oA 5 (.fadr 0 (.r 1)), oL 6 5 none, oA 7 (.bin .eql (.r 6) (kI 0)), oA 4 (kM 7)]) (.cond (.r 4) (.seq (.reg [oA 8 (.fadr 1 (.r 1)), oL 9 8 none, oA 2 (kM 9), oA 3 (.mov (kB true))]) .ret) (.seq (.reg [oA 11 (.fadr 0 (.r 1)), oL 12 11 none, oA 13 (.bin .eql (.r 12) (kI 6)), oA 14 (kM 13), ⟨(some 15), (some ((14, true))), none, (.fadr 2 (.r 1))⟩, ⟨(some 16), (some ((14, true))), (some (.r 15)), (.load none (.r 15))⟩, ⟨(some 17), (some ((14, true))), none, (.iasl 3 (.r 16) (kI 0))⟩, ⟨(some 18), (some ((14, true))), none, (.fadr 0 (.r 17))⟩, ⟨(some 19), (some ((14, true))), (some (.r 18)), (.load none (.r 18))⟩, ⟨(some 20), (some ((14, true))), none, (.bin .eql (.r 19) (kI 1))⟩, oA 21 (.pick (.r 14) (.r 20) (kB false)), oA 10 (kM 21)]) (.cond (.r 10) (.seq (.reg [oA 22 (.fadr 1 (.r 1)), oL 23 22 none, oT 24 23 (.call 65 [.r 23]), oA 2 (kM 24), oA 3 (.mov (kB true))]) .ret) .skip))))) (.seq (.reg [oA 2 (.mov (kI 0)), oA 3 (.mov (kB false))]) .ret)))⟩
theorem c55 : cfunc Tryd.prog 55 = some ir55 := by kernel_rfl
theorem k55 : okIR (max 1 ir55.n) ir55.ir = true := by decide +kernel
theorem s_of (c : Con) (hc : c.hd) (hr : c.r16) (j : JH) : JC Tryd.prog G 55 [.agg c.enc] j (RET (.tup [I64 (numC c), BOO (basC c)]) j) := by
  obtain ⟨op, n, args⟩ := c
  obtain ⟨h6, -⟩ := hc
  simp only [Con.op, Con.args] at h6
  simp only [Con.r16, Con.n] at hr
  cases args with
  | nil =>
    refine JC.run hmix c55 (by exact k55) ?_
    (try simp only[↓jr,jw,seval,ir55])
    repeat' ((first | refine wq.intro (fun _ => ?_) (fun _ => ?_) | refine ww.intro (fun _ => ?_) (fun _ => ?_) | refine wc.intro (by first | omega | (unfold R64; omega) | trivial) ?_ | refine wr.in (by unfold R64; omega) ?_ | refine JCs.ret (s_some n hr _) ?_ | refine JDC.use (s_some n hr _) ?_ | (refine JDRAW.oc (by (try simp only[↓jr,jw,seval,jq]) <;> exact orq) ?_; (try simp only[↓jr,jw,seval]))) <;> first | contradiction | (try simp only[↓jr,jw,seval]))
    all_goals first
      | (exfalso; first | (exact h6 (by assumption) rfl) | omega)
      | (refine JFIN.rb ?_; simp only [numC, basC, basN]; simp only [*, decide_true, decide_false, if_true, if_false, Bool.false_eq_true]; exact sbq)
  | cons a l =>
    refine JC.run hmix c55 (by exact k55) ?_
    (try simp only[↓jr,jw,seval,ir55])
    repeat' ((first | refine wq.intro (fun _ => ?_) (fun _ => ?_) | refine ww.intro (fun _ => ?_) (fun _ => ?_) | refine wc.intro (by first | omega | (unfold R64; omega) | trivial) ?_ | refine wr.in (by unfold R64; omega) ?_ | refine JCs.ret (s_some n hr _) ?_ | refine JDC.use (s_some n hr _) ?_ | (refine JDRAW.oc (by (try simp only[↓jr,jw,seval,jq]) <;> exact orq) ?_; (try simp only[↓jr,jw,seval]))) <;> first | contradiction | (try simp only[↓jr,jw,seval]))
    all_goals
      refine JFIN.rb ?_; simp only [numC, basC, basN]; simp only [*, decide_true, decide_false, Bool.true_or, Bool.false_or, Bool.true_and, Bool.false_and, Bool.or_true, if_true, if_false, Bool.false_eq_true]; exact sbq
/-- A right side: the number, whether it is negated, whether it is bottom. -/
def rhsC (c : Con) : Int × Bool × Bool :=
  if c.op = 2 then (0, false, true) else match c with
  | .mk op n (a :: l) => if op = 3 then (numC a, true, false) else (numC (.mk op n (a :: l)), false, false)
  | c => (numC c, false, false)
def Con.r162 (c : Con) : Prop := c.r16 ∧ ∀ a ∈ c.args, a.r16
abbrev SIDE (x : Int × Bool × Bool) : AV := .agg [I64 x.1, BOO x.2.1, BOO x.2.2]
def ir56 : IFn := ⟨28, [⟨2, (some (some 3))⟩, ⟨3, none⟩], (.seq (.reg [oA 1 (.box 43 (.r 0)), oA 2 (.alloc 101 [.v (.int .i64 0), .v (.bool false), .v (.bool false)]), oA 3 (.mov (kB false))]) (.seq (.seq (.reg [oA 7 (.fadr 0 (.r 1)), oL 8 7 none, oA 9 (.bin .eql (.r 8) (kI 2))]) (.cond (.r 9) (.seq (.reg [oA 10 (.build [.v (.int .i64 0), .v (.bool false), .v (.bool false)] [(2, (1, .k (.v (.bool true))))]), oN (.store 3 (.r 2) (.r 10)), oA 3 (.mov (kB true))]) .ret) .skip)) (.seq (.reg [oA 11 (.fadr 0 (.r 1)), oL 12 11 none, oA 13 (.bin .eql (.r 12) (kI 3)), oA 4 (kM 13)]) (.seq (.seq (.reg [oA 14 (kM 4)]) (.cond (.r 14) (.reg [oA 15 (.fadr 2 (.r 1)), oL 16 15 none, oA 17 (.iasl 3 (.r 16) (kI 0)), oL 18 17 (some 3), oN (.store 3 (.r 1) (.r 18))]) .skip)) (.seq (.reg [oL 20 1 (some 3), oT 21 20 (.call 55 [.r 20]), oA 19 (kM 21), oA 22 (.ext (.r 19) 0), oA 23 (.ext (.r 19) 1), oA 5 (kM 22), oA 6 (kM 23)]) (.seq (.reg [oA 24 (kM 5), oA 25 (kM 4), oA 26 (.build [.v (.int .i64 0), .v (.bool false), .v (.bool false)] [(0, (1, .r 24)), (1, (1, .r 25))]), oA 27 (kM 6), oN (.store 3 (.r 2) (.r 26)), oA 3 (kM 27)]) .ret))))))⟩
theorem c56 : cfunc Tryd.prog 56 = some ir56 := by kernel_rfl
theorem k56 : okIR (max 1 ir56.n) ir56.ir = true := by decide +kernel
theorem s_right (c : Con) (hc : c.hd2) (hr : c.r162) (j : JH) : JC Tryd.prog G 56 [.agg c.enc] j (RET (.tup [SIDE (rhsC c), BOO (supC c)]) j) := by
  obtain ⟨op, n, args⟩ := c
  obtain ⟨h1, h2⟩ := hc
  obtain ⟨r1, r2⟩ := hr
  have h3 := h1.2
  simp only [Con.op, Con.args] at h3 h2 r2
  cases args with
  | nil =>
    refine JC.run hmix c56 (by exact k56) ?_
    (try simp only[↓jr,jw,seval,ir56])
    repeat' ((first | refine wq.intro (fun _ => ?_) (fun _ => ?_) | refine ww.intro (fun _ => ?_) (fun _ => ?_) | refine wc.intro (by first | omega | (unfold R64; omega) | trivial) ?_ | refine wr.in (by unfold R64; omega) ?_ | refine JCs.ret (s_of (.mk op n []) h1 r1 _) ?_ | refine JDC.use (s_of (.mk op n []) h1 r1 _) ?_ | (refine JDRAW.oc (by (try simp only[↓jr,jw,seval,jq]) <;> exact orq) ?_; (try simp only[↓jr,jw,seval]))) <;> first | contradiction | (try simp only[↓jr,jw,seval]))
    all_goals first
      | (exfalso; first | (exact h3 (by assumption) rfl) | omega)
      | (refine JFIN.rb ?_; simp only [supC, rhsC, Con.op]; simp only [*, decide_true, decide_false, Bool.true_or, Bool.false_or, Bool.or_true, if_true, if_false]; exact sbq)
  | cons a l =>
    refine JC.run hmix c56 (by exact k56) ?_
    (try simp only[↓jr,jw,seval,ir56])
    repeat' ((first | refine wq.intro (fun _ => ?_) (fun _ => ?_) | refine ww.intro (fun _ => ?_) (fun _ => ?_) | refine wc.intro (by first | omega | (unfold R64; omega) | trivial) ?_ | refine wr.in (by unfold R64; omega) ?_ | refine JCs.ret (s_of (.mk op n (a :: l)) h1 r1 _) ?_ | refine JDC.use (s_of (.mk op n (a :: l)) h1 r1 _) ?_ | refine JCs.ret (s_of a (h2 a (by simp)) (r2 a (by simp)) _) ?_ | refine JDC.use (s_of a (h2 a (by simp)) (r2 a (by simp)) _) ?_ | (refine JDRAW.oc (by (try simp only[↓jr,jw,seval,jq]) <;> exact orq) ?_; (try simp only[↓jr,jw,seval]))) <;> first | contradiction | (try simp only[↓jr,jw,seval]))
    all_goals first
      | (refine JFIN.rb ?_; simp only [supC, rhsC, Con.op]; simp [*]; done)
      | (refine JFIN.rb ?_; simp only [supC, rhsC, Con.op]; simp only [*, decide_true, decide_false, Bool.true_or, Bool.false_or, Bool.or_true, if_true, if_false]; exact sbq)
def Bas.rs (b : Bas) : Prop := ∀ x ∈ b.incls, x.sub.r162 ∧ x.sup.r162
def ir57 : IFn := ⟨47, [⟨2, none⟩], (.seq (.reg [oA 1 (.box 30 (.r 0)), oA 2 (.mov (kB false))]) (.seq (.seq (.reg [oA 11 (.fadr 3 (.r 1)), oL 12 11 none, oT 13 12 (.lenl (.r 12)), oA 14 (.mov (kI 0))]) (.block 0 (.loop (.seq (.reg [oA 15 (.bin .lss (.r 14) (.r 13))]) (.seq (.cond (.r 15) .skip (.exit 0)) (.seq (.block 1 (.seq (.reg [oA 16 (.iasl 6 (.r 12) (.r 14)), oL 17 16 (some 6), oA 4 (.alloc 89 [.v (.int .i64 0), .v (.int .i64 0), .sl .nil 0 [], .v (.int .i64 0), .v (.int .i64 0), .sl .nil 0 []]), oN (.store 6 (.r 4) (.r 17))]) (.seq (.seq (.reg [oA 19 (.fadr 0 (.r 4)), oL 20 19 (some 3), oT 21 20 (.call 55 [.r 20]), oA 18 (kM 21), oA 22 (.ext (.r 18) 0), oA 23 (.ext (.r 18) 1), oA 5 (kM 22), oA 6 (kM 23)]) (.seq (.reg [oA 24 (kM 6), oA 25 (.not (.r 24))]) (.cond (.r 25) (.seq (.reg [oA 2 (.mov (kB false))]) .ret) .skip))) (.seq (.reg [oA 27 (.fadr 3 (.r 4)), oL 28 27 (some 3), oT 29 28 (.call 56 [.r 28]), oA 26 (kM 29), oA 30 (.ext (.r 26) 0), oA 31 (.ext (.r 26) 1), oA 7 (.alloc 101 [.v (.int .i64 0), .v (.bool false), .v (.bool false)]), oN (.store 3 (.r 7) (.r 30)), oA 8 (kM 31)]) (.seq (.reg [oA 32 (kM 8), oA 33 (.not (.r 32))]) (.cond (.r 33) (.seq (.reg [oA 2 (.mov (kB false))]) .ret) .skip)))))) (.reg [oA 34 (.bin .add (.r 14) (kI 1)), oA 14 (kM 34)]))))))) (.seq (.seq (.reg [oA 35 (.fadr 5 (.r 1)), oL 36 35 none, oT 37 36 (.lenl (.r 36)), oA 38 (.mov (kI 0))]) (.block 2 (.loop (.seq (.reg [oA 39 (.bin .lss (.r 38) (.r 37))]) (.seq (.cond (.r 39) .skip (.exit 2)) (.seq (.block 3 (.seq (.reg [oA 40 (.iasl 4 (.r 36) (.r 38)), oL 41 40 (some 4), oA 10 (.alloc 92 [.v (.int .i64 0), .v (.int .i64 0), .v (.int .i64 0), .sl .nil 0 []]), oN (.store 4 (.r 10) (.r 41))]) (.seq (.reg [oA 42 (.fadr 1 (.r 10)), oA 43 (.fadr 0 (.r 42)), oL 44 43 none, oA 45 (.bin .neq (.r 44) (kI 0))]) (.cond (.r 45) (.seq (.reg [oA 2 (.mov (kB false))]) .ret) .skip)))) (.reg [oA 46 (.bin .add (.r 38) (kI 1)), oA 38 (kM 46)]))))))) (.seq (.reg [oA 2 (.mov (kB true))]) .ret))))⟩
theorem c57 : cfunc Tryd.prog 57 = some ir57 := by kernel_rfl
theorem k57 : okIR (max 1 ir57.n) ir57.ir = true := by decide +kernel
theorem s_fits (b : Bas) (hb : b.ok) (hh : b.hds) (hr : b.rs) (j : JH) : JC Tryd.prog G 57 [.agg b.enc] j (RET (BOO (fitR b)) j) := by
  have fls : ∀ {l : List AObj}, fitR b = false → @JFIN (ext j []) (ext j l) (.v (.bool false)) ⟨fun y j' => RET (BOO (fitR b)) j (.ret y) j'⟩ := by
    intro l h
    refine JFIN.rb ?_
    rw [h]; exact SubB.v
  have l1 := hb.li
  have l3 := hb.lf
  refine JC.run hmix c57 (by exact k57) ?_
  (try simp only[↓jr,jw,seval,ir57])
  refine JLOOP.of (σ := Nat) (fun s => s ≤ (b.incls).length ∧ (b.incls.drop s).all (fun x => basC x.sub && supC x.sup) = b.incls.all (fun x => basC x.sub && supC x.sup)) (fun s => (b.incls).length - s) (fun s => [(14, I64 s), (13, I64 b.incls.length), (12, .sl .none b.incls.length (encs Inc.enc b.incls)), (1, .ptr (pid j.next 0) 0)]) (fun s => ext j [.cells 30 b.enc]) 0 ⟨Nat.zero_le _, ?_⟩ ?_ (JDropH.refl _) ?_
  · rfl
  · ((try simp only[↓jr,jw,seval,DL]) <;> exact sbq)
  rintro k ⟨hk, hI⟩
  try simp only at hk hI
  (try simp only[↓jr,jw,seval])
  refine wq.intro (fun h1 => ?_) (fun h1 => ?_)
  · have hlt : k < (b.incls).length := by omega
    obtain ⟨x, r, hd⟩ : ∃ c_ l_, List.drop k (b.incls) = c_ :: l_ := ⟨_, _, List.drop_eq_getElem_cons hlt⟩
    have hd1 : List.drop (k + 1) (b.incls) = r := by rw [← List.drop_drop, hd]; rfl
    have hmem : x ∈ b.incls := List.mem_of_mem_drop (hd ▸ List.mem_cons_self)
    (try simp only[↓jr,jw,seval,hd])
    refine wc.intro (by omega) ?_
    (try simp only[↓jr,jw,seval,hd])
    rw [hd] at hI
    rw [List.all_cons] at hI
    have hx := hh x hmem
    have hy := hr x hmem
    refine JCs.ret (s_of x.sub hx.1.1 hy.1.1 _) ?_
    (try simp only[↓jr,jw,seval])
    refine ww.intro (fun c1 => ?_) (fun c1 => by (try simp only[↓jr,jw,seval]); exact fls (by unfold fitR; rw [← hI, c1]; rfl))
    (try simp only[↓jr,jw,seval])
    refine JCs.ret (s_right x.sup hx.2 hy.2 _) ?_
    (try simp only[↓jr,jw,seval])
    refine ww.intro (fun c2 => ?_) (fun c2 => by (try simp only[↓jr,jw,seval]); exact fls (by unfold fitR; rw [← hI, c1, c2]; rfl))
    (try simp only[↓jr,jw,seval])
    rw [c1, c2] at hI
    refine wc.intro (R64_add hlt (by omega)) ?_; (try simp only[↓jr,jw,seval])
    refine JNEXT.of (k + 1) ⟨by omega, by rw [hd1]; exact hI⟩ (by omega) ?_ JDropH.nx
    ((try simp only[↓jr,jw,seval,DL]) <;> exact sbq)
  (try simp only[↓jr,jw,seval])
  rw [List.drop_eq_nil_of_le (by omega), List.all_nil] at hI
  have hB : fitR b = b.facts.all (fun x => decide (x.con.op = 0)) := by unfold fitR; rw [← hI]; rfl
  clear hI h1 hk
  refine JLOOP.of (σ := Nat) (fun s => s ≤ (b.facts).length ∧ (b.facts.drop s).all (fun x => decide (x.con.op = 0)) = b.facts.all (fun x => decide (x.con.op = 0))) (fun s => (b.facts).length - s) (fun s => [(38, I64 s), (37, I64 b.facts.length), (36, .sl .none b.facts.length (encs Fac.enc b.facts)), (1, .ptr (pid j.next 0) 0)]) (fun s => ext j [.cells 30 b.enc]) 0 ⟨Nat.zero_le _, ?_⟩ ?_ (JDropH.refl _) ?_
  · rfl
  · ((try simp only[↓jr,jw,seval,DL]) <;> exact sbq)
  rintro k ⟨hk, hI⟩
  try simp only at hk hI
  (try simp only[↓jr,jw,seval])
  refine wq.intro (fun h1 => ?_) (fun h1 => ?_)
  · have hlt : k < (b.facts).length := by omega
    obtain ⟨x, r, hd⟩ : ∃ c_ l_, List.drop k (b.facts) = c_ :: l_ := ⟨_, _, List.drop_eq_getElem_cons hlt⟩
    have hd1 : List.drop (k + 1) (b.facts) = r := by rw [← List.drop_drop, hd]; rfl
    have hmem : x ∈ b.facts := List.mem_of_mem_drop (hd ▸ List.mem_cons_self)
    (try simp only[↓jr,jw,seval,hd])
    refine wc.intro (by omega) ?_
    (try simp only[↓jr,jw,seval,hd])
    rw [hd] at hI
    rw [List.all_cons] at hI
    refine wq.intro (fun c1 => ?_) (fun c1 => ?_)
    · (try simp only[↓jr,jw,seval])
      rw [decide_eq_true c1] at hI
      refine wc.intro (R64_add hlt (by omega)) ?_; (try simp only[↓jr,jw,seval])
      refine JNEXT.of (k + 1) ⟨by omega, by rw [hd1]; exact hI⟩ (by omega) ?_ JDropH.nx
      ((try simp only[↓jr,jw,seval,DL]) <;> exact sbq)
    · (try simp only[↓jr,jw,seval])
      exact fls (by rw [hB, ← hI, decide_eq_false c1]; rfl)
  (try simp only[↓jr,jw,seval])
  rw [List.drop_eq_nil_of_le (by omega), List.all_nil] at hI
  refine JFIN.rb ?_
  rw [hB, ← hI]; exact SubB.v
/-! ### Of valid knowledge bases -/
theorem names_few {n : Nms} (h : namesOK n = true) : n.cs.length ≤ 16 ∧ n.rs.length ≤ 6 ∧ n.is.length ≤ 12 := by
  unfold namesOK at h
  simp only [Bool.and_eq_true] at h
  have := h.1
  unfold fewNames at this
  simp only [Bool.and_eq_true, decide_eq_true_eq] at this
  omega
theorem shaped_n {nc nr : Nat} {c : Con} (h : shaped nc nr c = true) : 0 ≤ c.n ∧ (c.n < nc ∨ c.n < 2 * nr ∨ c.n = 0) := by
  obtain ⟨op, n, l⟩ := c
  rw [shaped_mk] at h
  obtain ⟨⟨h1, h2, h3, h4, h5⟩, _⟩ := h
  simp only [Con.n]
  refine ⟨h2, ?_⟩
  by_cases h0 : op = 0
  · exact .inl (h3 h0)
  · by_cases hq : quant op = true
    · exact .inr (.inl (h4 h0 hq))
    · exact .inr (.inr (h5 h0 (by simpa using hq)))
theorem shaped_r16 {n : Nms} (hn : namesOK n = true) {c : Con} (h : shaped n.cs.length n.rs.length c = true) : c.r16 := by
  have := shaped_n h; have := names_few hn; unfold Con.r16 R64; omega
theorem shaped_r162 {n : Nms} (hn : namesOK n = true) {c : Con} (h : shaped n.cs.length n.rs.length c = true) : c.r162 := by
  refine ⟨shaped_r16 hn h, fun a ha => ?_⟩
  obtain ⟨op, n', l⟩ := c
  rw [shaped_mk] at h
  exact shaped_r16 hn (shapedL_mem h.2 ha)
theorem conOK_shaped {n : Nms} {c : Con} (h : conOK n c = true) : shaped n.cs.length n.rs.length c = true := by
  unfold conOK at h; simp only [Bool.and_eq_true] at h; exact h.2
theorem basR_names {b : Bas} (h : basR b = true) : namesOK b.nms = true := by
  unfold basR at h; simp only [Bool.and_eq_true] at h; exact h.1.1
theorem basR_cons {b : Bas} (h : basR b = true) : ∀ c ∈ b.cons, conOK b.nms c = true := by
  unfold basR at h; simp only [Bool.and_eq_true] at h; exact List.all_eq_true.1 h.2.1
theorem inclI_mem : ∀ {l : List Inc} {x : Inc}, x ∈ l → x.sub ∈ consI l ∧ x.sup ∈ consI l
  | y :: l, x, h => by
    simp only [consI]
    rcases List.mem_cons.1 h with rfl | h
    · simp
    · have := inclI_mem h; simp [this]
theorem factF_mem : ∀ {l : List Fac} {x : Fac}, x ∈ l → x.con ∈ consF l
  | y :: l, x, h => by
    simp only [consF]
    rcases List.mem_cons.1 h with rfl | h
    · simp
    · have := factF_mem h; simp [this]
theorem basR_incl {b : Bas} (h : basR b = true) {x : Inc} (hx : x ∈ b.incls) : conOK b.nms x.sub = true ∧ conOK b.nms x.sup = true := by
  have := inclI_mem hx
  exact ⟨basR_cons h _ (by unfold Bas.cons; simp [this]), basR_cons h _ (by unfold Bas.cons; simp [this])⟩
theorem basR_hds {b : Bas} (h : basR b = true) : b.hds := fun x hx => ⟨shaped_hd2 (conOK_shaped (basR_incl h hx).1), shaped_hd2 (conOK_shaped (basR_incl h hx).2)⟩
theorem basR_rs {b : Bas} (h : basR b = true) : b.rs := fun x hx => ⟨shaped_r162 (basR_names h) (conOK_shaped (basR_incl h hx).1), shaped_r162 (basR_names h) (conOK_shaped (basR_incl h hx).2)⟩
end
end

/-! ### The questions about the fragment; what a law looks at. -/
section
variable {m : Int} {G : Nat → Option (List AV)}
def ir19 : IFn := ⟨9, [⟨2, none⟩, ⟨3, none⟩], (.seq (.reg [oA 1 (.box 30 (.r 0)), oA 2 (.mov (kB false)), oA 3 (.mov (kI 0))]) (.seq (.seq (.reg [oL 4 1 (some 7), oT 5 4 (.call 53 [.r 4]), oA 6 (.bin .neq (.r 5) (kI 0))]) (.cond (.r 6) (.seq (.reg [oA 2 (.mov (kB false)), oA 3 (.mov (kI 20))]) .ret) .skip)) (.seq (.reg [oL 7 1 (some 7), oT 8 7 (.call 57 [.r 7]), oA 2 (kM 8), oA 3 (.mov (kI 0))]) .ret)))⟩
theorem c19 : cfunc Tryd.prog 19 = some ir19 := by kernel_rfl
theorem k19 : okIR (max 1 ir19.n) ir19.ir = true := by decide +kernel
theorem s_lFits (b : Bas) (hb : b.ok) (hf : b.few) (j : JH) : JC Tryd.prog (GG m) 19 [.agg b.enc] j (RET (.tup [BOO (basV b && fitR b), I64 (if basV b then 0 else 20)]) j) := by
  refine JC.run hmix c19 (by exact k19) ?_
  (try simp only[↓jr,jw,seval,ir19])
  refine JCs.ret (s_kbCheck b hb hf _) ?_
  (try simp only[↓jr,jw,seval])
  by_cases h : basV b = true
  · have h' : basR b = true := by rw [basR_eq]; exact h
    rw [if_pos h]
    (try simp only[↓jr,jw,seval])
    refine JCs.ret (s_fits b hb (basR_hds h') (basR_rs h') _) ?_
    (try simp only[↓jr,jw,seval])
    refine JFIN.rb ?_
    rw [h, Bool.true_and]; exact sbq
  · rw [if_neg h]
    simp only [Bool.not_eq_true] at h
    rw [h]
    (try simp only[↓jr,jw,seval])
    refine JFIN.rb ?_
    exact sbq
def ir20 : IFn := ⟨21, [⟨4, none⟩, ⟨5, none⟩], (.seq (.reg [oA 2 (.box 24 (.r 0)), oA 3 (.box 43 (.r 1)), oA 4 (.mov (kB false)), oA 5 (.mov (kI 0))]) (.seq (.seq (.reg [oL 9 2 (some 3), oL 10 3 (some 3), oA 11 (.call 54 [.r 9, .r 10]), oA 6 (kM 11)]) (.seq (.reg [oA 12 (kM 6), oA 13 (.bin .neq (.r 12) (kI 0))]) (.cond (.r 13) (.seq (.reg [oA 14 (kM 6), oA 4 (.mov (kB false)), oA 5 (kM 14)]) .ret) .skip))) (.seq (.reg [oL 16 3 (some 3), oT 17 16 (.call 55 [.r 16]), oA 15 (kM 17), oA 18 (.ext (.r 15) 0), oA 19 (.ext (.r 15) 1), oA 7 (kM 18), oA 8 (kM 19)]) (.seq (.reg [oA 20 (kM 8), oA 4 (kM 20), oA 5 (.mov (kI 0))]) .ret))))⟩
theorem c20 : cfunc Tryd.prog 20 = some ir20 := by kernel_rfl
theorem k20 : okIR (max 2 ir20.n) ir20.ir = true := by decide +kernel
theorem s_lBasic (n : Nms) (hn : n.ok) (hs : n.short) (c : Con) (hc : c.ok) (hb : c.nodes ≤ 4000000000) (j : JH) : JC Tryd.prog (GG m) 20 [.agg n.enc, .agg c.enc] j (RET (.tup [BOO (decide (fineE n [c] = 0) && basC c), I64 (fineE n [c])]) j) := by
  refine JC.run hmix c20 (by exact k20) ?_
  (try simp only[↓jr,jw,seval,ir20])
  refine JCs.ret (s_Check n hn hs c hc hb _) ?_
  (try simp only[↓jr,jw,seval])
  refine wq.intro (fun h => ?_) (fun h => ?_)
  · (try simp only[↓jr,jw,seval])
    have h' := h
    unfold fineE at h'
    split at h'
    · omega
    · rename_i g1
      simp only [Bool.not_eq_false] at g1
      have g2 : conOK n c = true := by
        simp only [List.all_cons, List.all_nil, Bool.and_true] at h'
        split at h'
        · assumption
        · omega
      refine JCs.ret (s_of c (shaped_hd (conOK_shaped g2)) (shaped_r16 g1 (conOK_shaped g2)) _) ?_
      (try simp only[↓jr,jw,seval])
      refine JFIN.rb ?_
      rw [h]; exact sbq
  · (try simp only[↓jr,jw,seval])
    refine JFIN.rb ?_
    rw [decide_eq_false h]; exact sbq
def askE (b : Bas) : Int := if basV b = false then 20 else if fitR b then 0 else 100
def ir45 : IFn := ⟨11, [⟨2, none⟩], (.seq (.reg [oA 1 (.box 30 (.r 0)), oA 2 (.mov (kI 0))]) (.seq (.block 0 (.seq (.reg [oL 4 1 (some 7), oT 5 4 (.call 53 [.r 4]), oA 6 (.bin .neq (.r 5) (kI 0)), oA 3 (kM 6)]) (.cond (.r 3) (.seq (.reg [oA 2 (.mov (kI 20))]) .ret) (.seq (.reg [oL 8 1 (some 7), oT 9 8 (.call 57 [.r 8]), oA 10 (.not (.r 9)), oA 7 (kM 10)]) (.cond (.r 7) (.seq (.reg [oA 2 (.mov (kI 100))]) .ret) .skip))))) (.seq (.reg [oA 2 (.mov (kI 0))]) .ret)))⟩
theorem c45 : cfunc Tryd.prog 45 = some ir45 := by kernel_rfl
theorem k45 : okIR (max 1 ir45.n) ir45.ir = true := by decide +kernel
theorem s_asks (b : Bas) (hb : b.ok) (hf : b.few) (j : JH) : JC Tryd.prog (GG m) 45 [.agg b.enc] j (RET (I64 (askE b)) j) := by
  refine JC.run hmix c45 (by exact k45) ?_
  (try simp only[↓jr,jw,seval,ir45])
  refine JCs.ret (s_kbCheck b hb hf _) ?_
  by_cases h : basV b = true
  · have h' : basR b = true := by rw [basR_eq]; exact h
    rw [if_pos h]
    (try simp only[↓jr,jw,seval])
    refine JCs.ret (s_fits b hb (basR_hds h') (basR_rs h') _) ?_
    (try simp only[↓jr,jw,seval])
    refine ww.intro (fun q => ?_) (fun q => ?_)
    all_goals
      (try simp only[↓jr,jw,seval])
      refine JFIN.rb ?_
      unfold askE; rw [h, q]; exact SubB.v
  · rw [if_neg h]
    simp only [Bool.not_eq_true] at h
    (try simp only[↓jr,jw,seval])
    refine JFIN.rb ?_
    unfold askE; rw [h]; exact SubB.v
/-- What a law looks at. -/
def lookB (b : Bas) (l : List Con) : Bool := l.all (fun c => decide ((c.nodes : Int) ≤ 400)) && fewB 400 b
def ir8 : IFn := ⟨19, [⟨4, none⟩], (.seq (.reg [oA 2 (.box 30 (.r 0)), oA 4 (.mov (kB false))]) (.seq (.seq (.reg [oA 7 (kM 1), oT 8 7 (.lenl (.r 7)), oA 9 (.mov (kI 0))]) (.block 0 (.loop (.seq (.reg [oA 10 (.bin .lss (.r 9) (.r 8))]) (.seq (.cond (.r 10) .skip (.exit 0)) (.seq (.block 1 (.seq (.reg [oA 11 (.iasl 3 (.r 7) (.r 9)), oL 12 11 (some 3), oA 6 (.alloc 43 [.v (.int .i64 0), .v (.int .i64 0), .sl .nil 0 []]), oN (.store 3 (.r 6) (.r 12))]) (.seq (.reg [oL 13 6 (some 3), oA 14 (.call 40 [.r 13, .k (.v (.int .i64 400))]), oA 15 (.not (.r 14))]) (.cond (.r 15) (.seq (.reg [oA 4 (.mov (kB false))]) .ret) .skip)))) (.reg [oA 16 (.bin .add (.r 9) (kI 1)), oA 9 (kM 16)]))))))) (.seq (.reg [oL 17 2 (some 7), oA 18 (.call 41 [.r 17, .k (.v (.int .i64 400))]), oA 4 (kM 18)]) .ret)))⟩
theorem c8 : cfunc Tryd.prog 8 = some ir8 := by kernel_rfl
theorem k8 : okIR (max 2 ir8.n) ir8.ir = true := by decide +kernel
theorem s_looked (b : Bas) (hb : b.ok) (l : List Con) (tok : Tok) (hl : Con.oks l) (hll : l.length < 4611686018427387904) (j : JH) : JC Tryd.prog G 8 [.agg b.enc, .sl tok l.length (encs Con.enc l)] j (RET (BOO (lookB b l)) j) := by
  refine JC.run hmix c8 (by exact k8) ?_
  (try simp only[↓jr,jw,seval,ir8])
  refine JLOOP.of (σ := Nat) (fun s => s ≤ (l).length ∧ (l.drop s).all (fun c => decide ((c.nodes : Int) ≤ 400)) = l.all (fun c => decide ((c.nodes : Int) ≤ 400))) (fun s => (l).length - s) (fun s => [(9, I64 s), (8, I64 l.length), (7, .sl .none l.length (encs Con.enc l)), (2, .ptr (pid j.next 0) 0)]) (fun s => ext j [.cells 30 b.enc]) 0 ⟨Nat.zero_le _, ?_⟩ ?_ (JDropH.refl _) ?_
  · rfl
  · ((try simp only[↓jr,jw,seval,DL]) <;> exact sbq)
  rintro k ⟨hk, hI⟩
  try simp only at hk hI
  (try simp only[↓jr,jw,seval])
  refine wq.intro (fun h1 => ?_) (fun h1 => ?_)
  · have hlt : k < (l).length := by omega
    obtain ⟨c, r, hd⟩ : ∃ c_ l_, List.drop k (l) = c_ :: l_ := ⟨_, _, List.drop_eq_getElem_cons hlt⟩
    have hd1 : List.drop (k + 1) (l) = r := by rw [← List.drop_drop, hd]; rfl
    have hmem : c ∈ l := List.mem_of_mem_drop (hd ▸ List.mem_cons_self)
    (try simp only[↓jr,jw,seval,hd])
    refine wc.intro (by omega) ?_
    (try simp only[↓jr,jw,seval,hd])
    rw [hd] at hI
    rw [List.all_cons] at hI
    refine JCs.ret (s_Fits c 400 _ (Con.oks_mem hl hmem) (by omega) (by omega)) ?_
    (try simp only[↓jr,jw,seval])
    refine wq.intro (fun c1 => ?_) (fun c1 => ?_)
    · (try simp only[↓jr,jw,seval])
      rw [decide_eq_true c1] at hI
      refine wc.intro (R64_add hlt (by omega)) ?_; (try simp only[↓jr,jw,seval])
      refine JNEXT.of (k + 1) ⟨by omega, by rw [hd1]; exact hI⟩ (by omega) ?_ JDropH.nx
      ((try simp only[↓jr,jw,seval,DL]) <;> exact sbq)
    · (try simp only[↓jr,jw,seval])
      refine JFIN.rb ?_
      unfold lookB; rw [← hI, decide_eq_false c1]; exact SubB.v
  (try simp only[↓jr,jw,seval])
  rw [List.drop_eq_nil_of_le (by omega), List.all_nil] at hI
  refine JCs.ret (s_Few b hb 400 (by omega) (by omega) _) ?_
  (try simp only[↓jr,jw,seval])
  refine JFIN.rb ?_
  unfold lookB; rw [← hI]; exact SubB.v
def ir52 : IFn := ⟨11, [⟨6, (some (some 3))⟩], (.seq (.reg [oA 6 (.alloc 43 [.v (.int .i64 0), .v (.int .i64 0), .sl .nil 0 []])]) (.seq (.reg [oA 7 (kM 0), oA 8 (kM 1), oA 9 (kM 2), oA 10 (.build [.v (.int .i64 0), .v (.int .i64 0), .sl .nil 0 []] [(0, (1, .r 7)), (1, (1, .r 8)), (2, (1, .r 9))]), oN (.store 3 (.r 6) (.r 10))]) .ret))⟩
theorem c52 : cfunc Tryd.prog 52 = some ir52 := by kernel_rfl
theorem k52 : okIR (max 3 ir52.n) ir52.ir = true := by decide +kernel
theorem s_COf (o n : Int) (l : List Con) (tok : Tok) (j : JH) : JC Tryd.prog G 52 [I64 o, I64 n, .sl tok l.length (encs Con.enc l)] j (RET (.agg (Con.mk o n l).enc) j) := by
  refine JC.run hmix c52 (by exact k52) ?_
  (try simp only[↓jr,jw,seval,ir52])
  refine JFIN.rb ?_
  (repeat' (first | exact trivial | refine And.intro ?_ ?_ | exact SubB.v | exact SubB.any | ((first | refine SubB.ptr ?_ | refine SubB.arr ?_ | refine SubB.mp ?_) <;> first | assumption | (unfold pid; omega)) | ((first | refine SubB.pure ?_ | refine SubBs.pure ?_) <;> (simp only [AV.pure, AV.pures, pures_append, jpu, Bool.and_self, Bool.and_true, Bool.true_and]; done)) | refine SubB.fn ?_ ?_ | refine SubB.sl ?_ ?_ | refine SubB.agg ?_ | refine SubB.tup ?_ | rfl))
  rw [Con.encs_eq]; exact SubBs.pure (encs_pur Con.pur _)
def ir17 : IFn := ⟨6, [⟨2, (some (some 3))⟩], (.seq (.reg [oA 1 (.box 43 (.r 0)), oA 2 (.alloc 43 [.v (.int .i64 0), .v (.int .i64 0), .sl .nil 0 []])]) (.seq (.reg [oL 3 1 (some 3), oA 4 (.bsl 1 3 [.v (.int .i64 0), .v (.int .i64 0), .sl .nil 0 []] [(0, (3, .r 3))]), oA 5 (.call 52 [.k (.v (.int .i64 3)), .k (.v (.int .i64 0)), .r 4]), oN (.store 3 (.r 2) (.r 5))]) .ret))⟩
theorem c17 : cfunc Tryd.prog 17 = some ir17 := by kernel_rfl
theorem k17 : okIR (max 1 ir17.n) ir17.ir = true := by decide +kernel
theorem s_not (c : Con) (j : JH) : JC Tryd.prog G 17 [.agg c.enc] j (RET (.agg (Con.mk 3 0 [c]).enc) j) := by
  refine JC.run hmix c17 (by exact k17) ?_
  (try simp only[↓jr,jw,seval,ir17])
  have h := s_COf (G := G) 3 0 [c] (.own j.tnext 0 3) (ext (j.pushTok 1) [.cells 43 c.enc, .cells 43 [I64 0, I64 0, .sl .nil 0 []]])
  rw [encs_cons, encs_nil, List.append_nil] at h
  refine JCs.ret h ?_
  (try simp only[↓jr,jw,seval])
  refine JFIN.rb ?_
  exact SubB.pure (Con.pur _)
end
end Go.Proofs.YtkcbhebbjpiibaaDoor.Pg
