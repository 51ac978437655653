/-
  What is asked of the reference's rules.
-/
import Derived.Test.YtkcbhebbjpiibaaDoorOe
import Derived.Test.YtkcbhebbjpiibaaDoorMf
set_option linter.unusedVariables false
set_option linter.unusedSimpArgs false
set_option linter.defProp false
set_option maxRecDepth 20000
set_option maxHeartbeats 1000000
namespace Go.Proofs.YtkcbhebbjpiibaaDoor.Pg
open Go
section
theorem sbOg {A : Prop} (h : A := by repeat' (first | exact trivial | refine And.intro ?_ ?_ | exact SubB.v | exact SubB.any | ((first | refine SubB.ptr ?_ | refine SubB.arr ?_ | refine SubB.mp ?_) <;> first | assumption | (unfold pid; omega)) | ((first | refine SubB.pure ?_ | refine SubBs.pure ?_) <;> (simp only [AV.pure, AV.pures, pures_append, jpu, brow_pur, rrow_pur, rb_pur, natv_pur, Bool.and_self, Bool.and_true, Bool.true_and]; done)) | refine SubB.fn ?_ ?_ | refine SubB.sl ?_ ?_ | refine SubB.agg ?_ | refine SubB.tup ?_ | rfl)) : A := h
variable {m : Int} {G : Nat → Option (List AV)}
/-- A right side, as the reference numbers it. -/
def supK (d : Con) : Con := if d.op = 3 then d.args.headD default else d
/-- .. where it is one. -/
def supAt (nc sz : Nat) (d : Con) (y : Nat) : Prop := d.op = 2 ∨ (atN nc (supK d) = y ∧ y < sz ∧ (-1000 ≤ (supK d).n ∧ (supK d).n ≤ 1000) ∧ (d.op = 3 → ∃ a, d.args = [a]))
def impRef (R : Ru) (x y : Nat) (op : Int) : Bool := R.E x || (!decide (op = 2) && (if op = 3 then R.E y || clash R (R.U x) (R.U y) else R.U x y))
def ir28 : IFn := ⟨68, [⟨6, none⟩], (.seq (.reg [oA 4 (.box 43 (.r 1)), oA 5 (.box 43 (.r 2)), oA 6 (.mov (kB false))]) (.seq (.reg [oA 9 (kM 0), oL 10 4 (some 3), oA 11 (.call 38 [.r 9, .r 10]), oA 7 (kM 11)]) (.seq (.seq (.reg [oA 12 (kM 0), oA 13 (.nchk (.r 12)), oA 14 (.fadr 5 (.r 13)), oL 15 14 none, oA 16 (kM 7), oA 17 (.iasl 1 (.r 15) (.r 16)), oL 18 17 none]) (.cond (.r 18) (.seq (.reg [oA 6 (.mov (kB true))]) .ret) .skip)) (.seq (.seq (.reg [oA 19 (.fadr 0 (.r 5)), oL 20 19 none]) (.block 0 (.seq (.reg [oA 22 (.bin .eql (.r 20) (kI 2)), oA 21 (kM 22)]) (.cond (.r 21) (.seq (.reg [oA 6 (.mov (kB false))]) .ret) (.seq (.reg [oA 24 (.bin .eql (.r 20) (kI 3)), oA 23 (kM 24)]) (.cond (.r 23) (.seq (.reg [oA 25 (kM 0), oA 26 (.fadr 2 (.r 5)), oL 27 26 none, oA 28 (.iasl 3 (.r 27) (kI 0)), oL 29 28 (some 3), oA 30 (.call 38 [.r 25, .r 29]), oA 8 (kM 30)]) (.seq (.draw [oA 31 (kM 0), oA 32 (.nchk (.r 31)), oA 33 (.fadr 5 (.r 32)), oL 34 33 none, oA 35 (kM 8), oA 36 (.iasl 1 (.r 34) (.r 35)), oL 37 36 none, oA 38 (kM 37), ⟨(some 39), (some ((38, false))), none, (kM 0)⟩, ⟨(some 40), (some ((38, false))), none, (kM 0)⟩, ⟨(some 41), (some ((38, false))), none, (.nchk (.r 40))⟩, ⟨(some 42), (some ((38, false))), none, (.fadr 3 (.r 41))⟩, ⟨(some 43), (some ((38, false))), (some (.r 42)), (.load none (.r 42))⟩, ⟨(some 44), (some ((38, false))), none, (kM 7)⟩, ⟨(some 45), (some ((38, false))), none, (.iasl 1 (.r 43) (.r 44))⟩, ⟨(some 46), (some ((38, false))), (some (.r 45)), (.load none (.r 45))⟩, ⟨(some 47), (some ((38, false))), none, (kM 0)⟩, ⟨(some 48), (some ((38, false))), none, (.nchk (.r 47))⟩, ⟨(some 49), (some ((38, false))), none, (.fadr 3 (.r 48))⟩, ⟨(some 50), (some ((38, false))), (some (.r 49)), (.load none (.r 49))⟩, ⟨(some 51), (some ((38, false))), none, (kM 8)⟩, ⟨(some 52), (some ((38, false))), none, (.iasl 1 (.r 50) (.r 51))⟩, ⟨(some 53), (some ((38, false))), (some (.r 52)), (.load none (.r 52))⟩, ⟨(some 54), (some ((38, false))), none, (.call 70 [.r 39, .r 46, .r 53])⟩, oA 55 (.pick (.r 38) (kB true) (.r 54)), oA 6 (kM 55)] []) .ret)) .skip)))))) (.seq (.draw [oA 56 (kM 0), oA 57 (.nchk (.r 56)), oA 58 (.fadr 3 (.r 57)), oL 59 58 none, oA 60 (kM 7), oA 61 (.iasl 1 (.r 59) (.r 60)), oL 62 61 none, oA 63 (kM 0), oL 64 5 (some 3), oA 65 (.call 38 [.r 63, .r 64]), oA 66 (.iasl 1 (.r 62) (.r 65)), oL 67 66 none, oA 6 (kM 67)] [(3, 9), (6, 9)]) .ret)))))⟩
theorem c28 : cfunc Tryd.prog 28 = some ir28 := by kernel_rfl
theorem k28 : okIR (max 3 ir28.n) ir28.ir = true := by decide +kernel
theorem s_RImplies (o : Nat) (R : Ru) (c d : Con) (x y : Nat) (hx : atN R.nc c = x) (lx : x < R.sz) (hcn : -1000 ≤ c.n ∧ c.n ≤ 1000) (hd : supAt R.nc R.sz d y) (j : JH) (h : RuAt j o R) : JC Tryd.prog G 28 [.ptr o 0, .agg c.enc, .agg d.enc] j (RET (BOO (impRef R x y d.op)) j) := by
  have ho := h.lo
  have hg := h.go
  have hf := h.few
  have lE := h.lE
  have gE := h.gE
  have gU := h.gU x lx
  have lU : pid R.uU x < j.next := by have := h.lU; unfold pid; omega
  have hz : R.sz ≤ 28 := by unfold Ru.sz; omega
  have lo2 : ∀ {l : List AObj}, o < (ext j l).next := fun {l} => by rw [ext_next]; unfold pid; omega
  refine JC.run hmix c28 (by exact k28) ?_
  (try simp only[↓jr,jw,seval,jq2,q_e5,ext_next,ext_tnext,Nat.le_refl,ext_get_old,ho,hg,lE,gE,gU,lU,Ru.cells,arrs_len,arrs_ld,brow_ld,brow_len,ir28])
  refine JCs.ret (s_At o R c hcn _ (h.ext _)) ?_
  rw [hx]
  (try simp only[↓jr,jw,seval,jq2,q_e5,ext_next,ext_tnext,Nat.le_refl,ext_get_old,ho,hg,lE,gE,gU,lU,Ru.cells,arrs_len,arrs_ld,brow_ld,brow_len])
  refine wc.intro (by omega) ?_
  (try simp only[↓jr,jw,seval,jq2,q_e5,ext_next,ext_tnext,Nat.le_refl,ext_get_old,ho,hg,lE,gE,gU,lU,Ru.cells,arrs_len,arrs_ld,brow_ld,brow_len])
  refine wc.intro (by omega) ?_
  (try simp only[↓jr,jw,seval,jq2,q_e5,ext_next,ext_tnext,Nat.le_refl,ext_get_old,ho,hg,lE,gE,gU,lU,Ru.cells,arrs_len,arrs_ld,brow_ld,brow_len])
  refine ww.intro (fun q1 => ?_) (fun q1 => ?_)
  · (try simp only[↓jr,jw,seval,jq2,q_e5,ext_next,ext_tnext,Nat.le_refl,ext_get_old,ho,hg,lE,gE,gU,lU,Ru.cells,arrs_len,arrs_ld,brow_ld,brow_len])
    refine JFIN.rb ?_
    unfold impRef; rw [q1]; exact SubB.v
  (try simp only[↓jr,jw,seval,jq2,q_e5,ext_next,ext_tnext,Nat.le_refl,ext_get_old,ho,hg,lE,gE,gU,lU,Ru.cells,arrs_len,arrs_ld,brow_ld,brow_len])
  refine wq.intro (fun q2 => ?_) (fun q2 => ?_)
  · (try simp only[↓jr,jw,seval,jq2,q_e5,ext_next,ext_tnext,Nat.le_refl,ext_get_old,ho,hg,lE,gE,gU,lU,Ru.cells,arrs_len,arrs_ld,brow_ld,brow_len])
    refine JFIN.rb ?_
    unfold impRef; rw [q1, decide_eq_true q2]; exact SubB.v
  rcases hd with q | ⟨hy, ly, hdn, hda⟩
  · exact absurd q q2
  (try simp only[↓jr,jw,seval,jq2,q_e5,ext_next,ext_tnext,Nat.le_refl,ext_get_old,ho,hg,lE,gE,gU,lU,Ru.cells,arrs_len,arrs_ld,brow_ld,brow_len])
  have gUy := h.gU y ly
  have lUy : pid R.uU y < j.next := by have := h.lU; unfold pid; omega
  refine wq.intro (fun q3 => ?_) (fun q3 => ?_)
  · obtain ⟨a, ea⟩ := hda q3
    have eK : supK d = a := by unfold supK; rw [if_pos q3, ea]; rfl
    rw [eK] at hy hdn
    (try simp only[↓jr,jw,seval,jq2,q_e5,ext_next,ext_tnext,Nat.le_refl,ext_get_old,ho,hg,lE,gE,gU,lU,gUy,lUy,Ru.cells,arrs_len,arrs_ld,brow_ld,brow_len,ea])
    refine JCs.ret (s_At o R a hdn _ (h.ext _)) ?_
    rw [hy]
    (try simp only[↓jr,jw,seval,jq2,q_e5,ext_next,ext_tnext,Nat.le_refl,ext_get_old,ho,hg,lE,gE,gU,lU,gUy,lUy,Ru.cells,arrs_len,arrs_ld,brow_ld,brow_len,ea])
    refine wc.intro (by omega) ?_
    (try simp only[↓jr,jw,seval,jq2,q_e5,ext_next,ext_tnext,Nat.le_refl,ext_get_old,ho,hg,lE,gE,gU,lU,gUy,lUy,Ru.cells,arrs_len,arrs_ld,brow_ld,brow_len,ea])
    refine wc.intro (by omega) ?_
    (try simp only[↓jr,jw,seval,jq2,q_e5,ext_next,ext_tnext,Nat.le_refl,ext_get_old,ho,hg,lE,gE,gU,lU,gUy,lUy,Ru.cells,arrs_len,arrs_ld,brow_ld,brow_len,ea])
    refine ww.intro (fun q4 => ?_) (fun q4 => ?_)
    · (try simp only[↓jr,jw,seval,jq2,q_e5,ext_next,ext_tnext,Nat.le_refl,ext_get_old,ho,hg,lE,gE,gU,lU,gUy,lUy,Ru.cells,arrs_len,arrs_ld,brow_ld,brow_len,ea])
      refine JDRAW.oc (by (try simp only[↓jr,jw,seval,jq2,q_e5,ext_next,ext_tnext,Nat.le_refl,ext_get_old,ho,hg,lE,gE,gU,lU,gUy,lUy,Ru.cells,arrs_len,arrs_ld,brow_ld,brow_len,ea,jq]) <;> exact orq) ?_; (try simp only[↓jr,jw,seval,jq2,q_e5,ext_next,ext_tnext,Nat.le_refl,ext_get_old,ho,hg,lE,gE,gU,lU,gUy,lUy,Ru.cells,arrs_len,arrs_ld,brow_ld,brow_len,ea])
      refine JFIN.rb ?_
      unfold impRef; rw [q1, decide_eq_false q2, if_pos q3, q4]; exact SubB.v
    · (try simp only[↓jr,jw,seval,jq2,q_e5,ext_next,ext_tnext,Nat.le_refl,ext_get_old,ho,hg,lE,gE,gU,lU,gUy,lUy,Ru.cells,arrs_len,arrs_ld,brow_ld,brow_len,ea])
      refine wc.intro (by omega) ?_
      (try simp only[↓jr,jw,seval,jq2,q_e5,ext_next,ext_tnext,Nat.le_refl,ext_get_old,ho,hg,lE,gE,gU,lU,gUy,lUy,Ru.cells,arrs_len,arrs_ld,brow_ld,brow_len,ea])
      refine wc.intro (by omega) ?_
      (try simp only[↓jr,jw,seval,jq2,q_e5,ext_next,ext_tnext,Nat.le_refl,ext_get_old,ho,hg,lE,gE,gU,lU,gUy,lUy,Ru.cells,arrs_len,arrs_ld,brow_ld,brow_len,ea])
      refine wc.intro (by omega) ?_
      (try simp only[↓jr,jw,seval,jq2,q_e5,ext_next,ext_tnext,Nat.le_refl,ext_get_old,ho,hg,lE,gE,gU,lU,gUy,lUy,Ru.cells,arrs_len,arrs_ld,brow_ld,brow_len,ea])
      refine wc.intro (by omega) ?_
      (try simp only[↓jr,jw,seval,jq2,q_e5,ext_next,ext_tnext,Nat.le_refl,ext_get_old,ho,hg,lE,gE,gU,lU,gUy,lUy,Ru.cells,arrs_len,arrs_ld,brow_ld,brow_len,ea])
      refine JDC.use (s_Clash o R (pid R.uU x) (pid R.uU y) (R.U x) (R.U y) _ (h.ext _) (by rw [ext_next]; unfold pid at *; omega) (by rw [ext_get_old lU]; exact gU) (by rw [ext_next]; unfold pid at *; omega) (by rw [ext_get_old lUy]; exact gUy)) ?_
      (try simp only[↓jr,jw,seval,jq2,q_e5,ext_next,ext_tnext,Nat.le_refl,ext_get_old,ho,hg,lE,gE,gU,lU,gUy,lUy,Ru.cells,arrs_len,arrs_ld,brow_ld,brow_len,ea])
      refine JDRAW.oc (by (try simp only[↓jr,jw,seval,jq2,q_e5,ext_next,ext_tnext,Nat.le_refl,ext_get_old,ho,hg,lE,gE,gU,lU,gUy,lUy,Ru.cells,arrs_len,arrs_ld,brow_ld,brow_len,ea,jq]) <;> exact orq) ?_; (try simp only[↓jr,jw,seval,jq2,q_e5,ext_next,ext_tnext,Nat.le_refl,ext_get_old,ho,hg,lE,gE,gU,lU,gUy,lUy,Ru.cells,arrs_len,arrs_ld,brow_ld,brow_len,ea])
      refine JFIN.rb ?_
      unfold impRef; rw [q1, decide_eq_false q2, if_pos q3, q4]; exact SubB.v
  · have lU2 : pid R.uU x < pid j.next 2 := by unfold pid at *; omega
    have eK : supK d = d := by unfold supK; rw [if_neg q3]
    rw [eK] at hy hdn
    (try simp only[↓jr,jw,seval,jq2,q_e5,ext_next,ext_tnext,Nat.le_refl,ext_get_old,ho,hg,lE,gE,gU,lU,gUy,lUy,Ru.cells,arrs_len,arrs_ld,brow_ld,brow_len])
    refine wc.intro (by omega) ?_
    (try simp only[↓jr,jw,seval,jq2,q_e5,ext_next,ext_tnext,Nat.le_refl,ext_get_old,ho,hg,lE,gE,gU,lU,gUy,lUy,Ru.cells,arrs_len,arrs_ld,brow_ld,brow_len])
    refine wc.intro (by omega) ?_
    (try simp only[↓jr,jw,seval,jq2,q_e5,ext_next,ext_tnext,Nat.le_refl,ext_get_old,ho,hg,lE,gE,gU,lU,gUy,lUy,Ru.cells,arrs_len,arrs_ld,brow_ld,brow_len])
    refine JDC.use (s_At o R d hdn _ (h.ext _)) ?_
    rw [hy]
    (try simp only[↓jr,jw,seval,jq2,q_e5,ext_next,ext_tnext,Nat.le_refl,ext_get_old,ho,hg,lE,gE,gU,lU,gUy,lUy,Ru.cells,arrs_len,arrs_ld,brow_ld,brow_len])
    refine wc.intro (by omega) ?_
    (try simp only[↓jr,jw,seval,jq2,q_e5,ext_next,ext_tnext,Nat.le_refl,ext_get_old,ho,hg,lE,gE,gU,lU,gUy,lUy,Ru.cells,arrs_len,arrs_ld,brow_ld,brow_len])
    refine wc.intro (by omega) ?_
    (try simp only[↓jr,jw,seval,jq2,q_e5,ext_next,ext_tnext,Nat.le_refl,ext_get_old,ho,hg,lE,gE,gU,lU,gUy,lUy,Ru.cells,arrs_len,arrs_ld,brow_ld,brow_len])
    refine JDRAW.oc (by (try simp only[↓jr,jw,seval,jq2,q_e5,ext_next,ext_tnext,Nat.le_refl,ext_get_old,ho,hg,lE,gE,gU,lU,gUy,lUy,Ru.cells,arrs_len,arrs_ld,brow_ld,brow_len,jq]) <;> exact orq) ?_; (try simp only[↓jr,jw,seval,jq2,q_e5,ext_next,ext_tnext,Nat.le_refl,ext_get_old,ho,hg,lE,gE,gU,lU,gUy,lUy,Ru.cells,arrs_len,arrs_ld,brow_ld,brow_len])
    refine JFIN.rb ?_
    unfold impRef; rw [q1, decide_eq_false q2, if_neg q3]; exact SubB.v
def ir32 : IFn := ⟨28, [⟨6, none⟩], (.seq (.reg [oA 6 (.mov (kB false))]) (.seq (.draw [oA 7 (kM 0), oA 8 (.nchk (.r 7)), oA 9 (.fadr 5 (.r 8)), oL 10 9 none, oA 11 (kM 0), oA 12 (kM 1), oA 13 (.call 68 [.r 11, .r 12]), oA 14 (.iasl 1 (.r 10) (.r 13)), oL 15 14 none, oA 16 (kM 15), ⟨(some 17), (some ((16, false))), none, (kM 0)⟩, ⟨(some 18), (some ((16, false))), none, (.nchk (.r 17))⟩, ⟨(some 19), (some ((16, false))), none, (.fadr 2 (.r 18))⟩, ⟨(some 20), (some ((16, false))), (some (.r 19)), (.load none (.r 19))⟩, ⟨(some 21), (some ((16, false))), none, (kM 1)⟩, ⟨(some 22), (some ((16, false))), none, (.iasl 1 (.r 20) (.r 21))⟩, ⟨(some 23), (some ((16, false))), (some (.r 22)), (.load none (.r 22))⟩, ⟨(some 24), (some ((16, false))), none, (kM 2)⟩, ⟨(some 25), (some ((16, false))), none, (.iasl 1 (.r 23) (.r 24))⟩, ⟨(some 26), (some ((16, false))), (some (.r 25)), (.load none (.r 25))⟩, oA 27 (.pick (.r 16) (kB true) (.r 26)), oA 6 (kM 27)] [(3, 6)]) .ret))⟩
theorem c32 : cfunc Tryd.prog 32 = some ir32 := by kernel_rfl
theorem k32 : okIR (max 3 ir32.n) ir32.ir = true := by decide +kernel
theorem s_Under (o : Nat) (R : Ru) (s t : Nat) (ls : s < R.nr) (lt : t < R.nr) (j : JH) (h : RuAt j o R) : JC Tryd.prog G 32 [.ptr o 0, I64 s, I64 t] j (RET (BOO (R.E (R.nc + s) || R.B s t)) j) := by
  have ho := h.lo
  have hg := h.go
  have hf := h.few
  have lE := h.lE
  have gE := h.gE
  have gB := h.gB s ls
  have lB : pid R.uB s < j.next := by have := h.lB; unfold pid; omega
  have hz : R.nc + s < R.sz := by unfold Ru.sz; omega
  have lo2 : ∀ {l : List AObj}, o < (ext j l).next := fun {l} => by rw [ext_next]; unfold pid; omega
  refine JC.run hmix c32 (by exact k32) ?_
  (try simp only[↓jr,jw,seval,jq2,q_e5,ext_next,ext_tnext,Nat.le_refl,ext_get_old,ho,hg,lE,gE,gB,lB,Ru.cells,arrs_len,arrs_ld,brow_ld,brow_len,ir32])
  refine JDC.use (s_Some o R s (by omega) _ (h.ext _)) ?_
  (try simp only[↓jr,jw,seval,jq2,q_e5,ext_next,ext_tnext,Nat.le_refl,ext_get_old,ho,hg,lE,gE,gB,lB,Ru.cells,arrs_len,arrs_ld,brow_ld,brow_len])
  refine wc.intro (by omega) ?_
  (try simp only[↓jr,jw,seval,jq2,q_e5,ext_next,ext_tnext,Nat.le_refl,ext_get_old,ho,hg,lE,gE,gB,lB,Ru.cells,arrs_len,arrs_ld,brow_ld,brow_len])
  refine wc.intro (by omega) ?_
  (try simp only[↓jr,jw,seval,jq2,q_e5,ext_next,ext_tnext,Nat.le_refl,ext_get_old,ho,hg,lE,gE,gB,lB,Ru.cells,arrs_len,arrs_ld,brow_ld,brow_len])
  refine ww.intro (fun q4 => ?_) (fun q4 => ?_)
  · (try simp only[↓jr,jw,seval,jq2,q_e5,ext_next,ext_tnext,Nat.le_refl,ext_get_old,ho,hg,lE,gE,gB,lB,Ru.cells,arrs_len,arrs_ld,brow_ld,brow_len])
    refine JDRAW.oc (by (try simp only[↓jr,jw,seval,jq2,q_e5,ext_next,ext_tnext,Nat.le_refl,ext_get_old,ho,hg,lE,gE,gB,lB,Ru.cells,arrs_len,arrs_ld,brow_ld,brow_len,jq]) <;> exact orq) ?_; (try simp only[↓jr,jw,seval,jq2,q_e5,ext_next,ext_tnext,Nat.le_refl,ext_get_old,ho,hg,lE,gE,gB,lB,Ru.cells,arrs_len,arrs_ld,brow_ld,brow_len])
    refine JFIN.rb ?_
    rw [q4]; exact SubB.v
  · (try simp only[↓jr,jw,seval,jq2,q_e5,ext_next,ext_tnext,Nat.le_refl,ext_get_old,ho,hg,lE,gE,gB,lB,Ru.cells,arrs_len,arrs_ld,brow_ld,brow_len])
    refine wc.intro (by omega) ?_
    (try simp only[↓jr,jw,seval,jq2,q_e5,ext_next,ext_tnext,Nat.le_refl,ext_get_old,ho,hg,lE,gE,gB,lB,Ru.cells,arrs_len,arrs_ld,brow_ld,brow_len])
    refine wc.intro (by omega) ?_
    (try simp only[↓jr,jw,seval,jq2,q_e5,ext_next,ext_tnext,Nat.le_refl,ext_get_old,ho,hg,lE,gE,gB,lB,Ru.cells,arrs_len,arrs_ld,brow_ld,brow_len])
    refine wc.intro (by omega) ?_
    (try simp only[↓jr,jw,seval,jq2,q_e5,ext_next,ext_tnext,Nat.le_refl,ext_get_old,ho,hg,lE,gE,gB,lB,Ru.cells,arrs_len,arrs_ld,brow_ld,brow_len])
    refine wc.intro (by omega) ?_
    (try simp only[↓jr,jw,seval,jq2,q_e5,ext_next,ext_tnext,Nat.le_refl,ext_get_old,ho,hg,lE,gE,gB,lB,Ru.cells,arrs_len,arrs_ld,brow_ld,brow_len])
    refine JDRAW.oc (by (try simp only[↓jr,jw,seval,jq2,q_e5,ext_next,ext_tnext,Nat.le_refl,ext_get_old,ho,hg,lE,gE,gB,lB,Ru.cells,arrs_len,arrs_ld,brow_ld,brow_len,jq]) <;> exact orq) ?_; (try simp only[↓jr,jw,seval,jq2,q_e5,ext_next,ext_tnext,Nat.le_refl,ext_get_old,ho,hg,lE,gE,gB,lB,Ru.cells,arrs_len,arrs_ld,brow_ld,brow_len])
    refine JFIN.rb ?_
    rw [q4]; exact SubB.v
def ir29 : IFn := ⟨44, [⟨2, none⟩, ⟨3, none⟩], (.seq (.reg [oA 2 (.mov (.k (.sl .nil 0 []))), oA 3 (.mov (.k (.sl .nil 0 [])))]) (.seq (.seq (.reg [oA 6 (kM 0), oA 7 (.nchk (.r 6)), oA 8 (.fadr 5 (.r 7)), oL 9 8 none, oT 10 9 (.lenl (.r 9)), oA 11 (.mov (kI 0))]) (.block 0 (.loop (.seq (.reg [oA 12 (.bin .lss (.r 11) (.r 10))]) (.seq (.cond (.r 12) .skip (.exit 0)) (.seq (.block 1 (.seq (.reg [oA 13 (kM 11), oA 14 (.iasl 1 (.r 9) (.r 11)), oL 15 14 none, oA 4 (kM 13), oA 5 (kM 15)]) (.block 2 (.seq (.reg [oA 17 (kM 5), oA 18 (kM 17), ⟨(some 19), (some ((18, true))), none, (kM 4)⟩, ⟨(some 20), (some ((18, true))), none, (kM 0)⟩, ⟨(some 21), (some ((18, true))), none, (.nchk (.r 20))⟩, ⟨(some 22), (some ((18, true))), none, (.fadr 0 (.r 21))⟩, ⟨(some 23), (some ((18, true))), (some (.r 22)), (.load none (.r 22))⟩, ⟨(some 24), (some ((18, true))), none, (.bin .lss (.r 19) (.r 23))⟩, oA 25 (.pick (.r 18) (.r 24) (kB false)), oA 16 (kM 25)]) (.cond (.r 16) (.reg [oA 26 (kM 2), oA 27 (kM 4), oA 28 (.bsl 1 1 [.v (.int .i64 0)] [(0, (1, .r 27))]), oA 29 (.app 1 8 (.r 26) (.r 28)), oA 2 (kM 29)]) (.seq (.reg [oA 31 (kM 5), oA 30 (kM 31)]) (.cond (.r 30) (.reg [oA 32 (kM 3), oA 33 (kM 4), oA 34 (kM 0), oA 35 (.nchk (.r 34)), oA 36 (.fadr 0 (.r 35)), oL 37 36 none, oA 38 (.bin .sub (.r 33) (.r 37)), oA 39 (.bsl 1 1 [.v (.int .i64 0)] [(0, (1, .r 38))]), oA 40 (.app 1 8 (.r 32) (.r 39)), oA 3 (kM 40)]) .skip))))))) (.reg [oA 41 (.bin .add (.r 11) (kI 1)), oA 11 (kM 41)]))))))) (.seq (.reg [oA 42 (kM 2), oA 43 (kM 3), oA 2 (kM 42), oA 3 (kM 43)]) .ret)))⟩
theorem c29 : cfunc Tryd.prog 29 = some ir29 := by kernel_rfl
theorem k29 : okIR (max 1 ir29.n) ir29.ir = true := by decide +kernel
theorem s_RVoid (o : Nat) (R : Ru) (j : JH) (h : RuAt j o R) : JC Tryd.prog G 29 [.ptr o 0] j (RET (.tup [.sl .none (filt R.E R.nc).length (natv (filt R.E R.nc)), .sl .none (filt (fun s => R.E (R.nc + s)) R.nr).length (natv (filt (fun s => R.E (R.nc + s)) R.nr))]) j) := by
  have ho := h.lo
  have hg := h.go
  have hf := h.few
  have lE := h.lE
  have gE := h.gE
  have hz : R.sz = R.nc + R.nr := rfl
  refine JC.run hmix c29 (by exact k29) ?_
  (try simp only[↓jr,jw,seval,jq2,q_e5,ext_next,ext_tnext,Nat.le_refl,ext_get_old,Ru.cells,arrs_len,arrs_ld,brow_ld,brow_len,ho,hg,lE,gE,ir29])
  refine JLOOP.of (σ := Nat × RowT × RowT × JH) (fun s => s.1 ≤ R.sz ∧ TokExt j s.2.2.2 ∧ Fam j s.2.2.2 [s.2.1, s.2.2.1] ∧ s.2.1.2 = filt R.E (min s.1 R.nc) ∧ s.2.2.1.2 = filt (fun s => R.E (R.nc + s)) (s.1 - R.nc)) (fun s => R.sz - s.1)
    (fun s => [(11, I64 s.1), (10, I64 R.sz), (9, .arr R.oE 0 R.sz), (0, .ptr o 0), (2, .sl s.2.1.1 s.2.1.2.length (natv s.2.1.2)), (3, .sl s.2.2.1.1 s.2.2.1.2.length (natv s.2.2.1.2))])
    (fun s => ext s.2.2.2 []) (0, (.nil, []), (.nil, []), j) ⟨Nat.zero_le _, TokExt.refl _, ⟨fun i x hx => ?_, fun i k x y t hx hy e1 e2 => ?_⟩, by simp [filt], by simp [filt]⟩ ?_ (JDropH.refl _) ?_
  · match i, hx with
    | 0, hx => cases hx; exact CanApp.nil
    | 1, hx => cases hx; exact CanApp.nil
    | i + 2, hx => simp at hx
  · match i, hx with
    | 0, hx => cases hx; cases e1
    | 1, hx => cases hx; cases e1
    | i + 2, hx => simp at hx
  · ((try simp only[↓jr,jw,seval,jq2,q_e5,ext_next,ext_tnext,Nat.le_refl,ext_get_old,Ru.cells,arrs_len,arrs_ld,brow_ld,brow_len,ho,hg,lE,gE,DL]) <;> exact sbOg)
  rintro ⟨i, ⟨t1, l1⟩, ⟨t2, l2⟩, jx⟩ ⟨hi, ht, hF, h1, h2⟩
  simp only at hi ht hF h1 h2
  have hx := ht.next
  have go' : jx.get o = some (.cells 67 R.cells) := by rw [ht.get o ho]; exact hg
  have lo' : o < jx.next := by rw [hx]; exact ho
  have gE' : jx.get R.oE = some (.cells 4 (brow R.sz R.E)) := by rw [ht.get _ lE]; exact gE
  have lE' : R.oE < jx.next := by rw [hx]; exact lE
  (try simp only[↓jr,jw,seval,jq2,q_e5,ext_next,ext_tnext,Nat.le_refl,ext_get_old,Ru.cells,arrs_len,arrs_ld,brow_ld,brow_len,go',gE',ho,lE,hx])
  refine wq.intro (fun g1 => ?_) (fun g1 => ?_)
  · (try simp only[↓jr,jw,seval,jq2,q_e5,ext_next,ext_tnext,Nat.le_refl,ext_get_old,Ru.cells,arrs_len,arrs_ld,brow_ld,brow_len,go',gE',ho,lE,hx])
    refine wc.intro (by omega) ?_
    (try simp only[↓jr,jw,seval,jq2,q_e5,ext_next,ext_tnext,Nat.le_refl,ext_get_old,Ru.cells,arrs_len,arrs_ld,brow_ld,brow_len,go',gE',ho,lE,hx])
    refine wc.intro (by omega) ?_
    (try simp only[↓jr,jw,seval,jq2,q_e5,ext_next,ext_tnext,Nat.le_refl,ext_get_old,Ru.cells,arrs_len,arrs_ld,brow_ld,brow_len,go',gE',ho,lE,hx])
    refine ww.intro (fun q1 => ?_) (fun q1 => ?_)
    · (try simp only[↓jr,jw,seval,jq2,q_e5,ext_next,ext_tnext,Nat.le_refl,ext_get_old,Ru.cells,arrs_len,arrs_ld,brow_ld,brow_len,go',gE',ho,lE,hx])
      refine wq.intro (fun q2 => ?_) (fun q2 => ?_)
      · have hic : i < R.nc := by omega
        (try simp only[↓jr,jw,seval,jq2,q_e5,ext_next,ext_tnext,Nat.le_refl,ext_get_old,Ru.cells,arrs_len,arrs_ld,brow_ld,brow_len,go',gE',ho,lE,hx])
        refine JAPP.fam (i := 0) (v := i) (x := (t1, l1)) rfl (hF.push 1) (ht.push 1) (by simp only; rw [h1]; exact Nat.le_trans (filt_len _ _) (by omega)) ?_
        intro tok1 j1 hF1 ht1 hle
        have hx1 := ht1.next
        have hle' : jx.tnext ≤ j1.tnext := Nat.le_trans (Nat.le_succ _) hle
        (try simp only[↓jr,jw,seval,jq2,q_e5,ext_next,ext_tnext,Nat.le_refl,ext_get_old,Ru.cells,arrs_len,arrs_ld,brow_ld,brow_len,go',gE',ho,lE,hx,hx1])
        refine wc.intro (by unfold R64; omega) ?_
        (try simp only[↓jr,jw,seval,jq2,q_e5,ext_next,ext_tnext,Nat.le_refl,ext_get_old,Ru.cells,arrs_len,arrs_ld,brow_ld,brow_len,go',gE',ho,lE,hx])
        refine JNEXT.of (i + 1, (tok1, l1 ++ [i]), (t2, l2), j1) ⟨by simp only; omega, ht1, hF1, by simp only; rw [Nat.min_eq_left (by omega), filt_t q1, h1, Nat.min_eq_left (by omega)], by simp only; rw [h2, show i + 1 - R.nc = 0 from by omega, show i - R.nc = 0 from by omega]⟩ (by simp only; omega) ?_ (JDropH.nextT ht ht1 (TokExt.refl _) hle' (by simp only [LSub, and_self, true_or, and_true]))
        have c1 := hF1.can 0 _ rfl
        have c2 := hF1.can 1 _ rfl
        have hx0 := hx1
        (try simp only[↓jr,jw,seval,jq2,q_e5,ext_next,ext_tnext,Nat.le_refl,ext_get_old,Ru.cells,arrs_len,arrs_ld,brow_ld,brow_len,go',gE',ho,lE,hx,DL,natv_append,natv_one,hx0])
        simp only [natv_append, natv_one, List.length_append, List.length_cons, List.length_nil, Nat.zero_add] at c1 c2
        exact ⟨SubB.eqi (by omega), SubB.v, SubB.arr (by unfold pid; omega), SubB.ptr (by unfold pid; omega), SubB.can c1 (by first | exact natv_pur _ | (rw [pures_append, natv_pur]; rfl)), SubB.can c2 (by first | exact natv_pur _ | (rw [pures_append, natv_pur]; rfl))⟩
      · have hic : ¬ i < R.nc := by omega
        have es : (i : Int) - (R.nc : Int) = ((i - R.nc : Nat) : Int) := by omega
        have q1' : R.E (R.nc + (i - R.nc)) = true := by rw [show R.nc + (i - R.nc) = i from by omega]; exact q1
        (try simp only[↓jr,jw,seval,jq2,q_e5,ext_next,ext_tnext,Nat.le_refl,ext_get_old,Ru.cells,arrs_len,arrs_ld,brow_ld,brow_len,go',gE',ho,lE,hx])
        refine ww.intro (fun _ => ?_) (fun q => absurd (q1.symm.trans q) (by decide))
        (try simp only[↓jr,jw,seval,jq2,q_e5,ext_next,ext_tnext,Nat.le_refl,ext_get_old,Ru.cells,arrs_len,arrs_ld,brow_ld,brow_len,go',gE',ho,lE,hx])
        refine wc.intro (by unfold R64; omega) ?_
        (try simp only[↓jr,jw,seval,jq2,q_e5,ext_next,ext_tnext,Nat.le_refl,ext_get_old,Ru.cells,arrs_len,arrs_ld,brow_ld,brow_len,go',gE',ho,lE,hx,es])
        refine JAPP.fam (i := 1) (v := i - R.nc) (x := (t2, l2)) rfl (hF.push 1) (ht.push 1) (by simp only; rw [h2]; exact Nat.le_trans (filt_len _ _) (by omega)) ?_
        intro tok1 j1 hF1 ht1 hle
        have hx1 := ht1.next
        have hle' : jx.tnext ≤ j1.tnext := Nat.le_trans (Nat.le_succ _) hle
        (try simp only[↓jr,jw,seval,jq2,q_e5,ext_next,ext_tnext,Nat.le_refl,ext_get_old,Ru.cells,arrs_len,arrs_ld,brow_ld,brow_len,go',gE',ho,lE,hx,hx1])
        refine wc.intro (by unfold R64; omega) ?_
        (try simp only[↓jr,jw,seval,jq2,q_e5,ext_next,ext_tnext,Nat.le_refl,ext_get_old,Ru.cells,arrs_len,arrs_ld,brow_ld,brow_len,go',gE',ho,lE,hx])
        refine JNEXT.of (i + 1, (t1, l1), (tok1, l2 ++ [i - R.nc]), j1) ⟨by simp only; omega, ht1, hF1, by simp only; rw [Nat.min_eq_right (by omega), h1, Nat.min_eq_right (by omega)], by simp only; rw [show i + 1 - R.nc = (i - R.nc) + 1 from by omega, filt_t (p := fun s => R.E (R.nc + s)) q1', h2]⟩ (by simp only; omega) ?_ (JDropH.nextT ht ht1 (TokExt.refl _) hle' (by simp only [LSub, and_self, true_or, and_true]))
        have c1 := hF1.can 0 _ rfl
        have c2 := hF1.can 1 _ rfl
        have hx0 := hx1
        (try simp only[↓jr,jw,seval,jq2,q_e5,ext_next,ext_tnext,Nat.le_refl,ext_get_old,Ru.cells,arrs_len,arrs_ld,brow_ld,brow_len,go',gE',ho,lE,hx,DL,natv_append,natv_one,hx0])
        simp only [natv_append, natv_one, List.length_append, List.length_cons, List.length_nil, Nat.zero_add] at c1 c2
        exact ⟨SubB.eqi (by omega), SubB.v, SubB.arr (by unfold pid; omega), SubB.ptr (by unfold pid; omega), SubB.can c1 (by first | exact natv_pur _ | (rw [pures_append, natv_pur]; rfl)), SubB.can c2 (by first | exact natv_pur _ | (rw [pures_append, natv_pur]; rfl))⟩
    · (try simp only[↓jr,jw,seval,jq2,q_e5,ext_next,ext_tnext,Nat.le_refl,ext_get_old,Ru.cells,arrs_len,arrs_ld,brow_ld,brow_len,go',gE',ho,lE,hx])
      refine ww.intro (fun q => absurd (q1.symm.trans q) (by decide)) (fun _ => ?_)
      (try simp only[↓jr,jw,seval,jq2,q_e5,ext_next,ext_tnext,Nat.le_refl,ext_get_old,Ru.cells,arrs_len,arrs_ld,brow_ld,brow_len,go',gE',ho,lE,hx])
      refine wc.intro (by unfold R64; omega) ?_
      (try simp only[↓jr,jw,seval,jq2,q_e5,ext_next,ext_tnext,Nat.le_refl,ext_get_old,Ru.cells,arrs_len,arrs_ld,brow_ld,brow_len,go',gE',ho,lE,hx])
      have e1 : filt R.E (min (i + 1) R.nc) = filt R.E (min i R.nc) := by
        by_cases hic : i < R.nc
        · rw [Nat.min_eq_left (by omega), Nat.min_eq_left (by omega), filt_f q1]
        · rw [Nat.min_eq_right (by omega), Nat.min_eq_right (by omega)]
      have e2 : filt (fun s => R.E (R.nc + s)) (i + 1 - R.nc) = filt (fun s => R.E (R.nc + s)) (i - R.nc) := by
        by_cases hic : i < R.nc
        · rw [show i + 1 - R.nc = 0 from by omega, show i - R.nc = 0 from by omega]
        · rw [show i + 1 - R.nc = (i - R.nc) + 1 from by omega, filt_f (p := fun s => R.E (R.nc + s)) (by rw [show R.nc + (i - R.nc) = i from by omega]; exact q1)]
      refine JNEXT.of (i + 1, (t1, l1), (t2, l2), jx) ⟨by simp only; omega, ht, hF, by simp only; rw [e1]; exact h1, by simp only; rw [e2]; exact h2⟩ (by simp only; omega) ?_ (JDropH.nextT ht ht (TokExt.refl _) (Nat.le_refl _) (by simp only [LSub, and_self, true_or, and_true]))
      (try simp only[↓jr,jw,seval,jq2,q_e5,ext_next,ext_tnext,Nat.le_refl,ext_get_old,Ru.cells,arrs_len,arrs_ld,brow_ld,brow_len,go',gE',ho,lE,hx,DL])
      exact ⟨SubB.eqi (by omega), SubB.v, SubB.arr (by unfold pid; omega), SubB.ptr (by unfold pid; omega), SubB.can (hF.can 0 _ rfl) (natv_pur _), SubB.can (hF.can 1 _ rfl) (natv_pur _)⟩
  · (try simp only[↓jr,jw,seval,jq2,q_e5,ext_next,ext_tnext,Nat.le_refl,ext_get_old,Ru.cells,arrs_len,arrs_ld,brow_ld,brow_len,go',gE',ho,lE,hx])
    have ei : i = R.sz := by omega
    rw [ei, Nat.min_eq_right (by omega)] at h1
    rw [ei, show R.sz - R.nc = R.nr from by omega] at h2
    refine JFIN.ret ((JDropH.back ht).of_ext) ?_
    rw [← h1, ← h2]
    exact SubB.tup ⟨SubB.sl rfl (SubBs.pure (natv_pur _)), SubB.sl rfl (SubBs.pure (natv_pur _)), True.intro⟩
end

/-! ### The roles above a role, as the program tells them. -/
section
variable {m : Int} {G : Nat → Option (List AV)}
def ir64 : IFn := ⟨24, [⟨6, none⟩], (.seq (.reg [oA 6 (.mov (kB false))]) (.seq (.draw [oA 7 (kM 0), oA 8 (kM 1), oA 9 (kM 2), oA 10 (.nchk (.r 7)), oA 11 (.fadr 784 (.r 10)), oA 12 (.iaar 12 12 (.r 11) (.r 8)), oA 13 (.iaar 12 1 (.r 12) (.r 9)), oL 14 13 none, oA 15 (kM 14), ⟨(some 16), (some ((15, false))), none, (kM 0)⟩, ⟨(some 17), (some ((15, false))), none, (kM 1)⟩, ⟨(some 18), (some ((15, false))), (some (.r 17)), (.call 65 [.r 17])⟩, ⟨(some 19), (some ((15, false))), none, (.nchk (.r 16))⟩, ⟨(some 20), (some ((15, false))), none, (.fadr 1712 (.r 19))⟩, ⟨(some 21), (some ((15, false))), none, (.iaar 28 1 (.r 20) (.r 18))⟩, ⟨(some 22), (some ((15, false))), (some (.r 21)), (.load none (.r 21))⟩, oA 23 (.pick (.r 15) (kB true) (.r 22)), oA 6 (kM 23)] []) .ret))⟩
theorem c64 : cfunc Tryd.prog 64 = some ir64 := by kernel_rfl
theorem k64 : okIR (max 3 ir64.n) ir64.ir = true := by decide +kernel
theorem s_Below (o : Nat) (t : TypeId) (N s p : Nat) (ls : s < 12) (lp : p < 12) (j : JH) (ho : o < j.next) (hg : j.get o = some (.cells t (rb N))) : JC Tryd.prog G 64 [.ptr o 0, I64 s, I64 p] j (RET (BOO (rol N s p || emp N (16 + s))) j) := by
  have lo2 : ∀ {l : List AObj}, o < (ext j l).next := fun {l} => by rw [ext_next]; unfold pid; omega
  refine JC.run hmix c64 (by exact k64) ?_
  (try simp only[↓jr,jw,seval,jq2,q_e5,ext_next,ext_tnext,Nat.le_refl,ext_get_old,ho,hg,rb_ld,rb_len,ir64])
  refine wc.intro (by omega) ?_
  (try simp only[↓jr,jw,seval,jq2,q_e5,ext_next,ext_tnext,Nat.le_refl,ext_get_old,ho,hg,rb_ld,rb_len])
  refine wc.intro (by omega) ?_
  (try simp only[↓jr,jw,seval,jq2,q_e5,ext_next,ext_tnext,Nat.le_refl,ext_get_old,ho,hg,rb_ld,rb_len])
  refine wc.intro (by omega) ?_
  (try simp only[↓jr,jw,seval,jq2,q_e5,ext_next,ext_tnext,Nat.le_refl,ext_get_old,ho,hg,rb_ld,rb_len])
  refine ww.intro (fun q1 => ?_) (fun q1 => ?_)
  · (try simp only[↓jr,jw,seval,jq2,q_e5,ext_next,ext_tnext,Nat.le_refl,ext_get_old,ho,hg,rb_ld,rb_len])
    refine JDRAW.oc (by (try simp only[↓jr,jw,seval,jq2,q_e5,ext_next,ext_tnext,Nat.le_refl,ext_get_old,ho,hg,rb_ld,rb_len,jq]) <;> exact orq) ?_; (try simp only[↓jr,jw,seval,jq2,q_e5,ext_next,ext_tnext,Nat.le_refl,ext_get_old,ho,hg,rb_ld,rb_len])
    refine JFIN.rb ?_
    rw [show rol N s p = true from q1]; exact SubB.v
  · (try simp only[↓jr,jw,seval,jq2,q_e5,ext_next,ext_tnext,Nat.le_refl,ext_get_old,ho,hg,rb_ld,rb_len])
    refine JDC.use (s_some s (by unfold R64; omega) _) ?_
    (try simp only[↓jr,jw,seval,jq2,q_e5,ext_next,ext_tnext,Nat.le_refl,ext_get_old,ho,hg,rb_ld,rb_len,n16])
    refine wc.intro (by omega) ?_
    (try simp only[↓jr,jw,seval,jq2,q_e5,ext_next,ext_tnext,Nat.le_refl,ext_get_old,ho,hg,rb_ld,rb_len])
    refine wc.intro (by omega) ?_
    (try simp only[↓jr,jw,seval,jq2,q_e5,ext_next,ext_tnext,Nat.le_refl,ext_get_old,ho,hg,rb_ld,rb_len])
    refine JDRAW.oc (by (try simp only[↓jr,jw,seval,jq2,q_e5,ext_next,ext_tnext,Nat.le_refl,ext_get_old,ho,hg,rb_ld,rb_len,jq]) <;> exact orq) ?_; (try simp only[↓jr,jw,seval,jq2,q_e5,ext_next,ext_tnext,Nat.le_refl,ext_get_old,ho,hg,rb_ld,rb_len])
    refine JFIN.rb ?_
    rw [show rol N s p = false from q1]; exact SubB.v
def aboE (b : Bas) (role : Int) : Int := if askE b = 0 then (if 0 ≤ role ∧ role < b.kr then 0 else 1) else askE b
def aboF (b : Bas) (role : Nat) (s : Nat) : Bool := rol (rulesN b) role s || emp (rulesN b) (16 + role)
def aboL (b : Bas) (role : Int) : List Nat := if aboE b role = 0 then filt (aboF b role.toNat) b.kr else []
def ir25 : IFn := ⟨44, [⟨4, none⟩, ⟨5, none⟩], (.seq (.reg [oA 2 (.box 30 (.r 0)), oA 4 (.mov (.k (.sl .nil 0 []))), oA 5 (.mov (kI 0))]) (.seq (.seq (.reg [oL 11 2 (some 7), oT 12 11 (.call 45 [.r 11]), oA 6 (kM 12)]) (.seq (.reg [oA 13 (kM 6), oA 14 (.bin .neq (.r 13) (kI 0))]) (.cond (.r 14) (.seq (.reg [oA 15 (kM 6), oA 4 (.mov (.k (.sl .nil 0 []))), oA 5 (kM 15)]) .ret) .skip))) (.seq (.reg [oA 16 (.fadr 0 (.r 2)), oA 17 (.fadr 1 (.r 16)), oL 18 17 none, oT 19 18 (.lenl (.r 18)), oA 20 (.bin .mul (kI 2) (.r 19)), oA 7 (kM 20)]) (.seq (.seq (.reg [oA 21 (kM 1), oA 22 (.bin .lss (.r 21) (kI 0)), oA 23 (kM 22), ⟨(some 24), (some ((23, false))), none, (kM 1)⟩, ⟨(some 25), (some ((23, false))), none, (kM 7)⟩, ⟨(some 26), (some ((23, false))), none, (.bin .geq (.r 24) (.r 25))⟩, oA 27 (.pick (.r 23) (kB true) (.r 26))]) (.cond (.r 27) (.seq (.reg [oA 4 (.mov (.k (.sl .nil 0 []))), oA 5 (.mov (kI 1))]) .ret) .skip)) (.seq (.reg [oL 28 2 (some 7), oT 29 28 (.call 58 [.r 28]), oA 8 (kM 29)]) (.seq (.reg [oA 9 (.mov (.k (.sl .nil 0 [])))]) (.seq (.seq (.reg [oA 30 (kM 7), oA 31 (.mov (kI 0))]) (.block 0 (.loop (.seq (.reg [oA 32 (.bin .lss (.r 31) (.r 30))]) (.seq (.cond (.r 32) .skip (.exit 0)) (.seq (.block 1 (.seq (.reg [oA 33 (kM 31), oA 10 (kM 33)]) (.seq (.reg [oA 34 (kM 8), oA 35 (kM 1), oA 36 (kM 10), oA 37 (.call 64 [.r 34, .r 35, .r 36])]) (.cond (.r 37) (.reg [oA 38 (kM 9), oA 39 (kM 10), oA 40 (.bsl 1 1 [.v (.int .i64 0)] [(0, (1, .r 39))]), oA 41 (.app 1 8 (.r 38) (.r 40)), oA 9 (kM 41)]) .skip)))) (.reg [oA 42 (.bin .add (.r 31) (kI 1)), oA 31 (kM 42)]))))))) (.seq (.reg [oA 43 (kM 9), oA 4 (kM 43), oA 5 (.mov (kI 0))]) .ret))))))))⟩
theorem c25 : cfunc Tryd.prog 25 = some ir25 := by kernel_rfl
theorem k25 : okIR (max 2 ir25.n) ir25.ir = true := by decide +kernel
theorem s_Above (b : Bas) (hb : b.ok) (hf : b.few) (role : Int) (j : JH) : JC Tryd.prog (GG m) 25 [.agg b.enc, I64 role] j (RET (.tup [.sl .none (aboL b role).length (natv (aboL b role)), I64 (aboE b role)]) j) := by
  have n2 := hb.nms.2.1
  refine JC.run hmix c25 (by exact k25) ?_
  (try simp only[↓jr,jw,seval,rb_ld,rb_len,jq2,ext_ext,pid_pid,ir25])
  refine JCs.ret (s_asks b hb hf _) ?_
  (try simp only[↓jr,jw,seval,rb_ld,rb_len,jq2,ext_ext,pid_pid])
  refine wq.intro (fun h => ?_) (fun h => ?_)
  · have h2 := basR_few2 (askE_basR h).1
    have h2r := h2.r
    have er : (2 : Int) * (b.nms.rs.length : Int) = (b.kr : Int) := by unfold Bas.kr; omega
    (try simp only[↓jr,jw,seval,rb_ld,rb_len,jq2,ext_ext,pid_pid])
    refine wr.in (by unfold R64; omega) ?_
    rw [er]
    (try simp only[↓jr,jw,seval,rb_ld,rb_len,jq2,ext_ext,pid_pid])
    have bad : ¬ (0 ≤ role ∧ role < b.kr) → aboE b role = 1 ∧ aboL b role = [] := fun q => by
      have e : aboE b role = 1 := by unfold aboE; rw [if_pos h, if_neg q]
      exact ⟨e, by unfold aboL; rw [e]; rfl⟩
    refine wq.intro (fun q1 => ?_) (fun q1 => ?_)
    · (try simp only[↓jr,jw,seval,rb_ld,rb_len,jq2,ext_ext,pid_pid])
      refine JFIN.rb ?_
      obtain ⟨b1, b2⟩ := bad (by omega)
      rw [b1, b2, natv_nil]; exact sbOg
    (try simp only[↓jr,jw,seval,rb_ld,rb_len,jq2,ext_ext,pid_pid])
    refine wq.intro (fun q2 => ?_) (fun q2 => ?_)
    rotate_left
    · (try simp only[↓jr,jw,seval,rb_ld,rb_len,jq2,ext_ext,pid_pid])
      obtain ⟨r, er2, lr⟩ : ∃ r : Nat, role = r ∧ r < b.kr := ⟨role.toNat, by omega, by omega⟩
      have eE : aboE b role = 0 := by unfold aboE; rw [if_pos h, if_pos ⟨by omega, by omega⟩]
      have eL : aboL b role = filt (aboF b r) b.kr := by unfold aboL; rw [if_pos eE, er2]; rfl
      subst er2
      refine JCs.ret (s_RulesOf b hb (basR_lite (askE_basR h).1) _) ?_
      (try simp only[↓jr,jw,seval,rb_ld,rb_len,jq2,ext_ext,pid_pid])
      generalize hN : rulesN b = N
      have hF : ∀ s, aboF b r s = (rol N r s || emp N (16 + r)) := fun s => by unfold aboF; rw [hN]
      refine JLOOP.of (σ := Nat × Tok × JH) (fun s => s.1 ≤ b.kr ∧ TokExt j s.2.2 ∧ CanApp j s.2.2 s.2.1 1 (filt (aboF b r) s.1).length) (fun s => b.kr - s.1)
        (fun s => [(31, I64 s.1), (30, I64 b.kr), (1, I64 r), (8, .ptr (pid j.next 2) 0), (9, .sl s.2.1 (filt (aboF b r) s.1).length (natv (filt (aboF b r) s.1)))]) (fun s => ext s.2.2 [.cells 30 b.enc, .cells 30 b.enc, .cells 117 (rb N)]) (0, .nil, j) ⟨Nat.zero_le _, TokExt.refl _, CanApp.nil⟩ ?_ (JDropH.refl _) ?_
      · (try simp only[↓jr,jw,seval,rb_ld,rb_len,jq2,ext_ext,pid_pid,DL,filt_zero,natv_nil])
        exact sbOg
      rintro ⟨k, tk, jx⟩ ⟨hk, ht, hc⟩
      simp only at hk ht hc
      have hx := ht.next
      (try simp only[↓jr,jw,seval,rb_ld,rb_len,jq2,ext_ext,pid_pid,hx])
      refine wq.intro (fun h1 => ?_) (fun h1 => ?_)
      · (try simp only[↓jr,jw,seval,rb_ld,rb_len,jq2,ext_ext,pid_pid,hx])
        have hfl := filt_len (aboF b r) k
        refine JCs.ret (s_Below (pid j.next 2) 117 N r k (by omega) (by omega) _ (by rw [ext_next, hx]; unfold pid; simp) (by rw [ext_get_new hx]; rfl)) ?_
        rw [← hF]
        (try simp only[↓jr,jw,seval,rb_ld,rb_len,jq2,ext_ext,pid_pid,hx])
        refine ww.intro (fun h2 => ?_) (fun h2 => ?_)
        · (try simp only[↓jr,jw,seval,rb_ld,rb_len,jq2,ext_ext,pid_pid,hx])
          refine JAPP.can' hc.push (ht.push 1) (by rw [natv_len, Nat.mul_one]) rfl rfl (by omega) (by omega) ?_
          intro tok1 j1 hcan ht3 hle
          have hle' : jx.tnext ≤ j1.tnext := Nat.le_trans (Nat.le_succ _) hle
          (try simp only[↓jr,jw,seval,rb_ld,rb_len,jq2,ext_ext,pid_pid,ht3.next])
          refine wc.intro (by unfold R64; omega) ?_
          (try simp only[↓jr,jw,seval,rb_ld,rb_len,jq2,ext_ext,pid_pid])
          have e1 := filt_t (p := aboF b r) h2
          have e2 : (filt (aboF b r) (k + 1)).length = (filt (aboF b r) k).length + 1 := by rw [e1]; simp
          refine JNEXT.of (k + 1, tok1, j1) ⟨by simp only; omega, ht3, by simp only [e2]; exact hcan⟩ (by simp only; omega) ?_ (JDropH.nextT ht ht3 (TokExt.refl _) hle' (by simp only [LSub, and_self, true_or, and_true]))
          (try simp only[↓jr,jw,seval,rb_ld,rb_len,jq2,ext_ext,pid_pid,DL,e2,e1,natv_append,natv_one])
          exact ⟨SubB.eqi (by omega), SubB.v, SubB.v, SubB.ptr (by have := ht3.next; unfold pid; omega), SubB.can hcan (by rw [pures_append, natv_pur]; rfl)⟩
        · (try simp only[↓jr,jw,seval,rb_ld,rb_len,jq2,ext_ext,pid_pid,hx])
          refine wc.intro (by unfold R64; omega) ?_
          (try simp only[↓jr,jw,seval,rb_ld,rb_len,jq2,ext_ext,pid_pid])
          have e1 := filt_f (p := aboF b r) h2
          refine JNEXT.of (k + 1, tk, jx) ⟨by simp only; omega, ht, by simp only [e1]; exact hc⟩ (by simp only; omega) ?_ (JDropH.nextT ht ht (TokExt.refl _) (Nat.le_refl _) (by simp only [LSub, and_self, true_or, and_true]))
          (try simp only[↓jr,jw,seval,rb_ld,rb_len,jq2,ext_ext,pid_pid,DL,e1])
          exact ⟨SubB.eqi (by omega), SubB.v, SubB.v, SubB.ptr (by have := ht.next; unfold pid; omega), SubB.can hc (natv_pur _)⟩
      · (try simp only[↓jr,jw,seval,rb_ld,rb_len,jq2,ext_ext,pid_pid,hx])
        have hk' : k = b.kr := by omega
        subst hk'
        refine JFIN.ret ((JDropH.back ht).of_ext) ?_
        rw [eE, eL]
        exact SubB.tup ⟨SubB.sl rfl (SubBs.pure (natv_pur _)), SubB.v, True.intro⟩
    · (try simp only[↓jr,jw,seval,rb_ld,rb_len,jq2,ext_ext,pid_pid])
      refine JFIN.rb ?_
      obtain ⟨b1, b2⟩ := bad (by omega)
      rw [b1, b2, natv_nil]; exact sbOg
  · (try simp only[↓jr,jw,seval,rb_ld,rb_len,jq2,ext_ext,pid_pid])
    refine JFIN.rb ?_
    have e : aboE b role = askE b := by unfold aboE; rw [if_neg h]
    have e2 : aboL b role = [] := by unfold aboL; rw [e, if_neg h]
    rw [e, e2, natv_nil]; exact sbOg
end
end Go.Proofs.YtkcbhebbjpiibaaDoor.Pg
