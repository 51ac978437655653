/-
  The fixed calls return true.
-/
import Derived.Test.YtkcbhebbjpiibaaDoorLz
set_option linter.unusedVariables false
set_option linter.unusedSimpArgs false
set_option linter.defProp false
set_option maxRecDepth 20000
set_option maxHeartbeats 1000000
namespace Go.Proofs.YtkcbhebbjpiibaaDoor.Pg
open Go
theorem sbMa {A : Prop} (h : A := by repeat' (first | exact trivial | refine And.intro ?_ ?_ | exact SubB.v | exact SubB.any | ((first | refine SubB.ptr ?_ | refine SubB.arr ?_ | refine SubB.mp ?_) <;> first | assumption | (unfold pid; omega)) | ((first | refine SubB.pure ?_ | refine SubBs.pure ?_) <;> (simp only [AV.pure, AV.pures, pures_append, jpu, rrow_pur, rb_pur, natv_pur, Bool.and_self, Bool.and_true, Bool.true_and]; done)) | refine SubB.fn ?_ ?_ | refine SubB.sl ?_ ?_ | refine SubB.agg ?_ | refine SubB.tup ?_ | rfl)) : A := h
variable {m : Int} {G : Nat → Option (List AV)}
theorem pInc_ok : ∀ x ∈ pInc, x.sub.ok ∧ x.sup.ok := by
  intro x hx
  simp only [pInc, List.mem_cons, List.not_mem_nil, or_false] at hx
  rcases hx with rfl | rfl | rfl <;> simp [Con.ok, Con.oks, pN0, pN1, pF0, pF1, pX, R64]
theorem pInc_few : ∀ x ∈ pInc, x.sub.nodes ≤ 4000000000 ∧ x.sup.nodes ≤ 4000000000 := by
  intro x hx
  simp only [pInc, List.mem_cons, List.not_mem_nil, or_false] at hx
  rcases hx with rfl | rfl | rfl <;> simp [Con.nodes, Con.nodesL, pN0, pN1, pF0, pF1, pX]
theorem pNms_short : pNms.short := by
  intro l hl s hs
  simp only [Nms.lists, pNms, List.mem_cons, List.not_mem_nil, or_false] at hl
  rcases hl with rfl | rfl | rfl
  · simp only [List.mem_cons, List.not_mem_nil, or_false] at hs
    rcases hs with rfl | rfl <;> decide
  · simp only [List.mem_cons, List.not_mem_nil, or_false] at hs
    rcases hs with rfl; decide
  · cases hs
theorem pNms_ok : pNms.ok := ⟨by decide, by decide, by decide⟩
theorem pB_ok : pB.ok := ⟨pNms_ok, pNms_short, by decide, by decide, by decide, by decide, pInc_ok, (by intro x hx; cases hx), (by intro x hx; cases hx), (by intro x hx; cases hx)⟩
theorem pB2_ok : pB2.ok := ⟨pNms_ok, pNms_short, by decide, by decide, by decide, by decide, pInc_ok, (by intro x hx; rcases List.mem_singleton.1 hx with rfl; unfold R64; decide), (by intro x hx; cases hx), (by intro x hx; cases hx)⟩
theorem pB3_ok : pB3.ok := by
  refine ⟨⟨by decide, by decide, by decide⟩, ?_, by decide, by decide, by decide, by decide, (by intro x hx; cases hx), (by intro x hx; cases hx), (by intro x hx; cases hx), (by intro x hx; cases hx)⟩
  intro l hl s hs
  simp only [Nms.lists, pB3, List.mem_cons, List.not_mem_nil, or_false] at hl
  rcases hl with rfl | rfl | rfl
  · rcases List.mem_singleton.1 hs with rfl; decide
  · cases hs
  · cases hs
theorem pB_few : pB.few := ⟨pInc_few, (by intro x hx; cases hx)⟩
theorem pB2_few : pB2.few := ⟨pInc_few, (by intro x hx; cases hx)⟩
theorem pB3_few : pB3.few := ⟨(by intro x hx; cases hx), (by intro x hx; cases hx)⟩
theorem pB2_bare : pB2.bare := ⟨rfl, rfl, rfl⟩
theorem pX_ok : (Con.mk 3 0 [pN0]).ok ∧ pN1.ok := by simp [Con.ok, Con.oks, pN0, pN1, R64]
theorem JC.weak {P : Program} {f : FuncId} {xs ys : List AV} {j : JH} {Q : AOut → JH → Prop} (h : JC P G f ys j Q) (s : SubBs j.next j.tnext xs ys) : JC P G f xs j Q := fun hh e B0 μ w vs r hv => by
  have e1 : hh.next = j.next := congrArg JH.next e
  have e2 : hh.tnext = j.tnext := congrArg JH.tnext e
  refine h hh e B0 μ w vs r (SubBs.Vs s ⟨fun o => ?_, fun t => ?_, fun _ _ => Iff.rfl⟩ hv)
  · split
    · rfl
    · exact r.next o (by omega)
  · split
    · rfl
    · exact r.tnext t (by omega)
theorem sp_r {x : AV} : icut (some 7) (splice pB.enc 4 [x]) 0 = some (.agg (splice pB.enc 4 [x])) := rfl
theorem sp_r2 {x : AV} : (splice pB.enc 4 [x]).length = 7 := rfl
theorem wk {no nt : Nat} {tok : Tok} : SubBs no nt [.agg (splice pB.enc 4 [AV.sl tok 1 [I64 0, I64 1]])] [.agg pB2.enc] :=
  ⟨SubB.agg ⟨SubB.pure rfl, SubB.pure rfl, SubB.pure rfl, SubB.pure rfl, SubB.sl rfl (SubBs.pure rfl), SubB.pure rfl, SubB.pure rfl, True.intro⟩, True.intro⟩
theorem wk3 {no nt : Nat} {tok : Tok} : SubBs no nt [.agg [AV.sl tok 1 [STR ⟨#[116, 111, 112]⟩], .sl .nil 0 [], .sl .nil 0 [], .sl .nil 0 [], .sl .nil 0 [], .sl .nil 0 [], .sl .nil 0 []]] [.agg pB3.enc] :=
  ⟨SubB.agg ⟨SubB.sl rfl (SubBs.pure rfl), SubB.sl rfl (SubBs.pure rfl), SubB.sl rfl (SubBs.pure rfl), SubB.sl rfl (SubBs.pure rfl), SubB.sl rfl (SubBs.pure rfl), SubB.sl rfl (SubBs.pure rfl), SubB.sl rfl (SubBs.pure rfl), True.intro⟩, True.intro⟩
def ir11 : IFn := ⟨89, [⟨0, none⟩], (.seq (.reg [oA 0 (.mov (kB false))]) (.seq (.reg [oA 14 (.call 43 []), oA 1 (.alloc 30 [.sl .nil 0 [], .sl .nil 0 [], .sl .nil 0 [], .sl .nil 0 [], .sl .nil 0 [], .sl .nil 0 [], .sl .nil 0 []]), oN (.store 7 (.r 1) (.r 14))]) (.seq (.draw [oL 16 1 (some 7), ⟨(some 17), none, (some (kI 1)), (.call 44 [.k (.v (.int .i64 1))])⟩, ⟨(some 18), none, (some (kI 0)), (.call 44 [.k (.v (.int .i64 0))])⟩, oT 19 18 (.call 17 [.r 18]), oA 20 (.call 18 [.r 16, .r 17, .r 19]), oA 15 (kM 20), oA 21 (.ext (.r 15) 0), oA 22 (.ext (.r 15) 1), oA 2 (kM 21), oA 3 (kM 22)] [(0, 1), (0, 2), (0, 3)]) (.seq (.reg [oL 24 1 (some 7), oT 25 24 (.call 26 [.r 24]), oA 23 (kM 25), oA 26 (.ext (.r 23) 0), oA 27 (.ext (.r 23) 1), oA 28 (.ext (.r 23) 2), oA 4 (kM 26), oA 5 (kM 27), oA 6 (kM 28)]) (.seq (.reg [oA 29 (.build [.v (.int .i64 0), .v (.int .i64 0)] [(0, (1, .k (.v (.int .i64 0)))), (1, (1, .k (.v (.int .i64 1))))]), oA 30 (.bsl 1 2 [.v (.int .i64 0), .v (.int .i64 0)] [(0, (2, .r 29))]), oA 31 (.fadr 4 (.r 1)), oN (.store 1 (.r 31) (.r 30))]) (.seq (.reg [oL 33 1 (some 7), oT 34 33 (.call 26 [.r 33]), oA 32 (kM 34), oA 35 (.ext (.r 32) 0), oA 36 (.ext (.r 32) 1), oA 37 (.ext (.r 32) 2), oA 7 (kM 35), oA 8 (kM 36), oA 9 (kM 37)]) (.seq (.reg [oL 39 1 (some 7), oT 40 39 (.call 12 [.r 39]), oA 38 (kM 40), oA 41 (.ext (.r 38) 0), oA 42 (.ext (.r 38) 1), oA 10 (kM 41), oA 11 (kM 42)]) (.seq (.reg [oA 44 (.bsl 1 1 [.v (.string ⟨#[]⟩)] [(0, (1, .k (.v (.string ⟨#[116, 111, 112]⟩))))]), oA 45 (.build [.sl .nil 0 [], .sl .nil 0 [], .sl .nil 0 []] [(0, (1, .r 44))]), oA 46 (.build [.sl .nil 0 [], .sl .nil 0 [], .sl .nil 0 [], .sl .nil 0 [], .sl .nil 0 [], .sl .nil 0 [], .sl .nil 0 []] [(0, (3, .r 45))]), oT 47 46 (.call 19 [.r 46]), oA 43 (kM 47), oA 48 (.ext (.r 43) 0), oA 49 (.ext (.r 43) 1), oA 12 (kM 48), oA 13 (kM 49)]) (.seq (.reg [oA 50 (kM 3), oA 51 (.bin .eql (.r 50) (kI 0)), oA 52 (kM 51), ⟨(some 53), (some ((52, true))), none, (kM 2)⟩, oA 54 (.pick (.r 52) (.r 53) (kB false)), oA 55 (kM 54), ⟨(some 56), (some ((55, true))), none, (kM 6)⟩, ⟨(some 57), (some ((55, true))), none, (.bin .eql (.r 56) (kI 0))⟩, oA 58 (.pick (.r 55) (.r 57) (kB false)), oA 59 (kM 58), ⟨(some 60), (some ((59, true))), none, (kM 4)⟩, ⟨(some 61), (some ((59, true))), (some (.r 60)), (.lenl (.r 60))⟩, ⟨(some 62), (some ((59, true))), none, (.bin .eql (.r 61) (kI 0))⟩, oA 63 (.pick (.r 59) (.r 62) (kB false)), oA 64 (kM 63), ⟨(some 65), (some ((64, true))), none, (kM 9)⟩, ⟨(some 66), (some ((64, true))), none, (.bin .eql (.r 65) (kI 0))⟩, oA 67 (.pick (.r 64) (.r 66) (kB false)), oA 68 (kM 67), ⟨(some 69), (some ((68, true))), none, (kM 7)⟩, ⟨(some 70), (some ((68, true))), none, (.bsl 1 1 [.v (.int .i64 0)] [(0, (1, .k (.v (.int .i64 0))))])⟩, ⟨(some 71), (some ((68, true))), none, (.call 30 [.r 69, .r 70])⟩, oA 72 (.pick (.r 68) (.r 71) (kB false)), oA 73 (kM 72), ⟨(some 74), (some ((73, true))), none, (kM 8)⟩, ⟨(some 75), (some ((73, true))), (some (.r 74)), (.lenl (.r 74))⟩, ⟨(some 76), (some ((73, true))), none, (.bin .eql (.r 75) (kI 0))⟩, oA 77 (.pick (.r 73) (.r 76) (kB false)), oA 78 (kM 77), ⟨(some 79), (some ((78, true))), none, (kM 11)⟩, ⟨(some 80), (some ((78, true))), none, (.bin .eql (.r 79) (kI 0))⟩, oA 81 (.pick (.r 78) (.r 80) (kB false)), oA 82 (kM 81), ⟨(some 83), (some ((82, true))), none, (kM 10)⟩, oA 84 (.pick (.r 82) (.r 83) (kB false)), oA 85 (kM 84), ⟨(some 86), (some ((85, true))), none, (kM 13)⟩, ⟨(some 87), (some ((85, true))), none, (.bin .eql (.r 86) (kI 20))⟩, oA 88 (.pick (.r 85) (.r 87) (kB false)), oA 0 (kM 88)]) .ret)))))))))⟩
theorem c11 : cfunc Tryd.prog 11 = some ir11 := by kernel_rfl
theorem k11 : okIR (max 0 ir11.n) ir11.ir = true := by decide +kernel
theorem s_awake (j : JH) : JC Tryd.prog (GG m) 11 [] j (RET (BOO true) j) := by
  refine JC.run hmix c11 (by exact k11) ?_
  (try simp only[↓jr,jw,seval,jq2,q_e5,q_t2,ext_next,ext_tnext,Nat.le_refl,Nat.le_add_right,ir11])
  refine JCs.ret (s_profs _) ?_
  (try simp only[↓jr,jw,seval,jq2,q_e5,q_t2,ext_next,ext_tnext,Nat.le_refl,Nat.le_add_right])
  refine JDC.use (s_RName 1 _) ?_
  (try simp only[↓jr,jw,seval,jq2,q_e5,q_t2,ext_next,ext_tnext,Nat.le_refl,Nat.le_add_right])
  refine JDC.use (s_RName 0 _) ?_
  (try simp only[↓jr,jw,seval,jq2,q_e5,q_t2,ext_next,ext_tnext,Nat.le_refl,Nat.le_add_right])
  refine JDC.use (s_not pN0 _) ?_
  (try simp only[↓jr,jw,seval,jq2,q_e5,q_t2,ext_next,ext_tnext,Nat.le_refl,Nat.le_add_right])
  refine JDC.use (s_Implies pB pN1 (.mk 3 0 [pN0]) pB_ok pB_few pNms_short pX_ok.2 pX_ok.1 (by decide) (by decide) _) ?_
  rw [ev_imp, ev_impB]
  (try simp only[↓jr,jw,seval,jq2,q_e5,q_t2,ext_next,ext_tnext,Nat.le_refl,Nat.le_add_right])
  refine JDRAW.oc (by (try simp only[↓jr,jw,seval,jq2,q_e5,q_t2,ext_next,ext_tnext,Nat.le_refl,Nat.le_add_right,jq]) <;> exact orq) ?_; (try simp only[↓jr,jw,seval,jq2,q_e5,q_t2,ext_next,ext_tnext,Nat.le_refl,Nat.le_add_right])
  refine JCs.ret (s_Empty pB pB_ok pB_few _) ?_
  rw [ev_C1, ev_pB]
  generalize emptR pB = zr
  (try simp only[↓jr,jw,seval,jq2,q_e5,q_t2,ext_next,ext_tnext,Nat.le_refl,Nat.le_add_right])
  rw [sp_r]
  (try simp only[↓jr,jw,seval,jq2,q_e5,q_t2,ext_next,ext_tnext,Nat.le_refl,Nat.le_add_right])
  refine JCs.ret (JC.weak (s_Empty pB2 pB2_ok pB2_few _) wk) ?_
  rw [ev_C2.1, ev_C2.2, ev_pB2]
  (try simp only[↓jr,jw,seval,jq2,q_e5,q_t2,ext_next,ext_tnext,Nat.le_refl,Nat.le_add_right])
  rw [sp_r]
  (try simp only[↓jr,jw,seval,jq2,q_e5,q_t2,ext_next,ext_tnext,Nat.le_refl,Nat.le_add_right])
  refine JCs.ret (JC.weak (s_Consistent0 pB2 pB2_ok pB2_few ev_pB2 pB2_bare _) wk) ?_
  (try simp only[↓jr,jw,seval,jq2,q_e5,q_t2,ext_next,ext_tnext,Nat.le_refl,Nat.le_add_right])
  refine JCs.ret (JC.weak (s_lFits pB3 pB3_ok pB3_few _) wk3) ?_
  rw [ev_pB3]
  (try simp only[↓jr,jw,seval,jq2,q_e5,q_t2,ext_next,ext_tnext,Nat.le_refl,Nat.le_add_right])
  refine JCs.ret (s_SameInts [0] [0] .none (.own (j.tnext + 1 + 1) 0 1) (by decide) (by decide) _) ?_
  (try simp only[↓jr,jw,seval,jq2,q_e5,q_t2,ext_next,ext_tnext,Nat.le_refl,Nat.le_add_right])
  repeat' (refine wq.intro (fun _ => ?_) (fun q => absurd rfl q); (try simp only[↓jr,jw,seval,jq2,q_e5,q_t2,ext_next,ext_tnext,Nat.le_refl,Nat.le_add_right]))
  refine JFIN.rb ?_
  exact SubB.v
theorem look_few {b : Bas} {l : List Con} (h : lookB b l = true) : b.few ∧ ∀ c ∈ l, c.nodes ≤ 400 := by
  unfold lookB at h
  rw [Bool.and_eq_true, List.all_eq_true] at h
  obtain ⟨h1, h2⟩ := h
  unfold fewB at h2
  simp only [Bool.and_eq_true, List.all_eq_true, decide_eq_true_eq] at h2
  refine ⟨few_of fun c hc => ?_, fun c hc => ?_⟩
  · have := h2.1.2 c hc; omega
  · have := h1 c hc; simp only [decide_eq_true_eq] at this; omega
end Go.Proofs.YtkcbhebbjpiibaaDoor.Pg
