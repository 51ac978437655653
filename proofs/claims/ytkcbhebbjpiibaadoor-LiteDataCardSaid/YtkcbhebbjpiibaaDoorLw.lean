/-
  Consistency of a knowledge base without individuals.
-/
import Derived.Test.YtkcbhebbjpiibaaDoorLv
set_option linter.unusedVariables false
set_option linter.unusedSimpArgs false
set_option linter.defProp false
set_option maxRecDepth 20000
set_option maxHeartbeats 1000000
namespace Go.Proofs.YtkcbhebbjpiibaaDoor.Pg
open Go
theorem sbLw {A : Prop} (h : A := by repeat' (first | exact trivial | refine And.intro ?_ ?_ | exact SubB.v | exact SubB.any | ((first | refine SubB.ptr ?_ | refine SubB.arr ?_ | refine SubB.mp ?_) <;> first | assumption | (unfold pid; omega)) | ((first | refine SubB.pure ?_ | refine SubBs.pure ?_) <;> (simp only [AV.pure, AV.pures, pures_append, jpu, rrow_pur, rb_pur, natv_pur, Bool.and_self, Bool.and_true, Bool.true_and]; done)) | refine SubB.fn ?_ ?_ | refine SubB.sl ?_ ?_ | refine SubB.agg ?_ | refine SubB.tup ?_ | rfl)) : A := h
variable {m : Int} {G : Nat → Option (List AV)}
theorem JMKS.same {j : JH} {e : TypeId} {es bytes n : Nat} {z : List AV} {K : AV → JH → Prop} (h : bytes * n ≤ 281474976710656) (h2 : n ≤ 9223372036854775807) (k : K (.arr j.next 0 n) (j.push (.cells e (acycle z (n * es))))) : @JMKS j e es bytes z (I64 n) (I64 n) ⟨K⟩ := by
  refine ⟨⟨by omega, by omega, ?_, by omega⟩, fun _ => by rw [Int.toNat_natCast]; exact k, fun q => absurd rfl q⟩
  have : ((bytes * n : Nat) : Int) ≤ 281474976710656 := by omega
  rw [Int.natCast_mul] at this; exact this
theorem acycle_zero {z : List AV} : acycle z 0 = [] := rfl
def Bas.bare (b : Bas) : Prop := b.nms.is = [] ∧ b.facts = [] ∧ b.links = []
def ir77 : IFn := ⟨75, [⟨2, none⟩], (.seq (.reg [oA 1 (.box 30 (.r 0)), oA 2 (.mov (.k (.sl .nil 0 [])))]) (.seq (.reg [oA 8 (.fadr 0 (.r 1)), oA 9 (.fadr 2 (.r 8)), oL 10 9 none, oT 11 10 (.lenl (.r 10)), oA 12 (.mks 129 1 24 [.sl .nil 0 []] (.r 11) (.r 11)), oA 3 (kM 12)]) (.seq (.seq (.reg [oA 13 (.fadr 5 (.r 1)), oL 14 13 none, oT 15 14 (.lenl (.r 14)), oA 16 (.mov (kI 0))]) (.block 0 (.loop (.seq (.reg [oA 17 (.bin .lss (.r 16) (.r 15))]) (.seq (.cond (.r 17) .skip (.exit 0)) (.seq (.block 1 (.seq (.reg [oA 18 (.iasl 4 (.r 14) (.r 16)), oL 19 18 (some 4), oA 5 (.alloc 92 [.v (.int .i64 0), .v (.int .i64 0), .v (.int .i64 0), .sl .nil 0 []]), oN (.store 4 (.r 5) (.r 19))]) (.draw [oA 20 (kM 3), oA 21 (.fadr 0 (.r 5)), oL 22 21 none, oA 23 (kM 3), oA 24 (.fadr 0 (.r 5)), oL 25 24 none, oA 26 (.iasl 1 (.r 23) (.r 25)), oL 27 26 none, oA 28 (.fadr 1 (.r 5)), oA 29 (.fadr 1 (.r 28)), oL 30 29 none, oA 31 (.bsl 1 1 [.v (.int .i64 0)] [(0, (1, .r 30))]), oA 32 (.app 1 8 (.r 27) (.r 31)), oA 33 (.iasl 1 (.r 20) (.r 22)), oN (.store 1 (.r 33) (.r 32))] [(2, 12)]))) (.reg [oA 34 (.bin .add (.r 16) (kI 1)), oA 16 (kM 34)]))))))) (.seq (.seq (.reg [oA 35 (.fadr 6 (.r 1)), oL 36 35 none, oT 37 36 (.lenl (.r 36)), oA 38 (.mov (kI 0))]) (.block 2 (.loop (.seq (.reg [oA 39 (.bin .lss (.r 38) (.r 37))]) (.seq (.cond (.r 39) .skip (.exit 2)) (.seq (.block 3 (.seq (.reg [oA 40 (.iasl 3 (.r 36) (.r 38)), oL 41 40 (some 3), oA 7 (.alloc 94 [.v (.int .i64 0), .v (.int .i64 0), .v (.int .i64 0)]), oN (.store 3 (.r 7) (.r 41))]) (.seq (.draw [oA 42 (kM 3), oA 43 (.fadr 1 (.r 7)), oL 44 43 none, oA 45 (kM 3), oA 46 (.fadr 1 (.r 7)), oL 47 46 none, oA 48 (.iasl 1 (.r 45) (.r 47)), oL 49 48 none, oA 50 (.fadr 0 (.r 7)), oL 51 50 none, oA 52 (.bin .mul (kI 2) (.r 51)), oT 53 52 (.call 65 [.r 52]), oA 54 (.bsl 1 1 [.v (.int .i64 0)] [(0, (1, .r 53))]), oA 55 (.app 1 8 (.r 49) (.r 54)), oA 56 (.iasl 1 (.r 42) (.r 44)), oN (.store 1 (.r 56) (.r 55))] [(2, 11), (2, 13), (5, 11), (7, 11)]) (.draw [oA 57 (kM 3), oA 58 (.fadr 2 (.r 7)), oL 59 58 none, oA 60 (kM 3), oA 61 (.fadr 2 (.r 7)), oL 62 61 none, oA 63 (.iasl 1 (.r 60) (.r 62)), oL 64 63 none, oA 65 (.fadr 0 (.r 7)), oL 66 65 none, oA 67 (.bin .mul (kI 2) (.r 66)), oA 68 (.bin .add (.r 67) (kI 1)), oT 69 68 (.call 65 [.r 68]), oA 70 (.bsl 1 1 [.v (.int .i64 0)] [(0, (1, .r 69))]), oA 71 (.app 1 8 (.r 64) (.r 70)), oA 72 (.iasl 1 (.r 57) (.r 59)), oN (.store 1 (.r 72) (.r 71))] [(2, 12), (2, 14), (5, 12), (7, 12)])))) (.reg [oA 73 (.bin .add (.r 38) (kI 1)), oA 38 (kM 73)]))))))) (.seq (.reg [oA 74 (kM 3), oA 2 (kM 74)]) .ret)))))⟩
theorem c77 : cfunc Tryd.prog 77 = some ir77 := by kernel_rfl
theorem k77 : okIR (max 1 ir77.n) ir77.ir = true := by decide +kernel
theorem s_stated0 (b : Bas) (h : b.bare) (j : JH) : JC Tryd.prog G 77 [.agg b.enc] j (RET (.arr (pid j.next 1) 0 0) (ext j [.cells 30 b.enc, .cells 129 []])) := by
  obtain ⟨h1, h2, h3⟩ := h
  have e1 : b.nms.is.length = 0 := by rw [h1]; rfl
  have e2 : b.facts.length = 0 := by rw [h2]; rfl
  have e3 : b.links.length = 0 := by rw [h3]; rfl
  refine JC.run hmix c77 (by exact k77) ?_
  (try simp only[↓jr,jw,seval,e1,e2,e3,ir77])
  refine JMKS.same (n := 0) (by omega) (by omega) ?_
  (try simp only[↓jr,jw,seval,e1,e2,e3,ext_push,ext_next,acycle_zero,Nat.zero_mul])
  refine JLOOP.of (σ := Unit) (fun _ => True) (fun _ => 0) (fun _ => [(16, I64 0), (15, I64 0), (1, .ptr (pid j.next 0) 0), (3, .arr (pid j.next 1) 0 0)]) (fun _ => ext j [.cells 30 b.enc, .cells 129 []]) () trivial ?_ (JDropH.refl _) ?_
  · ((try simp only[↓jr,jw,seval,e1,e2,e3,DL]) <;> exact sbLw)
  rintro ⟨⟩ -
  (try simp only[↓jr,jw,seval,e1,e2,e3])
  refine JLOOP.of (σ := Unit) (fun _ => True) (fun _ => 0) (fun _ => [(38, I64 0), (37, I64 0), (1, .ptr (pid j.next 0) 0), (3, .arr (pid j.next 1) 0 0)]) (fun _ => ext j [.cells 30 b.enc, .cells 129 []]) () trivial ?_ (JDropH.refl _) ?_
  · ((try simp only[↓jr,jw,seval,e1,e2,e3,DL]) <;> exact sbLw)
  rintro ⟨⟩ -
  (try simp only[↓jr,jw,seval,e1,e2,e3])
  refine JFIN.ret (JDropH.keep ?_) (SubB.arr (by rw [ext_next]; unfold pid; simp))
  intro ob hob
  simp only [List.mem_cons, List.not_mem_nil, or_false] at hob
  rcases hob with rfl | rfl
  · exact OSub.pure (Bas.pur b)
  · exact OSub.pure rfl
theorem sp_b1 {b : Bas} {a1 a2 a3 a4 a5 a6 a7 a8 : AV} : splice [a1, a2, a3, a4, a5, a6, a7, a8] 0 b.enc = b.enc ++ [a8] := rfl
theorem sp_b2 {b : Bas} {a x : AV} : splice (b.enc ++ [a]) 7 [x] = b.enc ++ [x] := rfl
theorem sp_b3 {b : Bas} {a : AV} : (b.enc ++ [a]).length = 8 := rfl
theorem sp_b4 {b : Bas} {a : AV} : irow 8 (b.enc ++ [a]) = some (b.enc ++ [a]) := rfl
def ir46 : IFn := ⟨9, [⟨2, (some (some 9))⟩], (.seq (.reg [oA 1 (.box 30 (.r 0)), oA 2 (.alloc 86 [.v (.pointer none), .sl .nil 0 [], .sl .nil 0 [], .sl .nil 0 [], .sl .nil 0 [], .sl .nil 0 [], .sl .nil 0 [], .sl .nil 0 [], .sl .nil 0 []])]) (.seq (.draw [oL 3 1 (some 7), oT 4 3 (.call 58 [.r 3]), oL 5 1 (some 7), oL 6 1 (some 7), oT 7 6 (.call 77 [.r 6]), oA 8 (.build [.v (.pointer none), .sl .nil 0 [], .sl .nil 0 [], .sl .nil 0 [], .sl .nil 0 [], .sl .nil 0 [], .sl .nil 0 [], .sl .nil 0 [], .sl .nil 0 []] [(0, (1, .r 4)), (1, (7, .r 5)), (8, (1, .r 7))]), oN (.store 9 (.r 2) (.r 8))] [(2, 1), (2, 4), (3, 1)]) .ret))⟩
theorem c46 : cfunc Tryd.prog 46 = some ir46 := by kernel_rfl
theorem k46 : okIR (max 1 ir46.n) ir46.ir = true := by decide +kernel
theorem s_WorldOf0 (b : Bas) (hb : b.ok) (h : basR b = true) (h0 : b.bare) (j : JH) : JC Tryd.prog G 46 [.agg b.enc] j (RET (.agg (AV.ptr (pid j.next 3) 0 :: (b.enc ++ [AV.arr (pid j.next 5) 0 0]))) (ext j [.cells 30 b.enc, .cells 86 (AV.ptr (pid j.next 3) 0 :: (b.enc ++ [AV.arr (pid j.next 5) 0 0])), .cells 30 b.enc, .cells 117 (rb (rulesN b)), .cells 30 b.enc, .cells 129 []])) := by
  refine JC.run hmix c46 (by exact k46) ?_
  (try simp only[↓jr,jw,seval,rb_ld,rb_len,jq2,ext_ext,pid_pid,sp_b1,sp_b2,sp_b3,sp_b4,ir46])
  refine JDC.use (s_RulesOf b hb (basR_lite h) _) ?_
  (try simp only[↓jr,jw,seval,rb_ld,rb_len,jq2,ext_ext,pid_pid,sp_b1,sp_b2,sp_b3,sp_b4])
  refine JDC.use (s_stated0 b h0 _) ?_
  (try simp only[↓jr,jw,seval,rb_ld,rb_len,jq2,ext_ext,pid_pid,sp_b1,sp_b2,sp_b3,sp_b4])
  refine wc.intro (by first | omega | trivial | (rw [sp_b1]; decide) | (simp only [sp_b1, sp_b3]; decide) | trace_state) ?_
  (try simp only[↓jr,jw,seval,rb_ld,rb_len,jq2,ext_ext,pid_pid,sp_b1,sp_b2,sp_b3,sp_b4])
  refine JDRAW.oc (by (try simp only[↓jr,jw,seval,rb_ld,rb_len,jq2,ext_ext,pid_pid,sp_b1,sp_b2,sp_b3,sp_b4,jq]) <;> exact orq) ?_; (try simp only[↓jr,jw,seval,rb_ld,rb_len,jq2,ext_ext,pid_pid,sp_b1,sp_b2,sp_b3,sp_b4])
  have sb : ∀ k, 6 ≤ k → SubBs (pid j.next k) j.tnext (AV.ptr (pid j.next 3) 0 :: (b.enc ++ [AV.arr (pid j.next 5) 0 0])) (AV.ptr (pid j.next 3) 0 :: (b.enc ++ [AV.arr (pid j.next 5) 0 0])) := fun k hk =>
    ⟨SubB.ptr (by unfold pid; omega), SubBs.append (SubBs.pure (Bas.pur b)) ⟨SubB.arr (by unfold pid; omega), True.intro⟩⟩
  refine JFIN.ret (JDropH.keep ?_) (SubB.agg (sb 6 (by omega)))
  intro ob hob
  simp only [List.mem_cons, List.not_mem_nil, or_false] at hob
  rcases hob with rfl | rfl | rfl | rfl | rfl | rfl
  · exact OSub.pure (Bas.pur b)
  · exact ⟨rfl, sb 6 (by omega)⟩
  · exact OSub.pure (Bas.pur b)
  · exact OSub.pure (rb_pur _)
  · exact OSub.pure (Bas.pur b)
  · exact OSub.pure rfl
theorem sp_b5 {b : Bas} {a : AV} : icut none (b.enc ++ [a]) 7 = some a := rfl
def ir47 : IFn := ⟨46, [⟨2, none⟩], (.seq (.reg [oA 1 (.box 86 (.r 0)), oA 2 (.mov (kB false))]) (.seq (.seq (.reg [oA 9 (.fadr 8 (.r 1)), oL 10 9 none, oT 11 10 (.lenl (.r 10)), oA 12 (.mov (kI 0))]) (.block 0 (.loop (.seq (.reg [oA 13 (.bin .lss (.r 12) (.r 11))]) (.seq (.cond (.r 13) .skip (.exit 0)) (.seq (.block 1 (.seq (.reg [oA 14 (.iasl 1 (.r 10) (.r 12)), oL 15 14 none, oA 4 (kM 15)]) (.seq (.reg [oA 16 (kM 4), oT 17 16 (.lenl (.r 16)), oA 18 (.mov (kI 0))]) (.block 2 (.loop (.seq (.reg [oA 19 (.bin .lss (.r 18) (.r 17))]) (.seq (.cond (.r 19) .skip (.exit 2)) (.seq (.block 3 (.seq (.reg [oA 20 (kM 18), oA 21 (.iasl 1 (.r 16) (.r 18)), oL 22 21 none, oA 5 (kM 20), oA 6 (kM 22)]) (.seq (.seq (.reg [oA 23 (.fadr 0 (.r 1)), oL 24 23 none, oA 25 (kM 6), oA 26 (.nchk (.r 24)), oA 27 (.fadr 1712 (.r 26)), oA 28 (.iaar 28 1 (.r 27) (.r 25)), oL 29 28 none]) (.cond (.r 29) (.seq (.reg [oA 2 (.mov (kB false))]) .ret) .skip)) (.seq (.reg [oA 30 (kM 4), oA 31 (kM 5), oA 32 (.slc 1 (.r 30) none (some (.r 31))), oT 33 32 (.lenl (.r 32)), oA 34 (.mov (kI 0))]) (.block 4 (.loop (.seq (.reg [oA 35 (.bin .lss (.r 34) (.r 33))]) (.seq (.cond (.r 35) .skip (.exit 4)) (.seq (.block 5 (.seq (.reg [oA 36 (.iasl 1 (.r 32) (.r 34)), oL 37 36 none, oA 8 (kM 37)]) (.seq (.reg [oA 38 (.fadr 0 (.r 1)), oL 39 38 none, oA 40 (kM 6), oA 41 (kM 8), oA 42 (.call 78 [.r 39, .r 40, .r 41])]) (.cond (.r 42) (.seq (.reg [oA 2 (.mov (kB false))]) .ret) .skip)))) (.reg [oA 43 (.bin .add (.r 34) (kI 1)), oA 34 (kM 43)])))))))))) (.reg [oA 44 (.bin .add (.r 18) (kI 1)), oA 18 (kM 44)]))))))))) (.reg [oA 45 (.bin .add (.r 12) (kI 1)), oA 12 (kM 45)]))))))) (.seq (.reg [oA 2 (.mov (kB true))]) .ret)))⟩
theorem c47 : cfunc Tryd.prog 47 = some ir47 := by kernel_rfl
theorem k47 : okIR (max 1 ir47.n) ir47.ir = true := by decide +kernel
theorem s_Sound0 (b : Bas) (o r : Nat) (j : JH) : JC Tryd.prog G 47 [.agg (AV.ptr r 0 :: (b.enc ++ [AV.arr o 0 0]))] j (RET (BOO true) j) := by
  refine JC.run hmix c47 (by exact k47) ?_
  (try simp only[↓jr,jw,seval,sp_b5,ir47])
  refine JLOOP.of (σ := Unit) (fun _ => True) (fun _ => 0) (fun _ => [(12, I64 0), (11, I64 0)]) (fun _ => ext j [.cells 86 (AV.ptr r 0 :: (b.enc ++ [AV.arr o 0 0]))]) () trivial ?_ (JDropH.refl _) ?_
  · ((try simp only[↓jr,jw,seval,sp_b5,DL]) <;> exact sbLw)
  rintro ⟨⟩ -
  (try simp only[↓jr,jw,seval,sp_b5])
  refine JFIN.rb ?_
  exact SubB.v
def ir12 : IFn := ⟨13, [⟨2, none⟩, ⟨3, none⟩], (.seq (.reg [oA 1 (.box 30 (.r 0)), oA 2 (.mov (kB false)), oA 3 (.mov (kI 0))]) (.seq (.seq (.reg [oL 5 1 (some 7), oT 6 5 (.call 45 [.r 5]), oA 4 (kM 6)]) (.seq (.reg [oA 7 (kM 4), oA 8 (.bin .neq (.r 7) (kI 0))]) (.cond (.r 8) (.seq (.reg [oA 9 (kM 4), oA 2 (.mov (kB false)), oA 3 (kM 9)]) .ret) .skip))) (.seq (.reg [oL 10 1 (some 7), oT 11 10 (.call 46 [.r 10]), oT 12 11 (.call 47 [.r 11]), oA 2 (kM 12), oA 3 (.mov (kI 0))]) .ret)))⟩
theorem c12 : cfunc Tryd.prog 12 = some ir12 := by kernel_rfl
theorem k12 : okIR (max 1 ir12.n) ir12.ir = true := by decide +kernel
theorem s_Consistent0 (b : Bas) (hb : b.ok) (hf : b.few) (h : askE b = 0) (h0 : b.bare) (j : JH) : JC Tryd.prog (GG m) 12 [.agg b.enc] j (RET (.tup [BOO true, I64 0]) j) := by
  refine JC.run hmix c12 (by exact k12) ?_
  (try simp only[↓jr,jw,seval,ext_ext,pid_pid,ir12])
  refine JCs.ret (s_asks b hb hf _) ?_
  rw [h]
  (try simp only[↓jr,jw,seval,ext_ext,pid_pid])
  refine JCs.ret (s_WorldOf0 b hb (askE_basR h).1 h0 _) ?_
  (try simp only[↓jr,jw,seval,ext_ext,pid_pid])
  refine JCs.ret (s_Sound0 b _ _ _) ?_
  (try simp only[↓jr,jw,seval,ext_ext,pid_pid])
  refine JFIN.rb ?_
  exact sbLw
end Go.Proofs.YtkcbhebbjpiibaaDoor.Pg
