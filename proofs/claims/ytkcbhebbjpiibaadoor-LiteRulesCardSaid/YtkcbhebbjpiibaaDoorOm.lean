/-
  LiteRules: the walk.
-/
import Derived.Test.YtkcbhebbjpiibaaDoorOi
set_option linter.unusedVariables false
set_option linter.unusedSimpArgs false
set_option linter.defProp false
set_option maxRecDepth 20000
set_option maxHeartbeats 2000000
namespace Go.Proofs.YtkcbhebbjpiibaaDoor.Pg
open Go
open Nat renaming reduceEqDiff → zA, reduceAdd → zB, reduceMul → zC, reduceSub → zD, reduceLT → zE, reduceLeDiff → zF
open Int renaming reduceAdd → zG, reduceSub → zH, reduceMul → zI, reduceNeg → zJ, reduceToNat → zK, reduceEq → zL, reduceLT → zM, reduceLE → zN
variable {m : Int} {G : Nat → Option (List AV)}
theorem s_lookC (b : Bas) (hb : b.ok) (c d : Con) (hc : c.ok) (hd : d.ok) (tok : Tok) (j : JH) : JC Tryd.prog G 8 [.agg b.enc, .sl tok 2 (c.enc ++ d.enc)] j (RET (BOO (lookB b [c, d])) j) := by
  have h := s_looked (G := G) b hb [c, d] tok ⟨hc, hd, trivial⟩ (by simp) j
  rw [encs_cons, encs_cons, encs_nil, List.append_nil] at h
  exact h
theorem s_faultC (b : Bas) (hb : b.ok) (c d : Con) (hc : c.ok) (hd : d.ok) (t1 t2 : Tok) (j : JH) : JC Tryd.prog G 15 [.agg b.enc, .sl t1 1 c.enc, .sl t2 1 d.enc] j (RET (I64 (faultE b [c] [d])) j) := by
  have h := s_fault (G := G) b hb [c] [d] t1 t2 ⟨hc, trivial⟩ ⟨hd, trivial⟩ (by simp) (by simp) j
  rw [encs_cons, encs_cons, encs_nil, List.append_nil, List.append_nil] at h
  exact h
theorem TokExt.low2 {j j1 : JH} {objs : List AObj} (h : TokExt (ext j objs) j1) : ∃ j2, TokExt j j2 ∧ ext j1 [] = ext j2 objs ∧ j2.tnext = j1.tnext ∧ j2.tok = j1.tok := by
  have hn : j1.next = j.next + objs.length := h.next
  refine ⟨{ j1 with next := j.next }, ⟨rfl, fun o ho => ?_, h.tnext, fun t ht => h.tok t ht⟩, ?_, rfl, rfl⟩
  · show j1.get o = j.get o
    rw [h.get o (by rw [ext_next]; unfold pid; omega), ext_get_old ho]
  · unfold ext
    simp only [JH.mk.injEq, and_true, List.length_nil, Nat.add_zero]
    refine ⟨hn, funext fun o => ?_⟩
    by_cases h1 : o < j.next
    · rw [if_pos (by omega), if_pos h1]
    · rw [if_neg h1]
      by_cases h2 : o < j1.next
      · rw [if_pos h2, h.get o (by rw [ext_next]; unfold pid; omega)]
        unfold ext; simp only [if_neg h1]
      · rw [if_neg h2, List.getElem?_nil, List.getElem?_eq_none (by omega)]
theorem ext_over {jt jx : JH} {l X : List AObj} (h : TokExt (ext jt l) jx) : ∃ j2, TokExt jt j2 ∧ ext jx X = ext j2 (l ++ X) := by
  obtain ⟨j2, h1, h2, -, -⟩ := h.low2
  refine ⟨j2, h1, ?_⟩
  rw [← ext_ext, ← h2, ext_ext, List.nil_append]
theorem ofN_1 {b : Bas} {q : Nat} : (ofN b q)[1]? = some (.cells 67 (stO b q)) := ofX_1
section
variable {b : Bas} {q : Nat} {B U A : Mx} {E : Nat → Bool}
theorem ruOf_nc : (ruOf b q B U A E).nc = b.kc := rfl
theorem ruOf_nr : (ruOf b q B U A E).nr = b.kr := rfl
end
theorem cast0 : ((0 : Nat) : Int) = 0 := rfl
theorem s_VoidO (b : Bas) (h : b.few2) (j : JH) : JC Tryd.prog G 29 [.ptr (pid j.next 1) 0] (ext j (ofN b j.next)) (RET (.tup [.sl .none (filt (OE b) b.kc).length (natv (filt (OE b) b.kc)), .sl .none (filt (fun s => OE b (b.kc + s)) b.kr).length (natv (filt (fun s => OE b (b.kc + s)) b.kr))]) (ext j (ofN b j.next))) := by
  have := s_RVoid (G := G) (pid j.next 1) (RuB b j.next) _ (ofX_at (j := j) (X := []) h)
  rw [ruOf_E, ruOf_nc, ruOf_nr] at this
  exact this
theorem s_UnderO (b : Bas) (h : b.few2) (r s : Nat) (lr : r < b.kr) (ls : s < b.kr) (j : JH) : JC Tryd.prog G 32 [.ptr (pid j.next 1) 0, I64 r, I64 s] (ext j (ofN b j.next)) (RET (BOO (undF b r s)) (ext j (ofN b j.next))) := by
  have := s_Under (G := G) (pid j.next 1) (RuB b j.next) r s lr ls _ (ofX_at (j := j) (X := []) h)
  rw [ruOf_E, ruOf_nc, ruOf_B] at this
  exact this
theorem rolOK_iff {b : Bas} {r : Int} : rolOK b.nms r = true ↔ 0 ≤ r ∧ r < b.kr := by
  unfold rolOK Bas.kr
  rw [Bool.and_eq_true, decide_eq_true_eq, decide_eq_true_eq]; omega
theorem JDropH.nextO {J jx j1 : JH} {X : List AObj} (ht : TokExt J jx) (ht1 : TokExt J j1) (hle : jx.tnext ≤ j1.tnext) : JDropH (ext jx X) (ext j1 X) (ext j1 X) := by
  have hn : jx.next = j1.next := ht.next.trans ht1.next.symm
  refine JDropH.gen ?_ (Nat.le_refl _) hle (Nat.le_refl _) (fun _ _ => rfl) (fun _ _ => rfl) (fun o ob ho e => .inl ⟨?_, ?_⟩)
  · rw [ext_next, ext_next, hn]; exact Nat.le_refl _
  · rw [ext_next, hn]; rw [ext_next] at ho; exact ho
  · by_cases q : o < J.next
    · rw [ext_get_old (by rw [ht1.next]; exact q), ht1.get o q] at e
      rw [ext_get_old (by rw [ht.next]; exact q), ht.get o q]; exact e
    · have ek : o = pid J.next (o - J.next) := by unfold pid; omega
      rw [ek, ext_get_new ht1.next] at e
      rw [ek, ext_get_new ht.next]; exact e
def ir6 : IFn := ⟨161, [⟨8, none⟩], (.seq (.reg [oA 4 (.box 30 (.r 0)), oA 5 (.box 43 (.r 1)), oA 6 (.box 43 (.r 2)), oA 8 (.mov (kB false))]) (.seq (.seq (.reg [oL 22 4 (some 7), oL 23 5 (some 3), oL 24 6 (some 3), oA 25 (.bsl 2 3 [.v (.int .i64 0), .v (.int .i64 0), .sl .nil 0 []] [(0, (3, .r 23)), (3, (3, .r 24))]), oA 26 (.call 8 [.r 22, .r 25]), oA 27 (.not (.r 26))]) (.cond (.r 27) (.seq (.reg [oA 28 (.call 11 []), oA 8 (kM 28)]) .ret) .skip)) (.seq (.reg [oL 30 4 (some 7), oL 31 5 (some 3), oL 32 6 (some 3), oA 33 (.call 18 [.r 30, .r 31, .r 32]), oA 29 (kM 33), oA 34 (.ext (.r 29) 0), oA 35 (.ext (.r 29) 1), oA 9 (kM 34), oA 10 (kM 35)]) (.seq (.reg [oL 37 4 (some 7), oA 38 (kM 3), oA 39 (.call 25 [.r 37, .r 38]), oA 36 (kM 39), oA 40 (.ext (.r 36) 0), oA 41 (.ext (.r 36) 1), oA 11 (kM 40), oA 12 (kM 41)]) (.seq (.reg [oL 43 4 (some 7), oT 44 43 (.call 26 [.r 43]), oA 42 (kM 44), oA 45 (.ext (.r 42) 0), oA 46 (.ext (.r 42) 1), oA 47 (.ext (.r 42) 2), oA 13 (kM 45), oA 14 (kM 46), oA 15 (kM 47)]) (.seq (.reg [oL 48 4 (some 7), oL 49 5 (some 3), oA 50 (.bsl 1 3 [.v (.int .i64 0), .v (.int .i64 0), .sl .nil 0 []] [(0, (3, .r 49))]), oL 51 6 (some 3), oA 52 (.bsl 1 3 [.v (.int .i64 0), .v (.int .i64 0), .sl .nil 0 []] [(0, (3, .r 51))]), oA 53 (.call 15 [.r 48, .r 50, .r 52]), oA 16 (kM 53)]) (.seq (.seq (.reg [oA 54 (kM 16), oA 55 (.bin .neq (.r 54) (kI 0))]) (.cond (.r 55) (.seq (.reg [oA 56 (kM 10), oA 57 (kM 16), oA 58 (.bin .neq (.r 56) (.r 57)), oA 59 (kM 58), ⟨(some 60), (some ((59, false))), none, (kM 9)⟩, oA 61 (.pick (.r 59) (kB true) (.r 60))]) (.cond (.r 61) (.seq (.reg [oA 8 (.mov (kB false))]) .ret) .skip)) (.seq (.draw [oA 62 (kM 10), oA 63 (.bin .neq (.r 62) (kI 0)), oA 64 (kM 63), ⟨(some 65), (some ((64, false))), none, (kM 9)⟩, ⟨(some 66), (some ((64, false))), (some (.r 4)), (.load (some 7) (.r 4))⟩, ⟨(some 67), (some ((64, false))), (some (.r 66)), (.call 27 [.r 66])⟩, ⟨(some 68), (some ((64, false))), (some (.r 5)), (.load (some 3) (.r 5))⟩, ⟨(some 69), (some ((64, false))), (some (.r 6)), (.load (some 3) (.r 6))⟩, ⟨(some 70), (some ((64, false))), none, (.call 28 [.r 67, .r 68, .r 69])⟩, ⟨(some 71), (some ((64, false))), none, (.beq true (.r 65) (.r 70))⟩, oA 72 (.pick (.r 64) (kB true) (.r 71))] [(6, 5), (7, 5)]) (.cond (.r 72) (.seq (.reg [oA 8 (.mov (kB false))]) .ret) .skip)))) (.seq (.reg [oL 73 4 (some 7), oT 74 73 (.call 9 [.r 73]), oA 16 (kM 74)]) (.seq (.seq (.reg [oA 75 (kM 16), oA 76 (.bin .neq (.r 75) (kI 0))]) (.cond (.r 76) (.seq (.reg [oA 77 (kM 12), oA 78 (kM 16), oA 79 (.bin .eql (.r 77) (.r 78)), oA 80 (kM 79), ⟨(some 81), (some ((80, true))), none, (kM 15)⟩, ⟨(some 82), (some ((80, true))), none, (kM 16)⟩, ⟨(some 83), (some ((80, true))), none, (.bin .eql (.r 81) (.r 82))⟩, oA 84 (.pick (.r 80) (.r 83) (kB false)), oA 85 (kM 84), ⟨(some 86), (some ((85, true))), none, (kM 11)⟩, ⟨(some 87), (some ((85, true))), (some (.r 86)), (.lenl (.r 86))⟩, ⟨(some 88), (some ((85, true))), none, (kM 13)⟩, ⟨(some 89), (some ((85, true))), (some (.r 88)), (.lenl (.r 88))⟩, ⟨(some 90), (some ((85, true))), none, (.bin .add (.r 87) (.r 89))⟩, ⟨(some 91), (some ((85, true))), none, (kM 14)⟩, ⟨(some 92), (some ((85, true))), (some (.r 91)), (.lenl (.r 91))⟩, ⟨(some 93), (some ((85, true))), none, (.bin .add (.r 90) (.r 92))⟩, ⟨(some 94), (some ((85, true))), none, (.bin .eql (.r 93) (kI 0))⟩, oA 95 (.pick (.r 85) (.r 94) (kB false)), oA 96 (kM 95), ⟨(some 97), (some ((96, true))), none, (.call 11 [])⟩, oA 98 (.pick (.r 96) (.r 97) (kB false)), oA 8 (kM 98)]) .ret) .skip)) (.seq (.reg [oL 99 4 (some 7), oT 100 99 (.call 27 [.r 99]), oA 17 (kM 100)]) (.seq (.reg [oA 102 (kM 17), oT 103 102 (.call 29 [.r 102]), oA 101 (kM 103), oA 104 (.ext (.r 101) 0), oA 105 (.ext (.r 101) 1), oA 18 (kM 104), oA 19 (kM 105)]) (.seq (.seq (.reg [oA 106 (kM 15), oA 107 (.bin .neq (.r 106) (kI 0)), oA 108 (kM 107), ⟨(some 109), (some ((108, false))), none, (kM 13)⟩, ⟨(some 110), (some ((108, false))), none, (kM 18)⟩, ⟨(some 111), (some ((108, false))), none, (.call 30 [.r 109, .r 110])⟩, ⟨(some 112), (some ((108, false))), none, (.not (.r 111))⟩, oA 113 (.pick (.r 108) (kB true) (.r 112)), oA 114 (kM 113), ⟨(some 115), (some ((114, false))), none, (kM 14)⟩, ⟨(some 116), (some ((114, false))), none, (kM 19)⟩, ⟨(some 117), (some ((114, false))), none, (.call 30 [.r 115, .r 116])⟩, ⟨(some 118), (some ((114, false))), none, (.not (.r 117))⟩, oA 119 (.pick (.r 114) (kB true) (.r 118))]) (.cond (.r 119) (.seq (.reg [oA 8 (.mov (kB false))]) .ret) .skip)) (.seq (.seq (.reg [oA 120 (.fadr 0 (.r 4)), oL 121 120 (some 3), oA 122 (kM 3), oA 123 (.call 31 [.r 121, .r 122]), oA 124 (.not (.r 123))]) (.cond (.r 124) (.seq (.reg [oA 125 (kM 12), oA 126 (.bin .eql (.r 125) (kI 1)), oA 127 (kM 126), ⟨(some 128), (some ((127, true))), none, (kM 11)⟩, ⟨(some 129), (some ((127, true))), (some (.r 128)), (.lenl (.r 128))⟩, ⟨(some 130), (some ((127, true))), none, (.bin .eql (.r 129) (kI 0))⟩, oA 131 (.pick (.r 127) (.r 130) (kB false)), oA 132 (kM 131), ⟨(some 133), (some ((132, true))), none, (.call 11 [])⟩, oA 134 (.pick (.r 132) (.r 133) (kB false)), oA 8 (kM 134)]) .ret) .skip)) (.seq (.reg [oA 20 (.mov (.k (.sl .nil 0 [])))]) (.seq (.seq (.reg [oA 135 (kM 17), oA 136 (.nchk (.r 135)), oA 137 (.fadr 1 (.r 136)), oL 138 137 none, oA 139 (.mov (kI 0))]) (.block 0 (.loop (.seq (.reg [oA 140 (.bin .lss (.r 139) (.r 138))]) (.seq (.cond (.r 140) .skip (.exit 0)) (.seq (.block 1 (.seq (.reg [oA 141 (kM 139), oA 21 (kM 141)]) (.seq (.reg [oA 142 (kM 17), oA 143 (kM 3), oA 144 (kM 21), oA 145 (.call 32 [.r 142, .r 143, .r 144])]) (.cond (.r 145) (.reg [oA 146 (kM 20), oA 147 (kM 21), oA 148 (.bsl 1 1 [.v (.int .i64 0)] [(0, (1, .r 147))]), oA 149 (.app 1 8 (.r 146) (.r 148)), oA 20 (kM 149)]) .skip)))) (.reg [oA 150 (.bin .add (.r 139) (kI 1)), oA 139 (kM 150)]))))))) (.seq (.reg [oA 151 (kM 12), oA 152 (.bin .eql (.r 151) (kI 0)), oA 153 (kM 152), ⟨(some 154), (some ((153, true))), none, (kM 11)⟩, ⟨(some 155), (some ((153, true))), none, (kM 20)⟩, ⟨(some 156), (some ((153, true))), none, (.call 30 [.r 154, .r 155])⟩, oA 157 (.pick (.r 153) (.r 156) (kB false)), oA 158 (kM 157), ⟨(some 159), (some ((158, true))), none, (.call 11 [])⟩, oA 160 (.pick (.r 158) (.r 159) (kB false)), oA 8 (kM 160)]) .ret))))))))))))))))⟩
theorem c6 : cfunc Tryd.prog 6 = some ir6 := by kernel_rfl
theorem k6 : okIR (max 4 ir6.n) ir6.ir = true := by decide +kernel
theorem s_LiteRules (b : Bas) (c d : Con) (role : Int) (hb : b.ok) (hc : c.ok) (hd : d.ok) (j : JH) : JC Tryd.prog (GG m) 6 [.agg b.enc, .agg c.enc, .agg d.enc, I64 role] j (RET (BOO true) j) := by
  have aw : ∀ {l : List AObj} {j1 : JH}, TokExt j j1 → @JFIN (ext j []) (ext j1 l) (BOO true) ⟨fun y j' => RET (BOO true) j (.ret y) j'⟩ := fun ht => JFIN.ret ((JDropH.back ht).of_ext) SubB.v
  refine JC.run hmix c6 (by exact k6) ?_
  (try simp only[↓jr,jp,jd,jz,zA,zB,zC,zD,zE,zF,zG,zH,zI,zJ,zK,zL,zM,zN,reduceIte,ir6])
  refine JCs.ret (s_lookC b hb c d hc hd _ _) ?_
  (try simp only[↓jr,jp,jd,jz,zA,zB,zC,zD,zE,zF,zG,zH,zI,zJ,zK,zL,zM,zN,reduceIte])
  refine ww.intro (fun h0 => ?_) (fun h0 => by (try simp only[↓jr,jp,jd,jz,zA,zB,zC,zD,zE,zF,zG,zH,zI,zJ,zK,zL,zM,zN,reduceIte]); refine JCs.ret (s_awake _) ?_; (try simp only[↓jr,jp,jd,jz,zA,zB,zC,zD,zE,zF,zG,zH,zI,zJ,zK,zL,zM,zN,reduceIte]); exact aw (by repeat' (first | exact TokExt.refl _ | refine TokExt.push ?_ _ | refine TokExt.setT ?_ (by first | exact Nat.le_refl _ | (simp only [pushTok_tnext, setTok_tnext, ext_tnext, set_tnext]; omega)) _)))
  obtain ⟨hf, hn⟩ := look_few h0
  have hc4 := hn c (by simp)
  have hd4 := hn d (by simp)
  (try simp only[↓jr,jp,jd,jz,zA,zB,zC,zD,zE,zF,zG,zH,zI,zJ,zK,zL,zM,zN,reduceIte])
  refine JCs.ret (s_Implies b c d hb hf hb.short hc hd (by omega) (by omega) _) ?_
  (try simp only[↓jr,jp,jd,jz,zA,zB,zC,zD,zE,zF,zG,zH,zI,zJ,zK,zL,zM,zN,reduceIte])
  refine JCs.ret (s_Above b hb hf role _) ?_
  (try simp only[↓jr,jp,jd,jz,zA,zB,zC,zD,zE,zF,zG,zH,zI,zJ,zK,zL,zM,zN,reduceIte])
  refine JCs.ret (s_Empty b hb hf _) ?_
  (try simp only[↓jr,jp,jd,jz,zA,zB,zC,zD,zE,zF,zG,zH,zI,zJ,zK,zL,zM,zN,reduceIte])
  refine JCs.ret (s_faultC b hb c d hc hd _ _ _) ?_
  rw [impE_fault b c d]
  (try simp only[↓jr,jp,jd,jz,zA,zB,zC,zD,zE,zF,zG,zH,zI,zJ,zK,zL,zM,zN,reduceIte])
  generalize hJA : ext (((j.pushTok 2).pushTok 1).pushTok 1) [.cells 30 b.enc, .cells 43 c.enc, .cells 43 d.enc] = JA
  have htA : TokExt j (((j.pushTok 2).pushTok 1).pushTok 1) := (by repeat' (first | exact TokExt.refl _ | refine TokExt.push ?_ _ | refine TokExt.setT ?_ (by first | exact Nat.le_refl _ | (simp only [pushTok_tnext, setTok_tnext, ext_tnext, set_tnext]; omega)) _))
  have nA : JA.next = pid j.next 3 := by rw [← hJA, ext_next]; rfl
  have gb : JA.get (pid j.next 0) = some (.cells 30 b.enc) := by rw [← hJA]; exact (ext_get_new (j := ((j.pushTok 2).pushTok 1).pushTok 1) (b := j.next) rfl).trans rfl
  have gc : JA.get (pid j.next 1) = some (.cells 43 c.enc) := by rw [← hJA]; exact (ext_get_new (j := ((j.pushTok 2).pushTok 1).pushTok 1) (b := j.next) rfl).trans rfl
  have gd : JA.get (pid j.next 2) = some (.cells 43 d.enc) := by rw [← hJA]; exact (ext_get_new (j := ((j.pushTok 2).pushTok 1).pushTok 1) (b := j.next) rfl).trans rfl
  have lb : pid j.next 0 < JA.next := by rw [nA]; unfold pid; omega
  have lc : pid j.next 1 < JA.next := by rw [nA]; unfold pid; omega
  have ld : pid j.next 2 < JA.next := by rw [nA]; unfold pid; omega
  have lc2 : ∀ n, pid j.next 1 < pid JA.next n := fun n => by rw [nA]; unfold pid; omega
  have ld2 : ∀ n, pid j.next 2 < pid JA.next n := fun n => by rw [nA]; unfold pid; omega
  refine wq.intro (fun h1 => ?_) (fun h1 => ?_)
  · obtain ⟨hR, hfit, hcc, hd1, hd2⟩ := fault1 h1
    have hImp : impB b c d = impV b c d := by unfold impB; rw [impE_fault, decide_eq_true h1, Bool.true_and]
    rw [hImp, h1]
    (try simp only[↓jr,jp,jd,jz,zA,zB,zC,zD,zE,zF,zG,zH,zI,zJ,zK,zL,zM,zN,reduceIte,jq2,q_e5,ext_next,ext_tnext,Nat.le_refl,ext_get_old,gb,gc,gd,lb,lc,ld,lc2,ld2])
    refine JDC.use (s_Of b hb hR hfit _) ?_
    (try simp only[↓jr,jp,jd,jz,zA,zB,zC,zD,zE,zF,zG,zH,zI,zJ,zK,zL,zM,zN,reduceIte,jq2,q_e5,ext_next,ext_tnext,Nat.le_refl,ext_get_old,gb,gc,gd,lb,lc,ld,lc2,ld2])
    refine JDC.use (s_RImplies (pid JA.next 1) (RuB b JA.next) c d (idN b c) (idN b (supK d)) (idN_ok hcc.1 hcc.2).1 (idN_ok hcc.1 hcc.2).2 (shaped_small (basR_names hR) hcc.2) (sup_at (basR_names hR) hd1 hd2) _ (ofX_at (basR_few2 hR))) ?_
    (try simp only[↓jr,jp,jd,jz,zA,zB,zC,zD,zE,zF,zG,zH,zI,zJ,zK,zL,zM,zN,reduceIte,jq2,q_e5,ext_next,ext_tnext,Nat.le_refl,ext_get_old,gb,gc,gd,lb,lc,ld,lc2,ld2])
    refine JDRAW.of (by (try simp only[↓jr,jp,jd,jz,zA,zB,zC,zD,zE,zF,zG,zH,zI,zJ,zK,zL,zM,zN,reduceIte,jq2,q_e5,ext_next,ext_tnext,Nat.le_refl,ext_get_old,gb,gc,gd,lb,lc,ld,lc2,ld2,jq]) <;> (repeat' (first | exact trivial | refine And.intro ?_ ?_ | assumption | (unfold pid; omega)))) (by (try simp only[↓jr,jp,jd,jz,zA,zB,zC,zD,zE,zF,zG,zH,zI,zJ,zK,zL,zM,zN,reduceIte,jq2,q_e5,ext_next,ext_tnext,Nat.le_refl,ext_get_old,gb,gc,gd,lb,lc,ld,lc2,ld2,jq]) <;> (repeat' (first | exact trivial | refine And.intro ?_ ?_))) ?_; (try simp only[↓jr,jp,jd,jz,zA,zB,zC,zD,zE,zF,zG,zH,zI,zJ,zK,zL,zM,zN,reduceIte,jq2,q_e5,ext_next,ext_tnext,Nat.le_refl,ext_get_old,gb,gc,gd,lb,lc,ld,lc2,ld2])
    rw [implR_ref JA.next hR hfit hcc hd1 hd2]
    simp only [beq_self_eq_true, Bool.not_true, if_true]
    (try simp only[↓jr,jp,jd,jz,zA,zB,zC,zD,zE,zF,zG,zH,zI,zJ,zK,zL,zM,zN,reduceIte,jq2,q_e5,ext_next,ext_tnext,Nat.le_refl,ext_get_old,gb,gc,gd,lb,lc,ld,lc2,ld2])
    generalize hJB : ext JA (ofN b JA.next) = JB
    have gB : JB.get (pid j.next 0) = some (.cells 30 b.enc) := by rw [← hJB, ext_get_old lb]; exact gb
    have lB : pid j.next 0 < JB.next := by rw [← hJB, ext_next]; unfold pid at *; omega
    have hfinB : ∃ jt l, TokExt j jt ∧ JB = ext jt l := ⟨_, _, htA, by rw [← hJB, ← hJA, ext_ext]⟩
    refine JCs.ret (s_RFault b hb _) ?_
    rw [refE_askE]
    (try simp only[↓jr,jp,jd,jz,zA,zB,zC,zD,zE,zF,zG,zH,zI,zJ,zK,zL,zM,zN,reduceIte,jq2,q_e5,ext_next,ext_tnext,Nat.le_refl,ext_get_old,gB,lB])
    refine wq.intro (fun h3 => ?_) (fun h3 => ?_)
    · obtain ⟨hR, hfit⟩ := askE_basR h3
      have h2 := basR_few2 hR
      have eC : emptC b = filt (OE b) b.kc := by unfold emptC; rw [if_pos h3, emC_eq hR hfit]
      have eR : emptR b = filt (fun s => OE b (b.kc + s)) b.kr := by unfold emptR; rw [if_pos h3, emR_eq hR hfit]
      have lC := filt_len (OE b) b.kc
      have lR := filt_len (fun s => OE b (b.kc + s)) b.kr
      have h2c := h2.c
      have h2r := h2.r
      rw [eC, eR, h3]
      (try simp only[↓jr,jp,jd,jz,zA,zB,zC,zD,zE,zF,zG,zH,zI,zJ,zK,zL,zM,zN,reduceIte,jq2,q_e5,ext_next,ext_tnext,Nat.le_refl,ext_get_old,gB,lB])
      refine JCs.ret (s_Of b hb hR hfit _) ?_
      (try simp only[↓jr,jp,jd,jz,zA,zB,zC,zD,zE,zF,zG,zH,zI,zJ,zK,zL,zM,zN,reduceIte,jq2,q_e5,ext_next,ext_tnext,Nat.le_refl,ext_get_old,gB,lB])
      refine JCs.ret (s_VoidO b h2 _) ?_
      (try simp only[↓jr,jp,jd,jz,zA,zB,zC,zD,zE,zF,zG,zH,zI,zJ,zK,zL,zM,zN,reduceIte,jq2,q_e5,ext_next,ext_tnext,Nat.le_refl,ext_get_old,gB,lB])
      refine JCs.ret (s_SameInts _ _ _ _ (by omega) (by omega) _) ?_
      rw [decide_eq_true rfl]
      (try simp only[↓jr,jp,jd,jz,zA,zB,zC,zD,zE,zF,zG,zH,zI,zJ,zK,zL,zM,zN,reduceIte,jq2,q_e5,ext_next,ext_tnext,Nat.le_refl,ext_get_old,gB,lB])
      refine JCs.ret (s_SameInts _ _ _ _ (by omega) (by omega) _) ?_
      rw [decide_eq_true rfl]
      (try simp only[↓jr,jp,jd,jz,zA,zB,zC,zD,zE,zF,zG,zH,zI,zJ,zK,zL,zM,zN,reduceIte,jq2,q_e5,ext_next,ext_tnext,Nat.le_refl,ext_get_old,gB,lB])
      refine JCs.ret (s_Role b.nms hb.nms role _) ?_
      (try simp only[↓jr,jp,jd,jz,zA,zB,zC,zD,zE,zF,zG,zH,zI,zJ,zK,zL,zM,zN,reduceIte,jq2,q_e5,ext_next,ext_tnext,Nat.le_refl,ext_get_old,gB,lB])
      refine ww.intro (fun h4 => ?_) (fun h4 => ?_)
      · obtain ⟨q0, q1⟩ := rolOK_iff.1 h4
        obtain ⟨r, er, lr⟩ : ∃ r : Nat, role = r ∧ r < b.kr := ⟨role.toNat, by omega, by omega⟩
        subst er
        have eE : aboE b r = 0 := by unfold aboE; rw [if_pos h3, if_pos ⟨q0, q1⟩]
        have eL : aboL b r = filt (undF b r) b.kr := by
          unfold aboL; rw [if_pos eE]
          exact filt_congr fun s hs => aboF_eq hR hfit lr hs
        have lL := filt_len (undF b r) b.kr
        rw [eE, eL]
        (try simp only[↓jr,jp,jd,jz,zA,zB,zC,zD,zE,zF,zG,zH,zI,zJ,zK,zL,zM,zN,reduceIte,jq2,q_e5,ext_next,ext_tnext,Nat.le_refl,ext_get_old,gB,lB,ofN_1,stO])
        refine JLOOP.of (σ := Nat × Tok × JH) (fun s => s.1 ≤ b.kr ∧ TokExt JB s.2.2 ∧ CanApp JB s.2.2 s.2.1 1 (filt (undF b r) s.1).length) (fun s => b.kr - s.1)
          (fun s => [(139, I64 s.1), (138, I64 b.kr), (17, .ptr (pid JB.next 1) 0), (3, I64 r), (12, I64 0), (11, .sl .none (filt (undF b r) b.kr).length (natv (filt (undF b r) b.kr))), (20, .sl s.2.1 (filt (undF b r) s.1).length (natv (filt (undF b r) s.1)))]) (fun s => ext s.2.2 (ofN b JB.next)) (0, .nil, JB) ⟨Nat.zero_le _, TokExt.refl _, CanApp.nil⟩ ?_ (JDropH.refl _) ?_
        · have hl1 : pid JB.next 1 < pid JB.next (ofN b JB.next).length := by
            have : (ofN b JB.next).length = b.kl + 0 := ofX_len
            rw [this]; unfold pid Bas.kl; omega
          (try simp only[↓jr,jp,jd,jz,zA,zB,zC,zD,zE,zF,zG,zH,zI,zJ,zK,zL,zM,zN,reduceIte,jq2,q_e5,ext_next,ext_tnext,Nat.le_refl,ext_get_old,gB,lB,DL,filt_zero,natv_nil])
          exact ⟨SubB.v, SubB.v, SubB.ptr hl1, SubB.v, SubB.v, SubB.sl rfl (SubBs.pure (natv_pur _)), SubB.pure rfl⟩
        rintro ⟨k, tk, jx⟩ ⟨hk, ht, hcn⟩
        simp only at hk ht hcn
        have hx := ht.next
        (try simp only[↓jr,jp,jd,jz,zA,zB,zC,zD,zE,zF,zG,zH,zI,zJ,zK,zL,zM,zN,reduceIte,jq2,q_e5,ext_next,ext_tnext,Nat.le_refl,hx])
        refine wq.intro (fun g1 => ?_) (fun g1 => ?_)
        · have lk : k < b.kr := by omega
          have hu := s_UnderO (G := GG m) b h2 r k lr lk jx
          rw [hx] at hu
          have hfl := filt_len (undF b r) k
          have hl1 : ∀ {n : Nat}, pid JB.next 1 < pid JB.next n ↔ 1 < n := fun {n} => by unfold pid; omega
          have hlen : (ofN b JB.next).length = b.kl + 0 := ofX_len
          have hkl : 1 < b.kl + 0 := by unfold Bas.kl; omega
          (try simp only[↓jr,jp,jd,jz,zA,zB,zC,zD,zE,zF,zG,zH,zI,zJ,zK,zL,zM,zN,reduceIte,jq2,q_e5,ext_next,ext_tnext,Nat.le_refl,hx])
          refine JCs.ret hu ?_
          (try simp only[↓jr,jp,jd,jz,zA,zB,zC,zD,zE,zF,zG,zH,zI,zJ,zK,zL,zM,zN,reduceIte,jq2,q_e5,ext_next,ext_tnext,Nat.le_refl,hx])
          refine ww.intro (fun h5 => ?_) (fun h5 => ?_)
          · (try simp only[↓jr,jp,jd,jz,zA,zB,zC,zD,zE,zF,zG,zH,zI,zJ,zK,zL,zM,zN,reduceIte,jq2,q_e5,ext_next,ext_tnext,Nat.le_refl,hx])
            refine JAPP.can' hcn.push (ht.push 1) (by rw [natv_len, Nat.mul_one]) rfl rfl (by omega) (by omega) ?_
            intro tok1 j1 hcan ht3 hle
            have hle' : jx.tnext ≤ j1.tnext := Nat.le_trans (Nat.le_succ _) hle
            have hx1 := ht3.next
            (try simp only[↓jr,jp,jd,jz,zA,zB,zC,zD,zE,zF,zG,zH,zI,zJ,zK,zL,zM,zN,reduceIte,jq2,q_e5,ext_next,ext_tnext,Nat.le_refl,hx,hx1])
            refine wc.intro (by unfold R64; omega) ?_
            (try simp only[↓jr,jp,jd,jz,zA,zB,zC,zD,zE,zF,zG,zH,zI,zJ,zK,zL,zM,zN,reduceIte,jq2,q_e5,ext_next,ext_tnext,Nat.le_refl,hx])
            have e1 := filt_t (p := undF b r) h5
            have e2 : (filt (undF b r) (k + 1)).length = (filt (undF b r) k).length + 1 := by rw [e1]; simp
            refine JNEXT.of (k + 1, tok1, j1) ⟨by simp only; omega, ht3, by simp only [e2]; exact hcan⟩ (by simp only; omega) ?_ (JDropH.nextO ht ht3 hle')
            (try simp only[↓jr,jp,jd,jz,zA,zB,zC,zD,zE,zF,zG,zH,zI,zJ,zK,zL,zM,zN,reduceIte,jq2,q_e5,ext_next,ext_tnext,Nat.le_refl,hx,DL,e2,e1,natv_append,natv_one,hx1])
            exact ⟨SubB.eqi (by omega), SubB.v, SubB.ptr (by rw [hlen]; exact hl1.2 hkl), SubB.v, SubB.v, SubB.sl rfl (SubBs.pure (natv_pur _)), SubB.can hcan (by rw [pures_append, natv_pur]; rfl)⟩
          · (try simp only[↓jr,jp,jd,jz,zA,zB,zC,zD,zE,zF,zG,zH,zI,zJ,zK,zL,zM,zN,reduceIte,jq2,q_e5,ext_next,ext_tnext,Nat.le_refl,hx])
            refine wc.intro (by unfold R64; omega) ?_
            (try simp only[↓jr,jp,jd,jz,zA,zB,zC,zD,zE,zF,zG,zH,zI,zJ,zK,zL,zM,zN,reduceIte,jq2,q_e5,ext_next,ext_tnext,Nat.le_refl,hx])
            have e1 := filt_f (p := undF b r) h5
            refine JNEXT.of (k + 1, tk, jx) ⟨by simp only; omega, ht, by simp only [e1]; exact hcn⟩ (by simp only; omega) ?_ (JDropH.nextO ht ht (Nat.le_refl _))
            (try simp only[↓jr,jp,jd,jz,zA,zB,zC,zD,zE,zF,zG,zH,zI,zJ,zK,zL,zM,zN,reduceIte,jq2,q_e5,ext_next,ext_tnext,Nat.le_refl,hx,DL,e1])
            exact ⟨SubB.eqi (by omega), SubB.v, SubB.ptr (by rw [hlen]; exact hl1.2 hkl), SubB.v, SubB.v, SubB.sl rfl (SubBs.pure (natv_pur _)), SubB.can hcn (natv_pur _)⟩
        · (try simp only[↓jr,jp,jd,jz,zA,zB,zC,zD,zE,zF,zG,zH,zI,zJ,zK,zL,zM,zN,reduceIte,jq2,q_e5,ext_next,ext_tnext,Nat.le_refl,hx])
          have ek : k = b.kr := by omega
          rw [ek]
          refine JCs.ret (s_SameInts _ _ _ _ (by omega) (by omega) _) ?_
          rw [decide_eq_true rfl]
          (try simp only[↓jr,jp,jd,jz,zA,zB,zC,zD,zE,zF,zG,zH,zI,zJ,zK,zL,zM,zN,reduceIte,jq2,q_e5,ext_next,ext_tnext,Nat.le_refl,hx])
          refine JCs.ret (s_awake _) ?_
          (try simp only[↓jr,jp,jd,jz,zA,zB,zC,zD,zE,zF,zG,zH,zI,zJ,zK,zL,zM,zN,reduceIte,jq2,q_e5,ext_next,ext_tnext,Nat.le_refl,hx])
          obtain ⟨jt, lJ, htt, eB⟩ := hfinB
          rw [eB] at ht
          obtain ⟨j2, g1, g2⟩ := ext_over (X := ofN b JB.next) ht
          rw [g2]
          exact aw (htt.trans g1)
      · have hno : ¬ (0 ≤ role ∧ role < b.kr) := fun q => by rw [rolOK_iff.2 q] at h4; cases h4
        have e1 : aboE b role = 1 := by unfold aboE; rw [if_pos h3, if_neg hno]
        have e2 : aboL b role = [] := by unfold aboL; rw [e1]; rfl
        rw [e1, e2, natv_nil]
        (try simp only[↓jr,jp,jd,jz,zA,zB,zC,zD,zE,zF,zG,zH,zI,zJ,zK,zL,zM,zN,reduceIte,jq2,q_e5,ext_next,ext_tnext,Nat.le_refl,ext_get_old,gB,lB,cast0])
        refine JCs.ret (s_awake _) ?_
        (try simp only[↓jr,jp,jd,jz,zA,zB,zC,zD,zE,zF,zG,zH,zI,zJ,zK,zL,zM,zN,reduceIte,jq2,q_e5,ext_next,ext_tnext,Nat.le_refl,ext_get_old,gB,lB])
        obtain ⟨jt, lJ, htt, eB⟩ := hfinB
        rw [eB, ext_ext]
        exact aw htt
    · have e1 : aboE b role = askE b := by unfold aboE; rw [if_neg h3]
      have e2 : aboL b role = [] := by unfold aboL; rw [e1, if_neg h3]
      have e3 : emptC b = [] := by unfold emptC; rw [if_neg h3]
      have e4 : emptR b = [] := by unfold emptR; rw [if_neg h3]
      rw [e1, e2, e3, e4, natv_nil]
      (try simp only[↓jr,jp,jd,jz,zA,zB,zC,zD,zE,zF,zG,zH,zI,zJ,zK,zL,zM,zN,reduceIte,jq2,q_e5,ext_next,ext_tnext,Nat.le_refl,ext_get_old,gB,lB,cast0])
      refine wc.intro (by unfold R64; omega) ?_
      (try simp only[↓jr,jp,jd,jz,zA,zB,zC,zD,zE,zF,zG,zH,zI,zJ,zK,zL,zM,zN,reduceIte,jq2,q_e5,ext_next,ext_tnext,Nat.le_refl,ext_get_old,gB,lB,cast0])
      refine wc.intro (by unfold R64; omega) ?_
      (try simp only[↓jr,jp,jd,jz,zA,zB,zC,zD,zE,zF,zG,zH,zI,zJ,zK,zL,zM,zN,reduceIte,jq2,q_e5,ext_next,ext_tnext,Nat.le_refl,ext_get_old,gB,lB,cast0])
      refine JCs.ret (s_awake _) ?_
      (try simp only[↓jr,jp,jd,jz,zA,zB,zC,zD,zE,zF,zG,zH,zI,zJ,zK,zL,zM,zN,reduceIte,jq2,q_e5,ext_next,ext_tnext,Nat.le_refl,ext_get_old,gB,lB])
      obtain ⟨jt, lJ, htt, eB⟩ := hfinB
      rw [eB]
      exact aw htt
  · have hImp : impB b c d = false := by unfold impB; rw [impE_fault, decide_eq_false h1, Bool.false_and]
    rw [hImp]
    (try simp only[↓jr,jp,jd,jz,zA,zB,zC,zD,zE,zF,zG,zH,zI,zJ,zK,zL,zM,zN,reduceIte,jq2,q_e5,ext_next,ext_tnext,Nat.le_refl,ext_get_old,gb,gc,gd,lb,lc,ld,lc2,ld2])
    obtain ⟨JB, hJB⟩ : ∃ JB, JA = JB := ⟨_, rfl⟩
    rw [hJB]
    have gB : JB.get (pid j.next 0) = some (.cells 30 b.enc) := by rw [← hJB]; exact gb
    have lB : pid j.next 0 < JB.next := by rw [← hJB]; exact lb
    have hfinB : ∃ jt l, TokExt j jt ∧ JB = ext jt l := ⟨_, _, htA, by rw [← hJB, ← hJA]⟩
    refine JCs.ret (s_RFault b hb _) ?_
    rw [refE_askE]
    (try simp only[↓jr,jp,jd,jz,zA,zB,zC,zD,zE,zF,zG,zH,zI,zJ,zK,zL,zM,zN,reduceIte,jq2,q_e5,ext_next,ext_tnext,Nat.le_refl,ext_get_old,gB,lB])
    refine wq.intro (fun h3 => ?_) (fun h3 => ?_)
    · obtain ⟨hR, hfit⟩ := askE_basR h3
      have h2 := basR_few2 hR
      have eC : emptC b = filt (OE b) b.kc := by unfold emptC; rw [if_pos h3, emC_eq hR hfit]
      have eR : emptR b = filt (fun s => OE b (b.kc + s)) b.kr := by unfold emptR; rw [if_pos h3, emR_eq hR hfit]
      have lC := filt_len (OE b) b.kc
      have lR := filt_len (fun s => OE b (b.kc + s)) b.kr
      have h2c := h2.c
      have h2r := h2.r
      rw [eC, eR, h3]
      (try simp only[↓jr,jp,jd,jz,zA,zB,zC,zD,zE,zF,zG,zH,zI,zJ,zK,zL,zM,zN,reduceIte,jq2,q_e5,ext_next,ext_tnext,Nat.le_refl,ext_get_old,gB,lB])
      refine JCs.ret (s_Of b hb hR hfit _) ?_
      (try simp only[↓jr,jp,jd,jz,zA,zB,zC,zD,zE,zF,zG,zH,zI,zJ,zK,zL,zM,zN,reduceIte,jq2,q_e5,ext_next,ext_tnext,Nat.le_refl,ext_get_old,gB,lB])
      refine JCs.ret (s_VoidO b h2 _) ?_
      (try simp only[↓jr,jp,jd,jz,zA,zB,zC,zD,zE,zF,zG,zH,zI,zJ,zK,zL,zM,zN,reduceIte,jq2,q_e5,ext_next,ext_tnext,Nat.le_refl,ext_get_old,gB,lB])
      refine JCs.ret (s_SameInts _ _ _ _ (by omega) (by omega) _) ?_
      rw [decide_eq_true rfl]
      (try simp only[↓jr,jp,jd,jz,zA,zB,zC,zD,zE,zF,zG,zH,zI,zJ,zK,zL,zM,zN,reduceIte,jq2,q_e5,ext_next,ext_tnext,Nat.le_refl,ext_get_old,gB,lB])
      refine JCs.ret (s_SameInts _ _ _ _ (by omega) (by omega) _) ?_
      rw [decide_eq_true rfl]
      (try simp only[↓jr,jp,jd,jz,zA,zB,zC,zD,zE,zF,zG,zH,zI,zJ,zK,zL,zM,zN,reduceIte,jq2,q_e5,ext_next,ext_tnext,Nat.le_refl,ext_get_old,gB,lB])
      refine JCs.ret (s_Role b.nms hb.nms role _) ?_
      (try simp only[↓jr,jp,jd,jz,zA,zB,zC,zD,zE,zF,zG,zH,zI,zJ,zK,zL,zM,zN,reduceIte,jq2,q_e5,ext_next,ext_tnext,Nat.le_refl,ext_get_old,gB,lB])
      refine ww.intro (fun h4 => ?_) (fun h4 => ?_)
      · obtain ⟨q0, q1⟩ := rolOK_iff.1 h4
        obtain ⟨r, er, lr⟩ : ∃ r : Nat, role = r ∧ r < b.kr := ⟨role.toNat, by omega, by omega⟩
        subst er
        have eE : aboE b r = 0 := by unfold aboE; rw [if_pos h3, if_pos ⟨q0, q1⟩]
        have eL : aboL b r = filt (undF b r) b.kr := by
          unfold aboL; rw [if_pos eE]
          exact filt_congr fun s hs => aboF_eq hR hfit lr hs
        have lL := filt_len (undF b r) b.kr
        rw [eE, eL]
        (try simp only[↓jr,jp,jd,jz,zA,zB,zC,zD,zE,zF,zG,zH,zI,zJ,zK,zL,zM,zN,reduceIte,jq2,q_e5,ext_next,ext_tnext,Nat.le_refl,ext_get_old,gB,lB,ofN_1,stO])
        refine JLOOP.of (σ := Nat × Tok × JH) (fun s => s.1 ≤ b.kr ∧ TokExt JB s.2.2 ∧ CanApp JB s.2.2 s.2.1 1 (filt (undF b r) s.1).length) (fun s => b.kr - s.1)
          (fun s => [(139, I64 s.1), (138, I64 b.kr), (17, .ptr (pid JB.next 1) 0), (3, I64 r), (12, I64 0), (11, .sl .none (filt (undF b r) b.kr).length (natv (filt (undF b r) b.kr))), (20, .sl s.2.1 (filt (undF b r) s.1).length (natv (filt (undF b r) s.1)))]) (fun s => ext s.2.2 (ofN b JB.next)) (0, .nil, JB) ⟨Nat.zero_le _, TokExt.refl _, CanApp.nil⟩ ?_ (JDropH.refl _) ?_
        · have hl1 : pid JB.next 1 < pid JB.next (ofN b JB.next).length := by
            have : (ofN b JB.next).length = b.kl + 0 := ofX_len
            rw [this]; unfold pid Bas.kl; omega
          (try simp only[↓jr,jp,jd,jz,zA,zB,zC,zD,zE,zF,zG,zH,zI,zJ,zK,zL,zM,zN,reduceIte,jq2,q_e5,ext_next,ext_tnext,Nat.le_refl,ext_get_old,gB,lB,DL,filt_zero,natv_nil])
          exact ⟨SubB.v, SubB.v, SubB.ptr hl1, SubB.v, SubB.v, SubB.sl rfl (SubBs.pure (natv_pur _)), SubB.pure rfl⟩
        rintro ⟨k, tk, jx⟩ ⟨hk, ht, hcn⟩
        simp only at hk ht hcn
        have hx := ht.next
        (try simp only[↓jr,jp,jd,jz,zA,zB,zC,zD,zE,zF,zG,zH,zI,zJ,zK,zL,zM,zN,reduceIte,jq2,q_e5,ext_next,ext_tnext,Nat.le_refl,hx])
        refine wq.intro (fun g1 => ?_) (fun g1 => ?_)
        · have lk : k < b.kr := by omega
          have hu := s_UnderO (G := GG m) b h2 r k lr lk jx
          rw [hx] at hu
          have hfl := filt_len (undF b r) k
          have hl1 : ∀ {n : Nat}, pid JB.next 1 < pid JB.next n ↔ 1 < n := fun {n} => by unfold pid; omega
          have hlen : (ofN b JB.next).length = b.kl + 0 := ofX_len
          have hkl : 1 < b.kl + 0 := by unfold Bas.kl; omega
          (try simp only[↓jr,jp,jd,jz,zA,zB,zC,zD,zE,zF,zG,zH,zI,zJ,zK,zL,zM,zN,reduceIte,jq2,q_e5,ext_next,ext_tnext,Nat.le_refl,hx])
          refine JCs.ret hu ?_
          (try simp only[↓jr,jp,jd,jz,zA,zB,zC,zD,zE,zF,zG,zH,zI,zJ,zK,zL,zM,zN,reduceIte,jq2,q_e5,ext_next,ext_tnext,Nat.le_refl,hx])
          refine ww.intro (fun h5 => ?_) (fun h5 => ?_)
          · (try simp only[↓jr,jp,jd,jz,zA,zB,zC,zD,zE,zF,zG,zH,zI,zJ,zK,zL,zM,zN,reduceIte,jq2,q_e5,ext_next,ext_tnext,Nat.le_refl,hx])
            refine JAPP.can' hcn.push (ht.push 1) (by rw [natv_len, Nat.mul_one]) rfl rfl (by omega) (by omega) ?_
            intro tok1 j1 hcan ht3 hle
            have hle' : jx.tnext ≤ j1.tnext := Nat.le_trans (Nat.le_succ _) hle
            have hx1 := ht3.next
            (try simp only[↓jr,jp,jd,jz,zA,zB,zC,zD,zE,zF,zG,zH,zI,zJ,zK,zL,zM,zN,reduceIte,jq2,q_e5,ext_next,ext_tnext,Nat.le_refl,hx,hx1])
            refine wc.intro (by unfold R64; omega) ?_
            (try simp only[↓jr,jp,jd,jz,zA,zB,zC,zD,zE,zF,zG,zH,zI,zJ,zK,zL,zM,zN,reduceIte,jq2,q_e5,ext_next,ext_tnext,Nat.le_refl,hx])
            have e1 := filt_t (p := undF b r) h5
            have e2 : (filt (undF b r) (k + 1)).length = (filt (undF b r) k).length + 1 := by rw [e1]; simp
            refine JNEXT.of (k + 1, tok1, j1) ⟨by simp only; omega, ht3, by simp only [e2]; exact hcan⟩ (by simp only; omega) ?_ (JDropH.nextO ht ht3 hle')
            (try simp only[↓jr,jp,jd,jz,zA,zB,zC,zD,zE,zF,zG,zH,zI,zJ,zK,zL,zM,zN,reduceIte,jq2,q_e5,ext_next,ext_tnext,Nat.le_refl,hx,DL,e2,e1,natv_append,natv_one,hx1])
            exact ⟨SubB.eqi (by omega), SubB.v, SubB.ptr (by rw [hlen]; exact hl1.2 hkl), SubB.v, SubB.v, SubB.sl rfl (SubBs.pure (natv_pur _)), SubB.can hcan (by rw [pures_append, natv_pur]; rfl)⟩
          · (try simp only[↓jr,jp,jd,jz,zA,zB,zC,zD,zE,zF,zG,zH,zI,zJ,zK,zL,zM,zN,reduceIte,jq2,q_e5,ext_next,ext_tnext,Nat.le_refl,hx])
            refine wc.intro (by unfold R64; omega) ?_
            (try simp only[↓jr,jp,jd,jz,zA,zB,zC,zD,zE,zF,zG,zH,zI,zJ,zK,zL,zM,zN,reduceIte,jq2,q_e5,ext_next,ext_tnext,Nat.le_refl,hx])
            have e1 := filt_f (p := undF b r) h5
            refine JNEXT.of (k + 1, tk, jx) ⟨by simp only; omega, ht, by simp only [e1]; exact hcn⟩ (by simp only; omega) ?_ (JDropH.nextO ht ht (Nat.le_refl _))
            (try simp only[↓jr,jp,jd,jz,zA,zB,zC,zD,zE,zF,zG,zH,zI,zJ,zK,zL,zM,zN,reduceIte,jq2,q_e5,ext_next,ext_tnext,Nat.le_refl,hx,DL,e1])
            exact ⟨SubB.eqi (by omega), SubB.v, SubB.ptr (by rw [hlen]; exact hl1.2 hkl), SubB.v, SubB.v, SubB.sl rfl (SubBs.pure (natv_pur _)), SubB.can hcn (natv_pur _)⟩
        · (try simp only[↓jr,jp,jd,jz,zA,zB,zC,zD,zE,zF,zG,zH,zI,zJ,zK,zL,zM,zN,reduceIte,jq2,q_e5,ext_next,ext_tnext,Nat.le_refl,hx])
          have ek : k = b.kr := by omega
          rw [ek]
          refine JCs.ret (s_SameInts _ _ _ _ (by omega) (by omega) _) ?_
          rw [decide_eq_true rfl]
          (try simp only[↓jr,jp,jd,jz,zA,zB,zC,zD,zE,zF,zG,zH,zI,zJ,zK,zL,zM,zN,reduceIte,jq2,q_e5,ext_next,ext_tnext,Nat.le_refl,hx])
          refine JCs.ret (s_awake _) ?_
          (try simp only[↓jr,jp,jd,jz,zA,zB,zC,zD,zE,zF,zG,zH,zI,zJ,zK,zL,zM,zN,reduceIte,jq2,q_e5,ext_next,ext_tnext,Nat.le_refl,hx])
          obtain ⟨jt, lJ, htt, eB⟩ := hfinB
          rw [eB] at ht
          obtain ⟨j2, g1, g2⟩ := ext_over (X := ofN b JB.next) ht
          rw [g2]
          exact aw (htt.trans g1)
      · have hno : ¬ (0 ≤ role ∧ role < b.kr) := fun q => by rw [rolOK_iff.2 q] at h4; cases h4
        have e1 : aboE b role = 1 := by unfold aboE; rw [if_pos h3, if_neg hno]
        have e2 : aboL b role = [] := by unfold aboL; rw [e1]; rfl
        rw [e1, e2, natv_nil]
        (try simp only[↓jr,jp,jd,jz,zA,zB,zC,zD,zE,zF,zG,zH,zI,zJ,zK,zL,zM,zN,reduceIte,jq2,q_e5,ext_next,ext_tnext,Nat.le_refl,ext_get_old,gB,lB,cast0])
        refine JCs.ret (s_awake _) ?_
        (try simp only[↓jr,jp,jd,jz,zA,zB,zC,zD,zE,zF,zG,zH,zI,zJ,zK,zL,zM,zN,reduceIte,jq2,q_e5,ext_next,ext_tnext,Nat.le_refl,ext_get_old,gB,lB])
        obtain ⟨jt, lJ, htt, eB⟩ := hfinB
        rw [eB, ext_ext]
        exact aw htt
    · have e1 : aboE b role = askE b := by unfold aboE; rw [if_neg h3]
      have e2 : aboL b role = [] := by unfold aboL; rw [e1, if_neg h3]
      have e3 : emptC b = [] := by unfold emptC; rw [if_neg h3]
      have e4 : emptR b = [] := by unfold emptR; rw [if_neg h3]
      rw [e1, e2, e3, e4, natv_nil]
      (try simp only[↓jr,jp,jd,jz,zA,zB,zC,zD,zE,zF,zG,zH,zI,zJ,zK,zL,zM,zN,reduceIte,jq2,q_e5,ext_next,ext_tnext,Nat.le_refl,ext_get_old,gB,lB,cast0])
      refine wc.intro (by unfold R64; omega) ?_
      (try simp only[↓jr,jp,jd,jz,zA,zB,zC,zD,zE,zF,zG,zH,zI,zJ,zK,zL,zM,zN,reduceIte,jq2,q_e5,ext_next,ext_tnext,Nat.le_refl,ext_get_old,gB,lB,cast0])
      refine wc.intro (by unfold R64; omega) ?_
      (try simp only[↓jr,jp,jd,jz,zA,zB,zC,zD,zE,zF,zG,zH,zI,zJ,zK,zL,zM,zN,reduceIte,jq2,q_e5,ext_next,ext_tnext,Nat.le_refl,ext_get_old,gB,lB,cast0])
      refine JCs.ret (s_awake _) ?_
      (try simp only[↓jr,jp,jd,jz,zA,zB,zC,zD,zE,zF,zG,zH,zI,zJ,zK,zL,zM,zN,reduceIte,jq2,q_e5,ext_next,ext_tnext,Nat.le_refl,ext_get_old,gB,lB])
      obtain ⟨jt, lJ, htt, eB⟩ := hfinB
      rw [eB]
      exact aw htt
end Go.Proofs.YtkcbhebbjpiibaaDoor.Pg
