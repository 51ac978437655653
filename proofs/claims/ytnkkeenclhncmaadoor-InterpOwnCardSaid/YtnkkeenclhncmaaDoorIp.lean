/-
  Copies of rows; sorting an empty row; interp.Related and interp.Pairs for every role.
-/
import Derived.Test.YtnkkeenclhncmaaDoorIn
import Derived.Test.YtnkkeenclhncmaaDoorIo
set_option linter.unusedVariables false
set_option linter.unusedSimpArgs false
set_option maxRecDepth 100000
set_option maxHeartbeats 8000000
namespace Go.Proofs.YtnkkeenclhncmaaDoor.Pg
open Go
section
variable {m : GM} {G : Nat → Option (List AV)}
theorem JAPP.can0 {j0 j : JH} {objs : List AObj} {es bytes n m : Nat} {tok tok' : Tok} {cs cs' : List AV} {K : AV → JH → Prop} (h : CanApp j0 j tok es n) (ht : TokExt j0 j)
    (h1 : cs.length = n * es) (h2 : cs'.length = m * es) (h3 : cs'.all AV.one = true) (h4 : (n + m) * bytes ≤ 140737488355328) (h5 : n + m ≤ 9223372036854775807)
    (k : ∀ tok1 j1, CanApp j0 j1 tok1 es (n + m) → TokExt j0 j1 → j.tnext ≤ j1.tnext → K (.sl tok1 (n + m) (cs ++ cs')) (ext j1 objs)) : @JAPP (ext j objs) es bytes (.sl tok n cs) (.sl tok' m cs') ⟨K⟩ := by
  by_cases hm : m = 0
  · subst hm
    have hcs : cs' = [] := List.eq_nil_of_length_eq_zero (by rw [h2, Nat.zero_mul])
    subst hcs
    refine ⟨⟨h1, h2, h3, h4, h5⟩, fun _ => ?_, fun e => absurd rfl e⟩
    have := k tok j h ht (Nat.le_refl _)
    rwa [Nat.add_zero, List.append_nil] at this
  · exact JAPP.can h ht h1 h2 h3 h4 h5 hm k
def ir59 : IFn := ⟨8, [⟨2, none⟩], (.seq (.reg [oA 2 (.mov (.k (.sl .nil 0 [])))]) (.seq (.seq (.reg [oA 3 (kM 0), oA 4 (.gen ⟨(some 4), (.binOp .eql 32 (.tmp 3) (.const (.slice none 0 0)) 32), 4, "slices.go:357", #[⟨0, .data⟩], none⟩)]) (.cond (.r 4) (.seq (.reg [oA 2 (.mov (.k (.sl .nil 0 [])))]) .ret) .skip)) (.seq (.reg [oA 5 (.bsl 0 2 [.v (.int .i64 0), .v (.int .i64 0)] []), oA 6 (kM 0), oA 7 (.app 2 16 (.r 5) (.r 6)), oA 2 (kM 7)]) .ret)))⟩
theorem c59 : cfunc Tryd.prog 59 = some ir59 := by kernel_rfl
theorem k59 : okIR (max 1 ir59.n) ir59.ir = true := by decide +kernel
theorem s_CloneN (l : List (Int × Int)) (hl : l.length ≤ 8796093022208) (tok : Tok) (j : JH) : JC Tryd.prog G 59 [.sl .none l.length (encs PR l)] j (RET (.sl .none l.length (encs PR l)) j) := by
  refine JC.run hmix c59 (by exact k59) ?_
  (try simp only[↓jr,jw,seval,ir59])
  refine JGEN.nil (ne := false) (t := 3) (by kernel_rfl) ?_
  intro b hb
  (try simp only[↓jr,jw,seval])
  cases b with
  | true =>
    have hn : l = [] := by
      cases l with
      | nil => rfl
      | cons x l => exact absurd (hb rfl) (by simp [encs_cons])
    subst hn
    (try simp only[↓jr,jw,seval])
    refine JFIN.rb ?_
    exact SubB.sl rfl (SubBs.pure rfl)
  | false =>
    (try simp only[↓jr,jw,seval])
    have hc : CanApp j (j.pushTok 0) (.own j.tnext 0 2) 2 0 := .inr ⟨j.tnext, Nat.le_refl _, Nat.lt_succ_self _, rfl, by simp [JH.pushTok]⟩
    have ht : TokExt j (j.pushTok 0) := (TokExt.refl j).push 0
    refine JAPP.can0 hc ht rfl d_prl (by unfold encs; rw [List.all_flatMap]; exact List.all_eq_true.2 fun _ _ => rfl) (by omega) (by omega) ?_
    intro tok1 j1 hcan ht3 hle
    (try simp only[↓jr,jw,seval])
    exact JFIN.ret (JDropH.back ht3).of_ext (SubB.sl rfl (SubBs.pure (PR.pur _)))
/-! ### An empty row sorted -/
def ir112 : IFn := ⟨25, [⟨2, none⟩], (.seq (.reg [oA 2 (.mov (kI 0))]) (.seq (.seq (.reg [oA 3 (kM 0), oA 4 (.bin .geq (.r 3) (.k (.v (.int .u64 4294967296))))]) (.cond (.r 4) (.seq (.reg [oA 5 (kM 0), oA 6 (.bin .shr (.r 5) (.k (.v (.int .u64 32)))), oA 0 (kM 6)]) (.reg [oA 2 (.mov (kI 32))])) .skip)) (.seq (.seq (.reg [oA 7 (kM 0), oA 8 (.bin .geq (.r 7) (.k (.v (.int .u64 65536))))]) (.cond (.r 8) (.seq (.reg [oA 9 (kM 0), oA 10 (.bin .shr (.r 9) (.k (.v (.int .u64 16)))), oA 0 (kM 10)]) (.reg [oA 11 (kM 2), oA 12 (.bin .add (.r 11) (kI 16)), oA 2 (kM 12)])) .skip)) (.seq (.seq (.reg [oA 13 (kM 0), oA 14 (.bin .geq (.r 13) (.k (.v (.int .u64 256))))]) (.cond (.r 14) (.seq (.reg [oA 15 (kM 0), oA 16 (.bin .shr (.r 15) (.k (.v (.int .u64 8)))), oA 0 (kM 16)]) (.reg [oA 17 (kM 2), oA 18 (.bin .add (.r 17) (kI 8)), oA 2 (kM 18)])) .skip)) (.seq (.reg [oA 19 (kM 2), oA 20 (kM 0), oA 21 (.cvt .u8 (.r 20)), oA 22 (.idxs (.k (.v (.string ⟨#[0, 1, 2, 2, 3, 3, 3, 3, 4, 4, 4, 4, 4, 4, 4, 4, 5, 5, 5, 5, 5, 5, 5, 5, 5, 5, 5, 5, 5, 5, 5, 5, 6, 6, 6, 6, 6, 6, 6, 6, 6, 6, 6, 6, 6, 6, 6, 6, 6, 6, 6, 6, 6, 6, 6, 6, 6, 6, 6, 6, 6, 6, 6, 6, 7, 7, 7, 7, 7, 7, 7, 7, 7, 7, 7, 7, 7, 7, 7, 7, 7, 7, 7, 7, 7, 7, 7, 7, 7, 7, 7, 7, 7, 7, 7, 7, 7, 7, 7, 7, 7, 7, 7, 7, 7, 7, 7, 7, 7, 7, 7, 7, 7, 7, 7, 7, 7, 7, 7, 7, 7, 7, 7, 7, 7, 7, 7, 7, 8, 8, 8, 8, 8, 8, 8, 8, 8, 8, 8, 8, 8, 8, 8, 8, 8, 8, 8, 8, 8, 8, 8, 8, 8, 8, 8, 8, 8, 8, 8, 8, 8, 8, 8, 8, 8, 8, 8, 8, 8, 8, 8, 8, 8, 8, 8, 8, 8, 8, 8, 8, 8, 8, 8, 8, 8, 8, 8, 8, 8, 8, 8, 8, 8, 8, 8, 8, 8, 8, 8, 8, 8, 8, 8, 8, 8, 8, 8, 8, 8, 8, 8, 8, 8, 8, 8, 8, 8, 8, 8, 8, 8, 8, 8, 8, 8, 8, 8, 8, 8, 8, 8, 8, 8, 8, 8, 8, 8, 8, 8, 8, 8, 8, 8, 8, 8, 8, 8, 8, 8, 8, 8, 8, 8, 8, 8, 8]⟩))) (.r 21)), oA 23 (.cvt .i64 (.r 22)), oA 24 (.bin .add (.r 19) (.r 23)), oA 2 (kM 24)]) .ret)))))⟩
theorem c112 : cfunc Tryd.prog 112 = some ir112 := by kernel_rfl
theorem k112 : okIR (max 1 ir112.n) ir112.ir = true := by decide +kernel
theorem s_len64z (j : JH) : JC Tryd.prog G 112 [.v (.int .u64 0)] j (RET (I64 0) j) := by
  refine JC.run hmix c112 (by exact k112) ?_
  (try simp only[↓jr,jw,seval,ir112])
  have e : IntKind.u8.wrap 0 = 0 := by decide
  simp only [jar, e]
  refine ⟨Int.le_refl _, ?_⟩
  rw [show (0 : Int).toNat = 0 from rfl]
  rw [byte_at (k := 0) (b := 0) rfl]
  simp only [wv_some, jcvt, jar]
  refine ⟨by unfold R64; decide, ?_⟩
  simp only [jbin, jar, true_and]
  refine ⟨by unfold R64; decide, ?_⟩
  refine JFIN.rb ?_
  exact SubB.v
def ir85 : IFn := ⟨8, [⟨2, none⟩], (.seq (.reg [oA 2 (.mov (kI 0))]) (.seq (.cond (kB false) (.seq (.reg [oA 3 (kM 0), oA 4 (.cvt .u32 (.r 3)), oT 5 4 (.call 111 [.r 4]), oA 2 (kM 5)]) .ret) .skip) (.seq (.reg [oA 6 (kM 0), oT 7 6 (.call 112 [.r 6]), oA 2 (kM 7)]) .ret)))⟩
theorem c85 : cfunc Tryd.prog 85 = some ir85 := by kernel_rfl
theorem k85 : okIR (max 1 ir85.n) ir85.ir = true := by decide +kernel
theorem s_lenz (j : JH) : JC Tryd.prog G 85 [.v (.int .u64 0)] j (RET (I64 0) j) := by
  refine JC.run hmix c85 (by exact k85) ?_
  (try simp only[↓jr,jw,seval,ir85])
  refine JCs.ret (s_len64z _) ?_
  (try simp only[↓jr,jw,seval])
  refine JFIN.rb ?_
  exact SubB.v
def ir103 : IFn := ⟨53, [], (.seq (.reg [oA 10 (kM 1), oA 11 (.bin .add (.r 10) (kI 1)), oA 8 (kM 11)]) (.block 0 (.loop (.seq (.seq (.reg [oA 12 (kM 8), oA 13 (kM 2), oA 14 (.bin .lss (.r 12) (.r 13))]) (.cond (.r 14) .skip (.exit 0))) (.seq (.block 1 (.seq (.reg [oA 17 (kM 8), oA 9 (kM 17)]) (.block 2 (.loop (.seq (.seq (.draw [oA 18 (kM 9), oA 19 (kM 1), oA 20 (.bin .gtr (.r 18) (.r 19)), oA 21 (kM 20), ⟨(some 22), (some ((21, true))), none, (kM 3)⟩, ⟨(some 23), (some ((21, true))), none, (kM 0)⟩, ⟨(some 24), (some ((21, true))), none, (kM 9)⟩, ⟨(some 25), (some ((21, true))), none, (.iasl 2 (.r 23) (.r 24))⟩, ⟨(some 26), (some ((21, true))), (some (.r 25)), (.load (some 2) (.r 25))⟩, ⟨(some 27), (some ((21, true))), none, (kM 0)⟩, ⟨(some 28), (some ((21, true))), none, (kM 9)⟩, ⟨(some 29), (some ((21, true))), none, (.bin .sub (.r 28) (kI 1))⟩, ⟨(some 30), (some ((21, true))), none, (.iasl 2 (.r 27) (.r 29))⟩, ⟨(some 31), (some ((21, true))), (some (.r 30)), (.load (some 2) (.r 30))⟩, ⟨(some 32), (some ((21, true))), none, (.callv (.r 22) [.r 26, .r 31])⟩, ⟨(some 33), (some ((21, true))), none, (.bin .lss (.r 32) (kI 0))⟩, oA 34 (.pick (.r 21) (.r 33) (kB false))] []) (.cond (.r 34) .skip (.exit 2))) (.seq (.block 3 (.draw [oA 37 (kM 0), oA 38 (kM 9), oA 39 (kM 0), oA 40 (kM 9), oA 41 (.bin .sub (.r 40) (kI 1)), oA 42 (kM 0), oA 43 (kM 9), oA 44 (.bin .sub (.r 43) (kI 1)), oA 45 (.iasl 2 (.r 42) (.r 44)), oL 46 45 (some 2), oA 47 (kM 0), oA 48 (kM 9), oA 49 (.iasl 2 (.r 47) (.r 48)), oL 50 49 (some 2), oA 51 (.iasl 2 (.r 37) (.r 38)), oN (.store 2 (.r 51) (.r 46)), oA 52 (.iasl 2 (.r 39) (.r 41)), oN (.store 2 (.r 52) (.r 50))] [])) (.reg [oA 35 (kM 9), oA 36 (.bin .sub (.r 35) (kI 1)), oA 9 (kM 36)]))))))) (.reg [oA 15 (kM 8), oA 16 (.bin .add (.r 15) (kI 1)), oA 8 (kM 16)]))))))⟩
theorem c103 : cfunc Tryd.prog 103 = some ir103 := by kernel_rfl
theorem k103 : okIR (max 4 ir103.n) ir103.ir = true := by decide +kernel
theorem s_ins0 (x c : AV) (j : JH) : JC Tryd.prog G 103 [x, I64 0, I64 0, c] j (RET (aret []) j) := by
  refine JC.run hmix c103 (by exact k103) ?_
  (try simp only[↓jr,jw,seval,ir103])
  refine wc.intro (by unfold R64; omega) ?_
  (try simp only[↓jr,jw,seval])
  refine JLOOP.of (σ := Nat) (fun k => k = 0) (fun k => k) (fun k => [(8, I64 1), (2, I64 0)]) (fun k => ext j []) 0 rfl ?_ (JDropH.refl _) ?_
  · (try simp only[↓jr,jw,seval,DL])
    exact ⟨SubB.v, SubB.v⟩
  rintro k rfl
  (try simp only[↓jr,jw,seval])
  refine JFIN.rb ?_
  exact SubB.tup True.intro
def ir84 : IFn := ⟨148, [], (.seq (.reg [oA 10 (.mov (kB true))]) (.seq (.reg [oA 11 (.mov (kB true))]) (.block 0 (.loop (.block 1 (.seq (.reg [oA 21 (kM 2), oA 22 (kM 1), oA 23 (.bin .sub (.r 21) (.r 22)), oA 12 (kM 23)]) (.seq (.seq (.reg [oA 24 (kM 12), oA 25 (.bin .leq (.r 24) (kI 12))]) (.cond (.r 25) (.seq (.reg [oA 26 (kM 0), oA 27 (kM 1), oA 28 (kM 2), oA 29 (kM 4), oA 30 (.call 103 [.r 26, .r 27, .r 28, .r 29])]) .ret) .skip)) (.seq (.seq (.reg [oA 31 (kM 3), oA 32 (.bin .eql (.r 31) (kI 0))]) (.cond (.r 32) (.seq (.reg [oA 33 (kM 0), oA 34 (kM 1), oA 35 (kM 2), oA 36 (kM 4), oA 37 (.call 104 [.r 33, .r 34, .r 35, .r 36])]) .ret) .skip)) (.seq (.seq (.reg [oA 38 (kM 10), oA 39 (.not (.r 38))]) (.cond (.r 39) (.seq (.reg [oA 40 (kM 0), oA 41 (kM 1), oA 42 (kM 2), oA 43 (kM 4), oA 44 (.call 105 [.r 40, .r 41, .r 42, .r 43])]) (.reg [oA 45 (kM 3), oA 46 (.bin .sub (.r 45) (kI 1)), oA 3 (kM 46)])) .skip)) (.seq (.reg [oA 48 (kM 0), oA 49 (kM 1), oA 50 (kM 2), oA 51 (kM 4), oA 52 (.call 106 [.r 48, .r 49, .r 50, .r 51]), oA 47 (kM 52), oA 53 (.ext (.r 47) 0), oA 54 (.ext (.r 47) 1), oA 13 (kM 53), oA 14 (kM 54)]) (.seq (.seq (.reg [oA 55 (kM 14), oA 56 (.bin .eql (.r 55) (kI 2))]) (.cond (.r 56) (.seq (.reg [oA 57 (kM 0), oA 58 (kM 1), oA 59 (kM 2), oA 60 (kM 4), oA 61 (.call 107 [.r 57, .r 58, .r 59, .r 60])]) (.seq (.reg [oA 62 (kM 2), oA 63 (.bin .sub (.r 62) (kI 1)), oA 64 (kM 13), oA 65 (kM 1), oA 66 (.bin .sub (.r 64) (.r 65)), oA 67 (.bin .sub (.r 63) (.r 66)), oA 13 (kM 67)]) (.reg [oA 14 (.mov (kI 1))]))) .skip)) (.seq (.seq (.reg [oA 68 (kM 10), oA 69 (kM 68), ⟨(some 70), (some ((69, true))), none, (kM 11)⟩, oA 71 (.pick (.r 69) (.r 70) (kB false)), oA 72 (kM 71), ⟨(some 73), (some ((72, true))), none, (kM 14)⟩, ⟨(some 74), (some ((72, true))), none, (.bin .eql (.r 73) (kI 1))⟩, oA 75 (.pick (.r 72) (.r 74) (kB false))]) (.cond (.r 75) (.seq (.reg [oA 76 (kM 0), oA 77 (kM 1), oA 78 (kM 2), oA 79 (kM 4), oA 80 (.call 108 [.r 76, .r 77, .r 78, .r 79])]) (.cond (.r 80) .ret .skip)) .skip)) (.seq (.seq (.draw [oA 81 (kM 1), oA 82 (.bin .gtr (.r 81) (kI 0)), oA 83 (kM 82), ⟨(some 84), (some ((83, true))), none, (kM 4)⟩, ⟨(some 85), (some ((83, true))), none, (kM 0)⟩, ⟨(some 86), (some ((83, true))), none, (kM 1)⟩, ⟨(some 87), (some ((83, true))), none, (.bin .sub (.r 86) (kI 1))⟩, ⟨(some 88), (some ((83, true))), none, (.iasl 2 (.r 85) (.r 87))⟩, ⟨(some 89), (some ((83, true))), (some (.r 88)), (.load (some 2) (.r 88))⟩, ⟨(some 90), (some ((83, true))), none, (kM 0)⟩, ⟨(some 91), (some ((83, true))), none, (kM 13)⟩, ⟨(some 92), (some ((83, true))), none, (.iasl 2 (.r 90) (.r 91))⟩, ⟨(some 93), (some ((83, true))), (some (.r 92)), (.load (some 2) (.r 92))⟩, ⟨(some 94), (some ((83, true))), none, (.callv (.r 84) [.r 89, .r 93])⟩, ⟨(some 95), (some ((83, true))), none, (.bin .lss (.r 94) (kI 0))⟩, ⟨(some 96), (some ((83, true))), none, (.not (.r 95))⟩, oA 97 (.pick (.r 83) (.r 96) (kB false))] []) (.cond (.r 97) (.seq (.reg [oA 98 (kM 0), oA 99 (kM 1), oA 100 (kM 2), oA 101 (kM 13), oA 102 (kM 4), oA 103 (.call 109 [.r 98, .r 99, .r 100, .r 101, .r 102]), oA 15 (kM 103)]) (.seq (.reg [oA 104 (kM 15), oA 1 (kM 104)]) (.exit 1))) .skip)) (.seq (.reg [oA 106 (kM 0), oA 107 (kM 1), oA 108 (kM 2), oA 109 (kM 13), oA 110 (kM 4), oA 111 (.call 110 [.r 106, .r 107, .r 108, .r 109, .r 110]), oA 105 (kM 111), oA 112 (.ext (.r 105) 0), oA 113 (.ext (.r 105) 1), oA 16 (kM 112), oA 17 (kM 113)]) (.seq (.reg [oA 114 (kM 17), oA 11 (kM 114)]) (.seq (.reg [oA 115 (kM 16), oA 116 (kM 1), oA 117 (.bin .sub (.r 115) (.r 116)), oA 118 (kM 2), oA 119 (kM 16), oA 120 (.bin .sub (.r 118) (.r 119)), oA 18 (kM 117), oA 19 (kM 120)]) (.seq (.reg [oA 121 (kM 12), oA 122 (.bin .quo (.r 121) (kI 8)), oA 20 (kM 122)]) (.seq (.reg [oA 123 (kM 18), oA 124 (kM 19), oA 125 (.bin .lss (.r 123) (.r 124))]) (.cond (.r 125) (.seq (.reg [oA 126 (kM 18), oA 127 (kM 20), oA 128 (.bin .geq (.r 126) (.r 127)), oA 10 (kM 128)]) (.seq (.reg [oA 129 (kM 0), oA 130 (kM 1), oA 131 (kM 16), oA 132 (kM 3), oA 133 (kM 4), oA 134 (.call 84 [.r 129, .r 130, .r 131, .r 132, .r 133])]) (.reg [oA 135 (kM 16), oA 136 (.bin .add (.r 135) (kI 1)), oA 1 (kM 136)]))) (.seq (.reg [oA 137 (kM 19), oA 138 (kM 20), oA 139 (.bin .geq (.r 137) (.r 138)), oA 10 (kM 139)]) (.seq (.reg [oA 140 (kM 0), oA 141 (kM 16), oA 142 (.bin .add (.r 141) (kI 1)), oA 143 (kM 2), oA 144 (kM 3), oA 145 (kM 4), oA 146 (.call 84 [.r 140, .r 142, .r 143, .r 144, .r 145])]) (.reg [oA 147 (kM 16), oA 2 (kM 147)]))))))))))))))))))))))⟩
theorem c84 : cfunc Tryd.prog 84 = some ir84 := by kernel_rfl
theorem k84 : okIR (max 5 ir84.n) ir84.ir = true := by decide +kernel
theorem s_pdq0 (g : FuncId) (j : JH) : JC Tryd.prog G 84 [.sl .none 0 [], I64 0, I64 0, I64 0, .fn (.func g) [] []] j (RET (aret []) j) := by
  refine JC.run hmix c84 (by exact k84) ?_
  (try simp only[↓jr,jw,seval,ir84])
  refine JLOOP.of (σ := Nat) (fun k => k = 0) (fun k => k) (fun k => [(0, .sl .none 0 []), (1, I64 0), (2, I64 0), (3, I64 0), (4, .fn (.func g) [] [])]) (fun k => ext j []) 0 rfl ?_ (JDropH.refl _) ?_
  · (try simp only[↓jr,jw,seval,DL])
    exact ⟨SubB.sl rfl True.intro, SubB.v, SubB.v, SubB.v, SubB.fn True.intro True.intro⟩
  rintro k rfl
  (try simp only[↓jr,jw,seval])
  refine wc.intro (by unfold R64; omega) ?_
  (try simp only[↓jr,jw,seval])
  refine JCs.ret (s_ins0 _ _ _) ?_
  (try simp only[↓jr,jw,seval])
  refine JFIN.rb ?_
  exact SubB.tup True.intro
def ir60 : IFn := ⟨14, [], (.seq (.reg [oA 5 (kM 0), oT 6 5 (.lenl (.r 5)), oA 4 (kM 6)]) (.reg [oA 7 (kM 0), oA 8 (kM 4), oA 9 (kM 4), oA 10 (.cvt .u64 (.r 9)), oT 11 10 (.call 85 [.r 10]), oA 12 (kM 1), oA 13 (.call 84 [.r 7, .k (.v (.int .i64 0)), .r 8, .r 11, .r 12])]))⟩
theorem c60 : cfunc Tryd.prog 60 = some ir60 := by kernel_rfl
theorem k60 : okIR (max 2 ir60.n) ir60.ir = true := by decide +kernel
theorem s_sort0 (tok : Tok) (g : FuncId) (j : JH) : JC Tryd.prog G 60 [.sl .none 0 [], .fn (.func g) [] []] j (RET (aret []) j) := by
  refine JC.run hmix c60 (by exact k60) ?_
  (try simp only[↓jr,jw,seval,ir60])
  simp only [jar, show IntKind.u64.wrap 0 = 0 from by decide]
  refine JCs.ret (s_lenz _) ?_
  (try simp only[↓jr,jw,seval])
  refine JCs.ret (s_pdq0 _ _) ?_
  (try simp only[↓jr,jw,seval])
  refine JFIN.rb ?_
  exact SubB.tup True.intro
end
/-! ### Lists in strict order -/
def lt8 (x y : P8) : Prop := x.1.val < y.1.val ∨ (x.1.val = y.1.val ∧ x.2.val < y.2.val)
theorem lt8_irr {x : P8} (h : lt8 x x) : False := by unfold lt8 at h; omega
theorem lt8_asymm {x y : P8} (h : lt8 x y) (k : lt8 y x) : False := by unfold lt8 at h k; omega
theorem strict8 : ∀ {l m : List P8}, l.Pairwise lt8 → m.Pairwise lt8 → (∀ x, x ∈ l ↔ x ∈ m) → l = m
  | [], [], _, _, _ => rfl
  | [], y :: m, _, _, h => by have := (h y).2 List.mem_cons_self; cases this
  | x :: l, [], _, _, h => by have := (h x).1 List.mem_cons_self; cases this
  | x :: l, y :: m, h1, h2, h => by
    obtain ⟨a1, b1⟩ := List.pairwise_cons.1 h1
    obtain ⟨a2, b2⟩ := List.pairwise_cons.1 h2
    have exy : x = y := by
      rcases List.mem_cons.1 ((h x).1 List.mem_cons_self) with e | e
      · exact e
      rcases List.mem_cons.1 ((h y).2 List.mem_cons_self) with e' | e'
      · exact e'.symm
      · exact (lt8_asymm (a2 x e) (a1 y e')).elim
    subst exy
    rw [strict8 b1 b2 fun z => ⟨fun hz => ?_, fun hz => ?_⟩]
    · rcases List.mem_cons.1 ((h z).1 (List.mem_cons_of_mem _ hz)) with rfl | e
      · exact (lt8_irr (a1 z hz)).elim
      · exact e
    · rcases List.mem_cons.1 ((h z).2 (List.mem_cons_of_mem _ hz)) with rfl | e
      · exact (lt8_irr (a2 z hz)).elim
      · exact e
theorem rol_pw {s : Int} : ∀ {l : List (Int × Int)} {q : Int × Int}, rolR s q l = true → l.Pairwise (fun p r => lessP p r = true) ∧ ∀ p ∈ l, lessP q p = true
  | [], _, _ => ⟨List.Pairwise.nil, fun _ h => by cases h⟩
  | p :: l, q, h => by
    simp only [rolR, Bool.and_eq_true] at h
    obtain ⟨⟨_, h2⟩, h3⟩ := h
    obtain ⟨h4, h5⟩ := rol_pw h3
    refine ⟨List.pairwise_cons.2 ⟨h5, h4⟩, fun r hr => ?_⟩
    rcases List.mem_cons.1 hr with rfl | hr
    · exact h2
    · have := h5 r hr
      unfold lessP at this h2 ⊢
      simp only [Bool.or_eq_true, Bool.and_eq_true, decide_eq_true_eq] at this h2 ⊢
      omega
def in8 (p : Int × Int) : Prop := 0 ≤ p.1 ∧ p.1 < 256 ∧ 0 ≤ p.2 ∧ p.2 < 256
theorem toP8_val {p : Int × Int} (h : in8 p) : ((toP8 p).1.val : Int) = p.1 ∧ ((toP8 p).2.val : Int) = p.2 := by
  unfold in8 at h
  constructor <;> (simp [toP8, Fin.ofNat]; omega)
theorem toP8_lt {p q : Int × Int} (hp : in8 p) (hq : in8 q) (h : lessP p q = true) : lt8 (toP8 p) (toP8 q) := by
  have h1 := toP8_val hp
  have h2 := toP8_val hq
  unfold lessP at h
  simp only [Bool.or_eq_true, Bool.and_eq_true, decide_eq_true_eq] at h
  unfold lt8
  omega
theorem invI_pw {ps : List (Int × Int)} {n : Nat} (h : ps.Pairwise (fun p r => lessP p r = true)) : (invI ps n).Pairwise (fun p r => lessP p r = true) := by
  unfold invI
  rw [List.pairwise_flatMap]
  refine ⟨fun x _ => ?_, ?_⟩
  · rw [List.pairwise_map]
    refine List.Pairwise.imp_of_mem (fun {a b} ha hb hab => ?_) (h.filter _)
    have h1 := of_decide_eq_true (List.mem_filter.1 ha).2
    have h2 := of_decide_eq_true (List.mem_filter.1 hb).2
    unfold lessP at hab ⊢
    simp only [Bool.or_eq_true, Bool.and_eq_true, decide_eq_true_eq] at hab ⊢
    omega
  · refine List.Pairwise.imp (fun {a b} hab => ?_) (List.pairwise_lt_range (n := n))
    intro p hp q hq
    obtain ⟨p', h1, rfl⟩ := List.mem_map.1 hp
    obtain ⟨q', h2, rfl⟩ := List.mem_map.1 hq
    have h1 := of_decide_eq_true (List.mem_filter.1 h1).2
    have h2 := of_decide_eq_true (List.mem_filter.1 h2).2
    unfold lessP
    simp only [Bool.or_eq_true, Bool.and_eq_true, decide_eq_true_eq]
    omega
theorem rel_inv {i : Itp} {r : Int} {l : List P8} (hi : i.wf) (hr : rolOKp i.size (rolI i r) = true) (h : RelOK i r l) : l = (invI (rolI i r) (sz i)).map toP8 := by
  obtain ⟨z1, z2, z3⟩ := sz_size hi
  unfold RelOK at h
  generalize rolI i r = ps at hr h ⊢
  obtain ⟨hperm, hpw⟩ := h
  have hall : ∀ p ∈ ps, 0 ≤ p.1 ∧ p.1 < i.size ∧ 0 ≤ p.2 ∧ p.2 < i.size := by
    intro p hp
    unfold rolOKp at hr
    rw [Bool.and_eq_true, List.all_eq_true] at hr
    exact prIn_iff.1 (hr.1 p hp)
  have h8 : ∀ p ∈ ps, in8 p := fun p hp => by have := hall p hp; unfold in8; omega
  rw [← rolR_start] at hr
  have hord := (rol_pw hr).1
  have hnd : l.Nodup := by
    rw [hperm.nodup_iff, List.map_map]
    unfold List.Nodup
    rw [List.pairwise_map]
    refine List.Pairwise.imp_of_mem (fun {a b} ha hb hab e => ?_) hord
    have := toP8_lt (h8 a ha) (h8 b hb) hab
    have e2 : toP8 a = toP8 b := by
      have : swap8 (swap8 (toP8 a)) = swap8 (swap8 (toP8 b)) := congrArg swap8 e
      exact this
    rw [e2] at this
    exact lt8_irr this
  refine strict8 ?_ ?_ ?_
  · refine List.Pairwise.imp (fun {a b} hab => ?_) (hpw.and hnd)
    obtain ⟨h1, h2⟩ := hab
    unfold ltOf cf8 at h1
    rw [decide_eq_false_iff_not] at h1
    unfold lt8
    obtain ⟨⟨a1, _⟩, ⟨a2, _⟩⟩ := a
    obtain ⟨⟨b1, _⟩, ⟨b2, _⟩⟩ := b
    simp only [Prod.mk.injEq, Fin.mk.injEq, ne_eq, not_and] at h1 h2 ⊢
    split at h1 <;> omega
  · rw [List.pairwise_map]
    refine List.Pairwise.imp_of_mem (fun {a b} ha hb hab => ?_) (invI_pw (n := sz i) hord)
    have mm : ∀ q ∈ invI ps (sz i), in8 q := by
      intro q hq
      obtain ⟨p, hp, rfl⟩ := (invI_mem fun p hp => by have := hall p hp; omega).1 hq
      have := h8 p hp
      unfold in8 at this ⊢; omega
    exact toP8_lt (mm a ha) (mm b hb) hab
  · intro x
    rw [hperm.mem_iff, List.mem_map, List.mem_map]
    constructor
    · rintro ⟨y, hy, rfl⟩
      obtain ⟨p, hp, rfl⟩ := List.mem_map.1 hy
      exact ⟨(p.2, p.1), (invI_mem fun p hp => by have := hall p hp; omega).2 ⟨p, hp, rfl⟩, rfl⟩
    · rintro ⟨q, hq, rfl⟩
      obtain ⟨p, hp, rfl⟩ := (invI_mem fun p hp => by have := hall p hp; omega).1 hq
      exact ⟨toP8 p, List.mem_map_of_mem hp, rfl⟩
/-! ### Every role -/
theorem rolI_mem {i : Itp} {n : Int} (h0 : 0 ≤ n) (h1 : n < 2 * (i.rols.length : Int)) : rolI i n ∈ i.rols := by
  have hq : n.tdiv 2 = n / 2 := Int.tdiv_eq_ediv_of_nonneg h0
  have hlt0 : (n.tdiv 2).toNat < i.rols.length := by rw [hq]; omega
  unfold rolI
  rw [List.getElem?_eq_getElem hlt0]
  exact List.getElem_mem _
theorem ris_len {lim : Int} : ∀ {l : List Int} {p : Int}, p < lim → risF lim p l = true → p + l.length < lim
  | [], p, h, _ => by simpa using h
  | x :: l, p, h, k => by
    simp only [risF, Bool.and_eq_true, decide_eq_true_eq] at k
    have := ris_len (l := l) k.1.2 k.2
    simp only [List.length_cons]; omega
theorem rol_len {s : Int} (h1 : 1 ≤ s) (h2 : s ≤ 256) {l : List (Int × Int)} (h : rolOKp s l = true) : l.length ≤ 65536 := by
  unfold rolOKp at h
  rw [Bool.and_eq_true] at h
  obtain ⟨m1, m2⟩ := mulb2 h1 h2
  have := ris_len (by omega) (show risF (s * s) (-1) (flat s l) = true from h.2)
  rw [flat_len] at this
  omega
theorem relL_pr {i : Itp} (hi : i.wf) {n : Int} (h0 : 0 ≤ n) (h1 : n < 2 * (i.rols.length : Int)) : ∀ p ∈ relL i n, 0 ≤ p.1 ∧ p.1 < sz i ∧ 0 ≤ p.2 ∧ p.2 < sz i := by
  obtain ⟨e1, _, _⟩ := sz_size hi
  have hr := hi.r _ (rolI_mem h0 h1)
  unfold relL
  split
  · intro p hp; have := hr p hp; omega
  · intro p hp
    obtain ⟨q, hq, rfl⟩ := (invI_mem fun p hp => by have := hr p hp; omega).1 hp
    have := hr q hq
    omega
theorem relL_len {i : Itp} (hi : i.wf) {n : Int} (h0 : 0 ≤ n) (h1 : n < 2 * (i.rols.length : Int)) (hL : ∀ l ∈ i.rols, l.length ≤ 65536) : (relL i n).length ≤ 256 * 65536 := by
  have h := hL _ (rolI_mem h0 h1)
  unfold relL
  split
  · omega
  · have := @invI_len (rolI i n) (sz i)
    have := (sz_size hi).2.1
    have : sz i * (rolI i n).length ≤ 256 * 65536 := Nat.mul_le_mul (by omega) h
    omega
section
variable {m : GM} {G : Nat → Option (List AV)}
theorem s_Related (i : Itp) (hi : i.wf) (hk : i.ok) (hr : ∀ l ∈ i.rols, rolOKp i.size l = true) (n : Int) (h0 : 0 ≤ n) (h1 : n < 2 * i.rols.length) (j : JH) :
    JC Tryd.prog G 38 [.agg i.enc, I64 n] j (RET (.sl .none (relL i n).length (encs PR (relL i n))) (ext j [])) := by
  have hp : (AV.sl .none (relL i n).length (encs PR (relL i n))).pure = true := by simp only [AV.pure]; exact PR.pur _
  obtain ⟨e1, e2, e3⟩ := sz_size hi
  have hk1 := hk.r1
  have hq : n.tdiv 2 = n / 2 := Int.tdiv_eq_ediv_of_nonneg h0
  have hlt0 : (n.tdiv 2).toNat < i.rols.length := by rw [hq]; omega
  obtain ⟨ps, rr, hd⟩ : ∃ c_ l_, List.drop (n.tdiv 2).toNat i.rols = c_ :: l_ := ⟨_, _, List.drop_eq_getElem_cons hlt0⟩
  have hps : rolI i n = ps := by unfold rolI; rw [← List.head?_drop, hd]; rfl
  have hmp : ps ∈ i.rols := List.mem_of_mem_drop (hd ▸ List.mem_cons_self)
  have hpl := (hk.r2 ps hmp).1
  by_cases hne : n.tmod 2 = 1 ∧ ps ≠ []
  · refine JC.pureRet hp (JC.mono (s_Related2 (G := G) i hi hk n h0 h1 hne.1 (by rw [hps]; exact hne.2) j) ?_)
    rintro o j' ⟨k, cs, ⟨l, hl, rfl, rfl⟩, rfl, rfl⟩
    have el := rel_inv hi (by rw [hps]; exact hr ps hmp) hl
    have eR : relL i n = invI (rolI i n) (sz i) := by unfold relL; rw [if_neg (by omega)]
    have hin : ∀ p ∈ invI (rolI i n) (sz i), 0 ≤ p.1 ∧ p.1 < 256 ∧ 0 ≤ p.2 ∧ p.2 < 256 := by
      intro p hp
      rw [← eR] at hp
      have := relL_pr hi h0 h1 p hp
      omega
    refine ⟨?_, New.ext⟩
    rw [el, encs_toP8 hin, List.length_map, ← eR]
  · refine JC.pureRet hp (JC.mono (Q := RET (.sl .none (relL i n).length (encs PR (relL i n))) j) ?_ fun o j' h => ⟨h.1, by rw [h.2]; exact New.refl⟩)
    refine JC.run hmix c38 (by exact k38) ?_
    (try simp only[↓jr,jw,seval,ji,ext_ext,pid_pid,hd,ir38])
    refine wc.intro (by rw [hq]; unfold R64; omega) ?_
    (try simp only[↓jr,jw,seval,ji,ext_ext,pid_pid,hd])
    refine wc.intro ⟨by rw [hq]; omega, by rw [hq]; omega, by omega⟩ ?_
    (try simp only[↓jr,jw,seval,ji,ext_ext,pid_pid,hd])
    refine JCs.ret (s_CloneN ps (by omega) .none _) ?_
    (try simp only[↓jr,jw,seval,ji,ext_ext,pid_pid,hd])
    refine wq.intro (fun hm => ?_) (fun hm => ?_)
    · have hn : ps = [] := by
        by_cases q : ps = []
        · exact q
        · exact absurd ⟨hm, q⟩ hne
      have eR : relL i n = [] := by
        unfold relL; rw [if_neg (by omega), hps, hn]; unfold invI; simp
      rw [eR]
      subst hn
      (try simp only[↓jr,jw,seval,ji,ext_ext,pid_pid,hd])
      refine JLOOP.of (σ := Nat) (fun k => k = 0) (fun k => k) (fun k => [(20, I64 0), (19, I64 0), (5, .sl .none 0 [])]) (fun k => ext j [.cells 29 i.enc]) 0 rfl ?_ (JDropH.refl _) ?_
      · (try simp only[↓jr,jw,seval,ji,ext_ext,pid_pid,hd,DL])
        exact ⟨SubB.v, SubB.v, SubB.sl rfl True.intro⟩
      rintro k rfl
      (try simp only[↓jr,jw,seval,ji,ext_ext,pid_pid,hd])
      refine JCs.ret (s_sort0 .none _ _) ?_
      (try simp only[↓jr,jw,seval,ji,ext_ext,pid_pid,hd])
      refine JFIN.rb ?_
      exact SubB.sl rfl True.intro
    · have hm0 : n.tmod 2 = 0 := by
        have : n.tmod 2 = n % 2 := Int.tmod_eq_emod_of_nonneg h0
        omega
      have eR : relL i n = ps := by unfold relL; rw [if_pos hm0, hps]
      rw [eR]
      (try simp only[↓jr,jw,seval,ji,ext_ext,pid_pid,hd])
      refine JFIN.rb ?_
      exact SubB.sl rfl (SubBs.pure (PR.pur _))
def pairsL (n : Nms) (i : Itp) (r : Int) : List (Int × Int) := if fineI n i [] = 0 ∧ roleOK n r = true then relL i r else []
def pairsE (n : Nms) (i : Itp) (r : Int) : Int := if fineI n i [] = 0 then (if roleOK n r then 0 else 1) else fineI n i []
theorem s_Pairs (n : Nms) (hn : n.ok) (hs : n.short) (i : Itp) (hok : i.ok) (r : Int) (j : JH) :
    JC Tryd.prog (GG m) 9 [.agg n.enc, .agg i.enc, I64 r] j (RET (.tup [.sl .none (pairsL n i r).length (encs PR (pairsL n i r)), I64 (pairsE n i r)]) j) := by
  have hk1 := hok.r1
  refine JC.run hmix c9 (by exact k9) ?_
  (try simp only[↓jr,jw,seval,ji,ext_ext,pid_pid,ir9])
  have hf0 := s_ifine (m := m) i hok n hn hs [] .nil trivial (by simp) (by simp) (ext j [.cells 24 n.enc, .cells 29 i.enc])
  rw [encs_nil] at hf0
  refine JCs.ret hf0 ?_
  (try simp only[↓jr,jw,seval,ji,ext_ext,pid_pid])
  refine wq.intro (fun hf => ?_) (fun hf => ?_)
  · obtain ⟨_, _, h3⟩ := fineI_zero hf
    have hrl := (Itp.wf_of h3).2.2.1
    have hrs : n.rs.length < 4611686018427387904 := by omega
    have bad : roleOK n r = false → pairsL n i r = [] ∧ pairsE n i r = 1 := by
      intro q
      unfold pairsL pairsE
      rw [if_pos hf, q]; simp
    rw [hf]
    (try simp only[↓jr,jw,seval,ji,ext_ext,pid_pid])
    refine wq.intro (fun q => ?_) (fun q => ?_)
    · obtain ⟨b1, b2⟩ := bad (by rw [Bool.eq_false_iff, ne_eq, roleOK_iff]; omega)
      rw [b1, b2]
      (try simp only[↓jr,jw,seval,ji,ext_ext,pid_pid])
      refine JFIN.rb ?_
      exact SubB.tup ⟨SubB.sl rfl True.intro, SubB.v, True.intro⟩
    (try simp only[↓jr,jw,seval,ji,ext_ext,pid_pid])
    refine wr.in (by unfold R64; omega) ?_
    (try simp only[↓jr,jw,seval,ji,ext_ext,pid_pid])
    refine wq.intro (fun q => ?_) (fun q => ?_)
    · obtain ⟨b1, b2⟩ := bad (by rw [Bool.eq_false_iff, ne_eq, roleOK_iff]; omega)
      rw [b1, b2]
      (try simp only[↓jr,jw,seval,ji,ext_ext,pid_pid])
      refine JFIN.rb ?_
      exact SubB.tup ⟨SubB.sl rfl True.intro, SubB.v, True.intro⟩
    have hro : roleOK n r = true := by rw [roleOK_iff]; omega
    have eL : pairsL n i r = relL i r := by unfold pairsL; rw [if_pos ⟨hf, hro⟩]
    have eE : pairsE n i r = 0 := by unfold pairsE; rw [if_pos hf, hro]; rfl
    rw [eL, eE]
    (try simp only[↓jr,jw,seval,ji,ext_ext,pid_pid])
    have hrr : ∀ l ∈ i.rols, rolOKp i.size l = true := by
      unfold itpOK at h3
      simp only [Bool.and_eq_true, List.all_eq_true] at h3
      exact h3.1.2
    refine JCs.ret (s_Related i (Itp.wf_of h3).1 hok hrr r (by omega) (by omega) _) ?_
    (try simp only[↓jr,jw,seval,ji,ext_ext,pid_pid])
    refine JFIN.rb ?_
    exact SubB.tup ⟨SubB.sl rfl (SubBs.pure (PR.pur _)), SubB.v, True.intro⟩
  · have eL : pairsL n i r = [] := by unfold pairsL; rw [if_neg fun h => hf h.1]
    have eE : pairsE n i r = fineI n i [] := by unfold pairsE; rw [if_neg hf]
    rw [eL, eE]
    (try simp only[↓jr,jw,seval,ji,ext_ext,pid_pid])
    refine JFIN.rb ?_
    exact SubB.tup ⟨SubB.sl rfl True.intro, SubB.v, True.intro⟩
end
end Go.Proofs.YtnkkeenclhncmaaDoor.Pg
