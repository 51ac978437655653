/-
  LiteData: the walk.
-/
import Derived.Test.YtkcbhebbjpiibaaDoorPc
set_option linter.unusedVariables false
set_option linter.unusedSimpArgs false
set_option linter.defProp false
set_option maxRecDepth 20000
set_option maxHeartbeats 4000000
namespace Go.Proofs.YtkcbhebbjpiibaaDoor.Pg
open Go
theorem sbPd {A : Prop} (h : A := by repeat' (first | exact trivial | refine And.intro ?_ ?_ | exact SubB.v | exact SubB.any | ((first | refine SubB.ptr ?_ | refine SubB.arr ?_ | refine SubB.mp ?_) <;> first | assumption | (unfold pid; omega)) | ((first | refine SubB.pure ?_ | refine SubBs.pure ?_) <;> (simp only [AV.pure, AV.pures, pures_append, jpu, natv_pur, brow_pur, Bool.and_self, Bool.and_true, Bool.true_and]; done)) | refine SubB.fn ?_ ?_ | refine SubB.sl ?_ ?_ | refine SubB.agg ?_ | refine SubB.tup ?_ | rfl)) : A := h
variable {m : Int} {G : Nat → Option (List AV)}
theorem s_look1 (b : Bas) (hb : b.ok) (c : Con) (hc : c.ok) (tok : Tok) (j : JH) : JC Tryd.prog G 8 [.agg b.enc, .sl tok 1 c.enc] j (RET (BOO (lookB b [c])) j) := by
  have h := s_looked (G := G) b hb [c] tok ⟨hc, trivial⟩ (by simp) j
  rw [encs_cons, encs_nil, List.append_nil] at h
  exact h
theorem s_fault1 (b : Bas) (hb : b.ok) (c : Con) (hc : c.ok) (tok : Tok) (j : JH) : JC Tryd.prog G 15 [.agg b.enc, .sl tok 1 c.enc, .sl .nil 0 []] j (RET (I64 (faultE b [c] [])) j) := by
  have h := s_fault (G := G) b hb [c] [] tok .nil ⟨hc, trivial⟩ trivial (by simp) (by simp) j
  rw [encs_cons, encs_nil, List.append_nil] at h
  exact h
theorem s_ConsistentE (b : Bas) (hb : b.ok) (hf : b.few) (j : JH) : JC Tryd.prog (GG m) 12 [.agg b.enc] j (RET (.tup [BOO (decide (askE b = 0) && soundB b), I64 (askE b)]) j) := by
  by_cases h : askE b = 0
  · rw [h, decide_eq_true rfl, Bool.true_and]; exact s_Consistent b hb hf h j
  · rw [decide_eq_false h, Bool.false_and]
    refine JC.run hmix c12 (by exact k12) ?_
    (try simp only[↓jr,jw,seval,ir12])
    refine JCs.ret (s_asks b hb hf _) ?_
    (try simp only[↓jr,jw,seval])
    refine wq.intro (fun q => absurd q h) (fun _ => ?_)
    (try simp only[↓jr,jw,seval])
    refine JFIN.rb ?_
    exact sbPd
theorem fault_one {b : Bas} {c : Con} (h : faultE b [c] [] = 0) : basR b = true ∧ fitR b = true ∧ conOK b.nms c = true ∧ basC c = true := by
  unfold faultE refE at h
  simp only [List.append_nil, List.all_cons, List.all_nil, Bool.and_true] at h
  cases h1 : basR b <;> cases h2 : conOK b.nms c <;> cases h4 : fitR b <;> cases h5 : basC c <;> simp [h1, h2, h4, h5] at h
  exact ⟨rfl, rfl, rfl, rfl⟩
theorem insE_want (b : Bas) (c : Con) (i : Int) : insE b c i = if faultE b [c] [] = 0 then (if indOK b.nms i then 0 else 1) else faultE b [c] [] := by
  unfold insE faultE refE
  rw [basR_eq]
  simp only [List.append_nil, List.all_cons, List.all_nil, Bool.and_true]
  cases basV b <;> cases conOK b.nms c <;> cases fitR b <;> cases basC c <;> simp
theorem insV_no {b : Bas} {c : Con} {i : Int} (h : insE b c i ≠ 0) : insV b c i = false := by unfold insV; rw [decide_eq_false h, Bool.false_and]
theorem lnkV_no {b : Bas} {r x y : Int} (h : lnkE b r x y ≠ 0) : lnkV b r x y = false := by unfold lnkV; rw [decide_eq_false h, Bool.false_and]
theorem rolOK_iff' {b : Bas} {r : Int} : rolOK b.nms r = true ↔ 0 ≤ r ∧ r < b.kr := by
  unfold rolOK Bas.kr
  rw [Bool.and_eq_true, decide_eq_true_eq, decide_eq_true_eq]; omega
theorem ruOf_nc' {b : Bas} {q : Nat} {B U A : Mx} {E : Nat → Bool} : (ruOf b q B U A E).nc = b.kc := rfl
theorem ruOf_nr' {b : Bas} {q : Nat} {B U A : Mx} {E : Nat → Bool} : (ruOf b q B U A E).nr = b.kr := rfl
def ir7 : IFn := ⟨173, [⟨10, none⟩], (.seq (.reg [oA 5 (.box 30 (.r 0)), oA 6 (.box 43 (.r 1)), oA 10 (.mov (kB false))]) (.seq (.seq (.reg [oL 20 5 (some 7), oL 21 6 (some 3), oA 22 (.bsl 1 3 [.v (.int .i64 0), .v (.int .i64 0), .sl .nil 0 []] [(0, (3, .r 21))]), oA 23 (.call 8 [.r 20, .r 22]), oA 24 (.not (.r 23))]) (.cond (.r 24) (.seq (.reg [oA 25 (.call 11 []), oA 10 (kM 25)]) .ret) .skip)) (.seq (.reg [oL 27 5 (some 7), oT 28 27 (.call 12 [.r 27]), oA 26 (kM 28), oA 29 (.ext (.r 26) 0), oA 30 (.ext (.r 26) 1), oA 11 (kM 29), oA 12 (kM 30)]) (.seq (.reg [oL 32 5 (some 7), oA 33 (kM 3), oL 34 6 (some 3), oA 35 (.call 33 [.r 32, .r 33, .r 34]), oA 31 (kM 35), oA 36 (.ext (.r 31) 0), oA 37 (.ext (.r 31) 1), oA 13 (kM 36), oA 14 (kM 37)]) (.seq (.reg [oL 39 5 (some 7), oA 40 (kM 2), oA 41 (kM 3), oA 42 (kM 4), oA 43 (.call 34 [.r 39, .r 40, .r 41, .r 42]), oA 38 (kM 43), oA 44 (.ext (.r 38) 0), oA 45 (.ext (.r 38) 1), oA 15 (kM 44), oA 16 (kM 45)]) (.seq (.reg [oL 46 5 (some 7), oL 47 6 (some 3), oA 48 (.bsl 1 3 [.v (.int .i64 0), .v (.int .i64 0), .sl .nil 0 []] [(0, (3, .r 47))]), oA 49 (.call 15 [.r 46, .r 48, .k (.sl .nil 0 [])]), oA 17 (kM 49)]) (.seq (.seq (.reg [oA 50 (kM 17), oA 51 (.bin .eql (.r 50) (kI 0)), oA 52 (kM 51), ⟨(some 53), (some ((52, true))), none, (.fadr 0 (.r 5))⟩, ⟨(some 54), (some ((52, true))), (some (.r 53)), (.load (some 3) (.r 53))⟩, ⟨(some 55), (some ((52, true))), none, (kM 3)⟩, ⟨(some 56), (some ((52, true))), none, (.call 35 [.r 54, .r 55])⟩, ⟨(some 57), (some ((52, true))), none, (.not (.r 56))⟩, oA 58 (.pick (.r 52) (.r 57) (kB false))]) (.cond (.r 58) (.reg [oA 17 (.mov (kI 1))]) .skip)) (.seq (.seq (.reg [oA 59 (kM 17), oA 60 (.bin .neq (.r 59) (kI 0)), oA 61 (kM 60), ⟨(some 62), (some ((61, true))), none, (kM 14)⟩, ⟨(some 63), (some ((61, true))), none, (kM 17)⟩, ⟨(some 64), (some ((61, true))), none, (.bin .neq (.r 62) (.r 63))⟩, ⟨(some 65), (some ((61, true))), none, (kM 64)⟩, ⟨(some 66), (some ((65, false))), none, (kM 13)⟩, ⟨(some 67), (some ((61, true))), none, (.pick (.r 65) (kB true) (.r 66))⟩, oA 68 (.pick (.r 61) (.r 67) (kB false))]) (.cond (.r 68) (.seq (.reg [oA 10 (.mov (kB false))]) .ret) .skip)) (.seq (.seq (.reg [oL 69 5 (some 7), oT 70 69 (.call 9 [.r 69]), oA 18 (kM 70)]) (.seq (.reg [oA 71 (kM 18), oA 72 (.bin .neq (.r 71) (kI 0))]) (.cond (.r 72) (.seq (.reg [oA 73 (kM 12), oA 74 (kM 18), oA 75 (.bin .eql (.r 73) (.r 74)), oA 76 (kM 75), ⟨(some 77), (some ((76, true))), none, (kM 16)⟩, ⟨(some 78), (some ((76, true))), none, (kM 18)⟩, ⟨(some 79), (some ((76, true))), none, (.bin .eql (.r 77) (.r 78))⟩, oA 80 (.pick (.r 76) (.r 79) (kB false)), oA 81 (kM 80), ⟨(some 82), (some ((81, true))), none, (kM 11)⟩, ⟨(some 83), (some ((81, true))), none, (.not (.r 82))⟩, oA 84 (.pick (.r 81) (.r 83) (kB false)), oA 85 (kM 84), ⟨(some 86), (some ((85, true))), none, (kM 15)⟩, ⟨(some 87), (some ((85, true))), none, (.not (.r 86))⟩, oA 88 (.pick (.r 85) (.r 87) (kB false)), oA 89 (kM 88), ⟨(some 90), (some ((89, true))), none, (.call 11 [])⟩, oA 91 (.pick (.r 89) (.r 90) (kB false)), oA 10 (kM 91)]) .ret) .skip))) (.seq (.reg [oL 92 5 (some 7), oT 93 92 (.call 27 [.r 92]), oA 19 (kM 93)]) (.seq (.seq (.reg [oA 94 (kM 12), oA 95 (.bin .neq (.r 94) (kI 0)), oA 96 (kM 95), ⟨(some 97), (some ((96, false))), none, (kM 11)⟩, ⟨(some 98), (some ((96, false))), none, (kM 19)⟩, ⟨(some 99), (some ((96, false))), (some (.r 5)), (.load (some 7) (.r 5))⟩, ⟨(some 100), (some ((96, false))), none, (.call 36 [.r 98, .r 99])⟩, ⟨(some 101), (some ((96, false))), none, (.beq true (.r 97) (.r 100))⟩, oA 102 (.pick (.r 96) (kB true) (.r 101))]) (.cond (.r 102) (.seq (.reg [oA 10 (.mov (kB false))]) .ret) .skip)) (.seq (.seq (.draw [oA 103 (kM 17), oA 104 (.bin .eql (.r 103) (kI 0)), oA 105 (kM 104), ⟨(some 106), (some ((105, true))), none, (kM 14)⟩, ⟨(some 107), (some ((105, true))), none, (.bin .neq (.r 106) (kI 0))⟩, ⟨(some 108), (some ((105, true))), none, (kM 107)⟩, ⟨(some 109), (some ((108, false))), none, (kM 13)⟩, ⟨(some 110), (some ((108, false))), none, (kM 11)⟩, ⟨(some 111), (some ((108, false))), none, (.not (.r 110))⟩, ⟨(some 112), (some ((108, false))), none, (kM 111)⟩, ⟨(some 113), (some ((112, false))), none, (kM 19)⟩, ⟨(some 114), (some ((112, false))), (some (.r 5)), (.load (some 7) (.r 5))⟩, ⟨(some 115), (some ((112, false))), none, (kM 3)⟩, ⟨(some 116), (some ((112, false))), none, (.call 37 [.r 113, .r 114, .r 115])⟩, ⟨(some 117), (some ((112, false))), none, (kM 19)⟩, ⟨(some 118), (some ((112, false))), (some (.r 6)), (.load (some 3) (.r 6))⟩, ⟨(some 119), (some ((112, false))), none, (.call 38 [.r 117, .r 118])⟩, ⟨(some 120), (some ((112, false))), none, (.iasl 1 (.r 116) (.r 119))⟩, ⟨(some 121), (some ((112, false))), (some (.r 120)), (.load none (.r 120))⟩, ⟨(some 122), (some ((108, false))), none, (.pick (.r 112) (kB true) (.r 121))⟩, ⟨(some 123), (some ((108, false))), none, (.beq true (.r 109) (.r 122))⟩, ⟨(some 124), (some ((105, true))), none, (.pick (.r 108) (kB true) (.r 123))⟩, oA 125 (.pick (.r 105) (.r 124) (kB false))] [(15, 13)]) (.cond (.r 125) (.seq (.reg [oA 10 (.mov (kB false))]) .ret) .skip)) (.seq (.seq (.reg [oA 126 (.fadr 0 (.r 5)), oL 127 126 (some 3), oA 128 (kM 2), oA 129 (.call 31 [.r 127, .r 128]), oA 130 (.not (.r 129)), oA 131 (kM 130), ⟨(some 132), (some ((131, false))), none, (.fadr 0 (.r 5))⟩, ⟨(some 133), (some ((131, false))), (some (.r 132)), (.load (some 3) (.r 132))⟩, ⟨(some 134), (some ((131, false))), none, (kM 3)⟩, ⟨(some 135), (some ((131, false))), none, (.call 35 [.r 133, .r 134])⟩, ⟨(some 136), (some ((131, false))), none, (.not (.r 135))⟩, oA 137 (.pick (.r 131) (kB true) (.r 136)), oA 138 (kM 137), ⟨(some 139), (some ((138, false))), none, (.fadr 0 (.r 5))⟩, ⟨(some 140), (some ((138, false))), (some (.r 139)), (.load (some 3) (.r 139))⟩, ⟨(some 141), (some ((138, false))), none, (kM 4)⟩, ⟨(some 142), (some ((138, false))), none, (.call 35 [.r 140, .r 141])⟩, ⟨(some 143), (some ((138, false))), none, (.not (.r 142))⟩, oA 144 (.pick (.r 138) (kB true) (.r 143))]) (.cond (.r 144) (.seq (.reg [oA 145 (kM 16), oA 146 (.bin .eql (.r 145) (kI 1)), oA 147 (kM 146), ⟨(some 148), (some ((147, true))), none, (kM 15)⟩, ⟨(some 149), (some ((147, true))), none, (.not (.r 148))⟩, oA 150 (.pick (.r 147) (.r 149) (kB false)), oA 151 (kM 150), ⟨(some 152), (some ((151, true))), none, (.call 11 [])⟩, oA 153 (.pick (.r 151) (.r 152) (kB false)), oA 10 (kM 153)]) .ret) .skip)) (.seq (.reg [oA 154 (kM 16), oA 155 (.bin .eql (.r 154) (kI 0)), oA 156 (kM 155), ⟨(some 157), (some ((156, true))), none, (kM 15)⟩, ⟨(some 158), (some ((156, true))), none, (kM 11)⟩, ⟨(some 159), (some ((156, true))), none, (.not (.r 158))⟩, ⟨(some 160), (some ((156, true))), none, (kM 159)⟩, ⟨(some 161), (some ((160, false))), none, (kM 19)⟩, ⟨(some 162), (some ((160, false))), (some (.r 5)), (.load (some 7) (.r 5))⟩, ⟨(some 163), (some ((160, false))), none, (kM 2)⟩, ⟨(some 164), (some ((160, false))), none, (kM 3)⟩, ⟨(some 165), (some ((160, false))), none, (kM 4)⟩, ⟨(some 166), (some ((160, false))), none, (.call 39 [.r 161, .r 162, .r 163, .r 164, .r 165])⟩, ⟨(some 167), (some ((156, true))), none, (.pick (.r 160) (kB true) (.r 166))⟩, ⟨(some 168), (some ((156, true))), none, (.beq false (.r 157) (.r 167))⟩, oA 169 (.pick (.r 156) (.r 168) (kB false)), oA 170 (kM 169), ⟨(some 171), (some ((170, true))), none, (.call 11 [])⟩, oA 172 (.pick (.r 170) (.r 171) (kB false)), oA 10 (kM 172)]) .ret))))))))))))))⟩
theorem c7 : cfunc Tryd.prog 7 = some ir7 := by kernel_rfl
theorem k7 : okIR (max 5 ir7.n) ir7.ir = true := by decide +kernel
theorem s_LiteData (b : Bas) (c : Con) (role fr to : Int) (hb : b.ok) (hc : c.ok) (j : JH) : JC Tryd.prog (GG m) 7 [.agg b.enc, .agg c.enc, I64 role, I64 fr, I64 to] j (RET (BOO true) j) := by
  have aw : ∀ {l : List AObj} {j1 : JH}, TokExt j j1 → @JFIN (ext j []) (ext j1 l) (BOO true) ⟨fun y j' => RET (BOO true) j (.ret y) j'⟩ := fun ht => JFIN.ret ((JDropH.back ht).of_ext) SubB.v
  refine JC.run hmix c7 (by exact k7) ?_
  (try simp only[↓jr,jw,seval,ir7])
  refine JCs.ret (s_look1 b hb c hc _ _) ?_
  (try simp only[↓jr,jw,seval])
  refine ww.intro (fun h0 => ?_) (fun h0 => by (try simp only[↓jr,jw,seval]); refine JCs.ret (s_awake _) ?_; (try simp only[↓jr,jw,seval]); exact aw tkq)
  obtain ⟨hf, hn⟩ := look_few h0
  have hc4 := hn c (by simp)
  (try simp only[↓jr,jw,seval])
  refine JCs.ret (s_ConsistentE b hb hf _) ?_
  (try simp only[↓jr,jw,seval])
  refine JCs.ret (s_Instance b c fr hb hf hc (by omega) _) ?_
  (try simp only[↓jr,jw,seval])
  refine JCs.ret (s_Linked b role fr to hb hf _) ?_
  (try simp only[↓jr,jw,seval])
  refine JCs.ret (s_fault1 b hb c hc _ _) ?_
  (try simp only[↓jr,jw,seval])
  generalize hJA : ext ((j.pushTok 1).pushTok 1) [.cells 30 b.enc, .cells 43 c.enc] = JA
  have htA : TokExt j ((j.pushTok 1).pushTok 1) := tkq
  have nA : JA.next = pid j.next 2 := by rw [← hJA, ext_next]; rfl
  have gb : JA.get (pid j.next 0) = some (.cells 30 b.enc) := by rw [← hJA]; exact (ext_get_new (j := (j.pushTok 1).pushTok 1) (b := j.next) rfl).trans rfl
  have gc : JA.get (pid j.next 1) = some (.cells 43 c.enc) := by rw [← hJA]; exact (ext_get_new (j := (j.pushTok 1).pushTok 1) (b := j.next) rfl).trans rfl
  have lb : pid j.next 0 < JA.next := by rw [nA]; unfold pid; omega
  have lc : pid j.next 1 < JA.next := by rw [nA]; unfold pid; omega
  have lb2 : ∀ n, pid j.next 0 < pid JA.next n := fun n => by rw [nA]; unfold pid; omega
  have lc2 : ∀ n, pid j.next 1 < pid JA.next n := fun n => by rw [nA]; unfold pid; omega
  have lc3 : ∀ n k, pid j.next 1 < pid (pid JA.next n) k := fun n k => by rw [nA]; unfold pid; omega
  have hW := insE_want b c fr
  refine wq.intro (fun h1 => ?_) (fun h1 => ?_)
  · obtain ⟨hR, hfit, hcon, hbc⟩ := fault_one h1
    have hask : askE b = 0 := by unfold askE; rw [← basR_eq, hR, hfit]; rfl
    have h2 := basR_few2 hR
    have hs2 := said2_of hR hfit
    have h2c := h2.c
    have h2r := h2.r
    rw [h1, hask]
    (try simp only[↓jr,jw,seval,jq2,q_e5,ext_next,ext_tnext,Nat.le_refl,ext_get_old,gb,gc,lb,lc,lb2,lc2,lc3,brow_ld,brow_len])
    refine JCs.ret (s_Ind b.nms hb.nms fr _) ?_
    (try simp only[↓jr,jw,seval,jq2,q_e5,ext_next,ext_tnext,Nat.le_refl,ext_get_old,gb,gc,lb,lc,lb2,lc2,lc3,brow_ld,brow_len])
    refine ww.intro (fun h3 => ?_) (fun h3 => ?_)
    · -- all of it
      have hcs := conOK_shaped hcon
      obtain ⟨i, ei, li⟩ := inds_nat h3
      have eI : insE b c fr = 0 := by rw [hW, if_pos h1, if_pos h3]
      have eIV : insV b c fr = (belK (RuB b JA.next) (refL b i) (idN b c) || !soundB b) := by
        unfold insV; rw [eI, decide_eq_true rfl, Bool.true_and, ei, Int.toNat_natCast, isV_ref hR hfit JA.next hbc hcs]
      rw [eI, eIV, ei]
      (try simp only[↓jr,jw,seval,jq2,q_e5,ext_next,ext_tnext,Nat.le_refl,ext_get_old,gb,gc,lb,lc,lb2,lc2,lc3,brow_ld,brow_len])
      refine JCs.ret (s_RFault b hb _) ?_
      rw [refE_askE, hask]
      (try simp only[↓jr,jw,seval,jq2,q_e5,ext_next,ext_tnext,Nat.le_refl,ext_get_old,gb,gc,lb,lc,lb2,lc2,lc3,brow_ld,brow_len])
      refine JCs.ret (s_Of b hb hR hfit _) ?_
      (try simp only[↓jr,jw,seval,jq2,q_e5,ext_next,ext_tnext,Nat.le_refl,ext_get_old,gb,gc,lb,lc,lb2,lc2,lc3,brow_ld,brow_len])
      refine JCs.ret (s_RConsistent (pid JA.next 1) (RuB b JA.next) b hs2 ruOf_nc' ruOf_nr' _ (ofX_at h2)) ?_
      rw [← soundB_ref hR hfit JA.next]
      (try simp only[↓jr,jw,seval,jq2,q_e5,ext_next,ext_tnext,Nat.le_refl,ext_get_old,gb,gc,lb,lc,lb2,lc2,lc3,brow_ld,brow_len])
      refine ww.intro (fun _ => ?_) (fun q => by rw [beq_self_eq_true] at q; cases q)
      (try simp only[↓jr,jw,seval,jq2,q_e5,ext_next,ext_tnext,Nat.le_refl,ext_get_old,gb,gc,lb,lc,lb2,lc2,lc3,brow_ld,brow_len])
      refine ww.intro (fun s1 => ?_) (fun s1 => ?_)
      · (try simp only[↓jr,jw,seval,jq2,q_e5,ext_next,ext_tnext,Nat.le_refl,ext_get_old,gb,gc,lb,lc,lb2,lc2,lc3,brow_ld,brow_len])
        refine JDC.use (s_Belongs (pid JA.next 1) i (RuB b JA.next) b hs2 ruOf_nc' ruOf_nr' _ (ofX_at h2)) ?_
        (try simp only[↓jr,jw,seval,jq2,q_e5,ext_next,ext_tnext,Nat.le_refl,ext_get_old,gb,gc,lb,lc,lb2,lc2,lc3,brow_ld,brow_len])
        have hcn : -1000 ≤ c.n ∧ c.n ≤ 1000 := by have := shaped_n hcs; have k1 : b.nms.cs.length ≤ 16 := h2c; have k2 : 2 * b.nms.rs.length ≤ 12 := h2r; omega
        refine JDC.use (s_At (pid JA.next 1) (RuB b JA.next) c hcn _ ((ofX_at h2).ext _)) ?_
        rw [ruOf_nc', (idN_ok hbc hcs).1]
        (try simp only[↓jr,jw,seval,jq2,q_e5,ext_next,ext_tnext,Nat.le_refl,ext_get_old,gb,gc,lb,lc,lb2,lc2,lc3,brow_ld,brow_len])
        have hlt : idN b c < (RuB b JA.next).sz := (idN_ok hbc hcs).2
        refine wc.intro (by omega) ?_
        (try simp only[↓jr,jw,seval,jq2,q_e5,ext_next,ext_tnext,Nat.le_refl,ext_get_old,gb,gc,lb,lc,lb2,lc2,lc3,brow_ld,brow_len])
        refine wc.intro (by omega) ?_
        (try simp only[↓jr,jw,seval,jq2,q_e5,ext_next,ext_tnext,Nat.le_refl,ext_get_old,gb,gc,lb,lc,lb2,lc2,lc3,brow_ld,brow_len])
        refine JDRAW.oc (by (try simp only[↓jr,jw,seval,jq2,q_e5,ext_next,ext_tnext,Nat.le_refl,ext_get_old,gb,gc,lb,lc,lb2,lc2,lc3,brow_ld,brow_len,jq]) <;> exact orq) ?_; (try simp only[↓jr,jw,seval,jq2,q_e5,ext_next,ext_tnext,Nat.le_refl,ext_get_old,gb,gc,lb,lc,lb2,lc2,lc3,brow_ld,brow_len])
        refine ww.intro (fun _ => ?_) (fun q => by rw [s1, Bool.not_true, Bool.or_false, beq_self_eq_true] at q; cases q)
        (try simp only[↓jr,jw,seval,jq2,q_e5,ext_next,ext_tnext,Nat.le_refl,ext_get_old,gb,gc,lb,lc,lb2,lc2,lc3,brow_ld,brow_len])
        rw [← ei]
        refine JCs.ret (s_Role b.nms hb.nms role _) ?_
        (try simp only[↓jr,jw,seval,jq2,q_e5,ext_next,ext_tnext,Nat.le_refl,ext_get_old,gb,gc,lb,lc,lb2,lc2,lc3,brow_ld,brow_len])
        refine ww.intro (fun r1 => ?_) (fun r1 => ?_)
        · (try simp only[↓jr,jw,seval,jq2,q_e5,ext_next,ext_tnext,Nat.le_refl,ext_get_old,gb,gc,lb,lc,lb2,lc2,lc3,brow_ld,brow_len])
          refine JCs.ret (s_Ind b.nms hb.nms fr _) ?_
          (try simp only[↓jr,jw,seval,jq2,q_e5,ext_next,ext_tnext,Nat.le_refl,ext_get_old,gb,gc,lb,lc,lb2,lc2,lc3,brow_ld,brow_len])
          refine ww.intro (fun r2 => ?_) (fun r2 => ?_)
          · (try simp only[↓jr,jw,seval,jq2,q_e5,ext_next,ext_tnext,Nat.le_refl,ext_get_old,gb,gc,lb,lc,lb2,lc2,lc3,brow_ld,brow_len])
            refine JCs.ret (s_Ind b.nms hb.nms to _) ?_
            (try simp only[↓jr,jw,seval,jq2,q_e5,ext_next,ext_tnext,Nat.le_refl,ext_get_old,gb,gc,lb,lc,lb2,lc2,lc3,brow_ld,brow_len])
            refine ww.intro (fun r3 => ?_) (fun r3 => ?_)
            · obtain ⟨r, er, lr⟩ : ∃ r : Nat, role = r ∧ r < b.kr := ⟨role.toNat, by have := rolOK_iff'.1 r1; omega, by have := rolOK_iff'.1 r1; omega⟩
              obtain ⟨x, ex, lx⟩ := inds_nat r2
              obtain ⟨y, ey, ly⟩ := inds_nat r3
              have eE : lnkE b role fr to = 0 := by unfold lnkE; rw [if_pos hask, r1, r2, r3]; rfl
              have eV : lnkV b role fr to = (b.links.any (linkF (OB b) r x y) || !soundB b) := by
                unfold lnkV; rw [eE, decide_eq_true rfl, Bool.true_and, er, ex, ey]
                simp only [Int.toNat_natCast]
                rw [pairF_ref hR hfit lr]
              rw [eE, eV]
              (try simp only[↓jr,jw,seval,jq2,q_e5,ext_next,ext_tnext,Nat.le_refl,ext_get_old,gb,gc,lb,lc,lb2,lc2,lc3,brow_ld,brow_len])
              refine ww.intro (fun _ => ?_) (fun q => by rw [s1] at q; cases q)
              (try simp only[↓jr,jw,seval,jq2,q_e5,ext_next,ext_tnext,Nat.le_refl,ext_get_old,gb,gc,lb,lc,lb2,lc2,lc3,brow_ld,brow_len])
              rw [er, ex, ey]
              (try simp only[↓jr,jw,seval,jq2,q_e5,ext_next,ext_tnext,Nat.le_refl,ext_get_old,gb,gc,lb,lc,lb2,lc2,lc3,brow_ld,brow_len])
              refine JCs.ret (s_RLinked (pid JA.next 1) r x y (RuB b JA.next) b hs2 ruOf_nr' lr _ ((ofX_at h2).ext _)) ?_
              rw [ruOf_B]
              have e5 : (b.links.any (linkF (OB b) r x y) || !soundB b) = b.links.any (linkF (OB b) r x y) := by rw [s1, Bool.not_true, Bool.or_false]
              rw [e5]
              (try simp only[↓jr,jw,seval,jq2,q_e5,ext_next,ext_tnext,Nat.le_refl,ext_get_old,gb,gc,lb,lc,lb2,lc2,lc3,brow_ld,brow_len])
              refine ww.intro (fun _ => ?_) (fun q => by simp at q)
              (try simp only[↓jr,jw,seval,jq2,q_e5,ext_next,ext_tnext,Nat.le_refl,ext_get_old,gb,gc,lb,lc,lb2,lc2,lc3,brow_ld,brow_len])
              refine JCs.ret (s_awake _) ?_
              (try simp only[↓jr,jw,seval,jq2,q_e5,ext_next,ext_tnext,Nat.le_refl,ext_get_old,gb,gc,lb,lc,lb2,lc2,lc3,brow_ld,brow_len])
              rw [← hJA]
              simp only [ext_ext]
              exact aw htA
            · have eE : lnkE b role fr to = 1 := by unfold lnkE; rw [if_pos hask, r1, r2, r3]; rfl
              rw [eE, lnkV_no (by rw [eE]; decide)]
              (try simp only[↓jr,jw,seval,jq2,q_e5,ext_next,ext_tnext,Nat.le_refl,ext_get_old,gb,gc,lb,lc,lb2,lc2,lc3,brow_ld,brow_len])
              refine JCs.ret (s_awake _) ?_
              (try simp only[↓jr,jw,seval,jq2,q_e5,ext_next,ext_tnext,Nat.le_refl,ext_get_old,gb,gc,lb,lc,lb2,lc2,lc3,brow_ld,brow_len])
              rw [← hJA]
              simp only [ext_ext]
              exact aw htA
          · have eE : lnkE b role fr to = 1 := by unfold lnkE; rw [if_pos hask, r1, r2]; rfl
            rw [eE, lnkV_no (by rw [eE]; decide)]
            (try simp only[↓jr,jw,seval,jq2,q_e5,ext_next,ext_tnext,Nat.le_refl,ext_get_old,gb,gc,lb,lc,lb2,lc2,lc3,brow_ld,brow_len])
            refine JCs.ret (s_awake _) ?_
            (try simp only[↓jr,jw,seval,jq2,q_e5,ext_next,ext_tnext,Nat.le_refl,ext_get_old,gb,gc,lb,lc,lb2,lc2,lc3,brow_ld,brow_len])
            rw [← hJA]
            simp only [ext_ext]
            exact aw htA
        · have eE : lnkE b role fr to = 1 := by unfold lnkE; rw [if_pos hask, r1]; rfl
          rw [eE, lnkV_no (by rw [eE]; decide)]
          (try simp only[↓jr,jw,seval,jq2,q_e5,ext_next,ext_tnext,Nat.le_refl,ext_get_old,gb,gc,lb,lc,lb2,lc2,lc3,brow_ld,brow_len])
          refine JCs.ret (s_awake _) ?_
          (try simp only[↓jr,jw,seval,jq2,q_e5,ext_next,ext_tnext,Nat.le_refl,ext_get_old,gb,gc,lb,lc,lb2,lc2,lc3,brow_ld,brow_len])
          rw [← hJA]
          simp only [ext_ext]
          exact aw htA
      · (try simp only[↓jr,jw,seval,jq2,q_e5,ext_next,ext_tnext,Nat.le_refl,ext_get_old,gb,gc,lb,lc,lb2,lc2,lc3,brow_ld,brow_len])
        refine JDRAW.oc (by (try simp only[↓jr,jw,seval,jq2,q_e5,ext_next,ext_tnext,Nat.le_refl,ext_get_old,gb,gc,lb,lc,lb2,lc2,lc3,brow_ld,brow_len,jq]) <;> exact orq) ?_; (try simp only[↓jr,jw,seval,jq2,q_e5,ext_next,ext_tnext,Nat.le_refl,ext_get_old,gb,gc,lb,lc,lb2,lc2,lc3,brow_ld,brow_len])
        refine ww.intro (fun _ => ?_) (fun q => by rw [s1, Bool.not_false, Bool.or_true] at q; cases q)
        (try simp only[↓jr,jw,seval,jq2,q_e5,ext_next,ext_tnext,Nat.le_refl,ext_get_old,gb,gc,lb,lc,lb2,lc2,lc3,brow_ld,brow_len])
        rw [← ei]
        refine JCs.ret (s_Role b.nms hb.nms role _) ?_
        (try simp only[↓jr,jw,seval,jq2,q_e5,ext_next,ext_tnext,Nat.le_refl,ext_get_old,gb,gc,lb,lc,lb2,lc2,lc3,brow_ld,brow_len])
        refine ww.intro (fun r1 => ?_) (fun r1 => ?_)
        · (try simp only[↓jr,jw,seval,jq2,q_e5,ext_next,ext_tnext,Nat.le_refl,ext_get_old,gb,gc,lb,lc,lb2,lc2,lc3,brow_ld,brow_len])
          refine JCs.ret (s_Ind b.nms hb.nms fr _) ?_
          (try simp only[↓jr,jw,seval,jq2,q_e5,ext_next,ext_tnext,Nat.le_refl,ext_get_old,gb,gc,lb,lc,lb2,lc2,lc3,brow_ld,brow_len])
          refine ww.intro (fun r2 => ?_) (fun r2 => ?_)
          · (try simp only[↓jr,jw,seval,jq2,q_e5,ext_next,ext_tnext,Nat.le_refl,ext_get_old,gb,gc,lb,lc,lb2,lc2,lc3,brow_ld,brow_len])
            refine JCs.ret (s_Ind b.nms hb.nms to _) ?_
            (try simp only[↓jr,jw,seval,jq2,q_e5,ext_next,ext_tnext,Nat.le_refl,ext_get_old,gb,gc,lb,lc,lb2,lc2,lc3,brow_ld,brow_len])
            refine ww.intro (fun r3 => ?_) (fun r3 => ?_)
            · obtain ⟨r, er, lr⟩ : ∃ r : Nat, role = r ∧ r < b.kr := ⟨role.toNat, by have := rolOK_iff'.1 r1; omega, by have := rolOK_iff'.1 r1; omega⟩
              obtain ⟨x, ex, lx⟩ := inds_nat r2
              obtain ⟨y, ey, ly⟩ := inds_nat r3
              have eE : lnkE b role fr to = 0 := by unfold lnkE; rw [if_pos hask, r1, r2, r3]; rfl
              have eV : lnkV b role fr to = (b.links.any (linkF (OB b) r x y) || !soundB b) := by
                unfold lnkV; rw [eE, decide_eq_true rfl, Bool.true_and, er, ex, ey]
                simp only [Int.toNat_natCast]
                rw [pairF_ref hR hfit lr]
              rw [eE, eV]
              (try simp only[↓jr,jw,seval,jq2,q_e5,ext_next,ext_tnext,Nat.le_refl,ext_get_old,gb,gc,lb,lc,lb2,lc2,lc3,brow_ld,brow_len])
              refine ww.intro (fun q => by rw [s1] at q; cases q) (fun _ => ?_)
              (try simp only[↓jr,jw,seval,jq2,q_e5,ext_next,ext_tnext,Nat.le_refl,ext_get_old,gb,gc,lb,lc,lb2,lc2,lc3,brow_ld,brow_len])
              have e5 : (b.links.any (linkF (OB b) r x y) || !soundB b) = true := by rw [s1, Bool.not_false, Bool.or_true]
              rw [e5]
              (try simp only[↓jr,jw,seval,jq2,q_e5,ext_next,ext_tnext,Nat.le_refl,ext_get_old,gb,gc,lb,lc,lb2,lc2,lc3,brow_ld,brow_len])
              simp only [beq_self_eq_true, Bool.false_eq_true, if_false]
              (try simp only[↓jr,jw,seval,jq2,q_e5,ext_next,ext_tnext,Nat.le_refl,ext_get_old,gb,gc,lb,lc,lb2,lc2,lc3,brow_ld,brow_len])
              refine JCs.ret (s_awake _) ?_
              (try simp only[↓jr,jw,seval,jq2,q_e5,ext_next,ext_tnext,Nat.le_refl,ext_get_old,gb,gc,lb,lc,lb2,lc2,lc3,brow_ld,brow_len])
              rw [← hJA]
              simp only [ext_ext]
              exact aw htA
            · have eE : lnkE b role fr to = 1 := by unfold lnkE; rw [if_pos hask, r1, r2, r3]; rfl
              rw [eE, lnkV_no (by rw [eE]; decide)]
              (try simp only[↓jr,jw,seval,jq2,q_e5,ext_next,ext_tnext,Nat.le_refl,ext_get_old,gb,gc,lb,lc,lb2,lc2,lc3,brow_ld,brow_len])
              refine JCs.ret (s_awake _) ?_
              (try simp only[↓jr,jw,seval,jq2,q_e5,ext_next,ext_tnext,Nat.le_refl,ext_get_old,gb,gc,lb,lc,lb2,lc2,lc3,brow_ld,brow_len])
              rw [← hJA]
              simp only [ext_ext]
              exact aw htA
          · have eE : lnkE b role fr to = 1 := by unfold lnkE; rw [if_pos hask, r1, r2]; rfl
            rw [eE, lnkV_no (by rw [eE]; decide)]
            (try simp only[↓jr,jw,seval,jq2,q_e5,ext_next,ext_tnext,Nat.le_refl,ext_get_old,gb,gc,lb,lc,lb2,lc2,lc3,brow_ld,brow_len])
            refine JCs.ret (s_awake _) ?_
            (try simp only[↓jr,jw,seval,jq2,q_e5,ext_next,ext_tnext,Nat.le_refl,ext_get_old,gb,gc,lb,lc,lb2,lc2,lc3,brow_ld,brow_len])
            rw [← hJA]
            simp only [ext_ext]
            exact aw htA
        · have eE : lnkE b role fr to = 1 := by unfold lnkE; rw [if_pos hask, r1]; rfl
          rw [eE, lnkV_no (by rw [eE]; decide)]
          (try simp only[↓jr,jw,seval,jq2,q_e5,ext_next,ext_tnext,Nat.le_refl,ext_get_old,gb,gc,lb,lc,lb2,lc2,lc3,brow_ld,brow_len])
          refine JCs.ret (s_awake _) ?_
          (try simp only[↓jr,jw,seval,jq2,q_e5,ext_next,ext_tnext,Nat.le_refl,ext_get_old,gb,gc,lb,lc,lb2,lc2,lc3,brow_ld,brow_len])
          rw [← hJA]
          simp only [ext_ext]
          exact aw htA
    · have eI : insE b c fr = 1 := by rw [hW, if_pos h1, h3]; rfl
      rw [eI, insV_no (by rw [eI]; decide)]
      (try simp only[↓jr,jw,seval,jq2,q_e5,ext_next,ext_tnext,Nat.le_refl,ext_get_old,gb,gc,lb,lc,lb2,lc2,lc3,brow_ld,brow_len])
      refine JCs.ret (s_RFault b hb _) ?_
      rw [refE_askE, hask]
      (try simp only[↓jr,jw,seval,jq2,q_e5,ext_next,ext_tnext,Nat.le_refl,ext_get_old,gb,gc,lb,lc,lb2,lc2,lc3,brow_ld,brow_len])
      refine JCs.ret (s_Of b hb hR hfit _) ?_
      (try simp only[↓jr,jw,seval,jq2,q_e5,ext_next,ext_tnext,Nat.le_refl,ext_get_old,gb,gc,lb,lc,lb2,lc2,lc3,brow_ld,brow_len])
      refine JCs.ret (s_RConsistent (pid JA.next 1) (RuB b JA.next) b hs2 ruOf_nc' ruOf_nr' _ (ofX_at h2)) ?_
      rw [← soundB_ref hR hfit JA.next]
      (try simp only[↓jr,jw,seval,jq2,q_e5,ext_next,ext_tnext,Nat.le_refl,ext_get_old,gb,gc,lb,lc,lb2,lc2,lc3,brow_ld,brow_len])
      refine ww.intro (fun _ => ?_) (fun q => by rw [beq_self_eq_true] at q; cases q)
      (try simp only[↓jr,jw,seval,jq2,q_e5,ext_next,ext_tnext,Nat.le_refl,ext_get_old,gb,gc,lb,lc,lb2,lc2,lc3,brow_ld,brow_len])
      refine JDRAW.oc (by (try simp only[↓jr,jw,seval,jq2,q_e5,ext_next,ext_tnext,Nat.le_refl,ext_get_old,gb,gc,lb,lc,lb2,lc2,lc3,brow_ld,brow_len,jq]) <;> exact orq) ?_; (try simp only[↓jr,jw,seval,jq2,q_e5,ext_next,ext_tnext,Nat.le_refl,ext_get_old,gb,gc,lb,lc,lb2,lc2,lc3,brow_ld,brow_len])
      refine JCs.ret (s_Role b.nms hb.nms role _) ?_
      (try simp only[↓jr,jw,seval,jq2,q_e5,ext_next,ext_tnext,Nat.le_refl,ext_get_old,gb,gc,lb,lc,lb2,lc2,lc3,brow_ld,brow_len])
      refine ww.intro (fun r1 => ?_) (fun r1 => ?_)
      · (try simp only[↓jr,jw,seval,jq2,q_e5,ext_next,ext_tnext,Nat.le_refl,ext_get_old,gb,gc,lb,lc,lb2,lc2,lc3,brow_ld,brow_len])
        refine JCs.ret (s_Ind b.nms hb.nms fr _) ?_
        (try simp only[↓jr,jw,seval,jq2,q_e5,ext_next,ext_tnext,Nat.le_refl,ext_get_old,gb,gc,lb,lc,lb2,lc2,lc3,brow_ld,brow_len])
        refine ww.intro (fun r2 => ?_) (fun r2 => ?_)
        · (try simp only[↓jr,jw,seval,jq2,q_e5,ext_next,ext_tnext,Nat.le_refl,ext_get_old,gb,gc,lb,lc,lb2,lc2,lc3,brow_ld,brow_len])
          refine JCs.ret (s_Ind b.nms hb.nms to _) ?_
          (try simp only[↓jr,jw,seval,jq2,q_e5,ext_next,ext_tnext,Nat.le_refl,ext_get_old,gb,gc,lb,lc,lb2,lc2,lc3,brow_ld,brow_len])
          refine ww.intro (fun r3 => ?_) (fun r3 => ?_)
          · obtain ⟨r, er, lr⟩ : ∃ r : Nat, role = r ∧ r < b.kr := ⟨role.toNat, by have := rolOK_iff'.1 r1; omega, by have := rolOK_iff'.1 r1; omega⟩
            obtain ⟨x, ex, lx⟩ := inds_nat r2
            obtain ⟨y, ey, ly⟩ := inds_nat r3
            have eE : lnkE b role fr to = 0 := by unfold lnkE; rw [if_pos hask, r1, r2, r3]; rfl
            have eV : lnkV b role fr to = (b.links.any (linkF (OB b) r x y) || !soundB b) := by
              unfold lnkV; rw [eE, decide_eq_true rfl, Bool.true_and, er, ex, ey]
              simp only [Int.toNat_natCast]
              rw [pairF_ref hR hfit lr]
            rw [eE, eV]
            (try simp only[↓jr,jw,seval,jq2,q_e5,ext_next,ext_tnext,Nat.le_refl,ext_get_old,gb,gc,lb,lc,lb2,lc2,lc3,brow_ld,brow_len])
            refine ww.intro (fun s1 => ?_) (fun s1 => ?_)
            · (try simp only[↓jr,jw,seval,jq2,q_e5,ext_next,ext_tnext,Nat.le_refl,ext_get_old,gb,gc,lb,lc,lb2,lc2,lc3,brow_ld,brow_len])
              rw [er, ex, ey]
              (try simp only[↓jr,jw,seval,jq2,q_e5,ext_next,ext_tnext,Nat.le_refl,ext_get_old,gb,gc,lb,lc,lb2,lc2,lc3,brow_ld,brow_len])
              refine JCs.ret (s_RLinked (pid JA.next 1) r x y (RuB b JA.next) b hs2 ruOf_nr' lr _ (ofX_at h2)) ?_
              rw [ruOf_B]
              have e5 : (b.links.any (linkF (OB b) r x y) || !soundB b) = b.links.any (linkF (OB b) r x y) := by rw [s1, Bool.not_true, Bool.or_false]
              rw [e5]
              (try simp only[↓jr,jw,seval,jq2,q_e5,ext_next,ext_tnext,Nat.le_refl,ext_get_old,gb,gc,lb,lc,lb2,lc2,lc3,brow_ld,brow_len])
              refine ww.intro (fun _ => ?_) (fun q => by simp at q)
              (try simp only[↓jr,jw,seval,jq2,q_e5,ext_next,ext_tnext,Nat.le_refl,ext_get_old,gb,gc,lb,lc,lb2,lc2,lc3,brow_ld,brow_len])
              refine JCs.ret (s_awake _) ?_
              (try simp only[↓jr,jw,seval,jq2,q_e5,ext_next,ext_tnext,Nat.le_refl,ext_get_old,gb,gc,lb,lc,lb2,lc2,lc3,brow_ld,brow_len])
              rw [← hJA]
              simp only [ext_ext]
              exact aw htA
            · have e5 : (b.links.any (linkF (OB b) r x y) || !soundB b) = true := by rw [s1, Bool.not_false, Bool.or_true]
              rw [e5]
              (try simp only[↓jr,jw,seval,jq2,q_e5,ext_next,ext_tnext,Nat.le_refl,ext_get_old,gb,gc,lb,lc,lb2,lc2,lc3,brow_ld,brow_len])
              simp only [beq_self_eq_true, Bool.false_eq_true, if_false]
              (try simp only[↓jr,jw,seval,jq2,q_e5,ext_next,ext_tnext,Nat.le_refl,ext_get_old,gb,gc,lb,lc,lb2,lc2,lc3,brow_ld,brow_len])
              refine JCs.ret (s_awake _) ?_
              (try simp only[↓jr,jw,seval,jq2,q_e5,ext_next,ext_tnext,Nat.le_refl,ext_get_old,gb,gc,lb,lc,lb2,lc2,lc3,brow_ld,brow_len])
              rw [← hJA]
              simp only [ext_ext]
              exact aw htA
          · have eE : lnkE b role fr to = 1 := by unfold lnkE; rw [if_pos hask, r1, r2, r3]; rfl
            rw [eE, lnkV_no (by rw [eE]; decide)]
            (try simp only[↓jr,jw,seval,jq2,q_e5,ext_next,ext_tnext,Nat.le_refl,ext_get_old,gb,gc,lb,lc,lb2,lc2,lc3,brow_ld,brow_len])
            refine JCs.ret (s_awake _) ?_
            (try simp only[↓jr,jw,seval,jq2,q_e5,ext_next,ext_tnext,Nat.le_refl,ext_get_old,gb,gc,lb,lc,lb2,lc2,lc3,brow_ld,brow_len])
            rw [← hJA]
            simp only [ext_ext]
            exact aw htA
        · have eE : lnkE b role fr to = 1 := by unfold lnkE; rw [if_pos hask, r1, r2]; rfl
          rw [eE, lnkV_no (by rw [eE]; decide)]
          (try simp only[↓jr,jw,seval,jq2,q_e5,ext_next,ext_tnext,Nat.le_refl,ext_get_old,gb,gc,lb,lc,lb2,lc2,lc3,brow_ld,brow_len])
          refine JCs.ret (s_awake _) ?_
          (try simp only[↓jr,jw,seval,jq2,q_e5,ext_next,ext_tnext,Nat.le_refl,ext_get_old,gb,gc,lb,lc,lb2,lc2,lc3,brow_ld,brow_len])
          rw [← hJA]
          simp only [ext_ext]
          exact aw htA
      · have eE : lnkE b role fr to = 1 := by unfold lnkE; rw [if_pos hask, r1]; rfl
        rw [eE, lnkV_no (by rw [eE]; decide)]
        (try simp only[↓jr,jw,seval,jq2,q_e5,ext_next,ext_tnext,Nat.le_refl,ext_get_old,gb,gc,lb,lc,lb2,lc2,lc3,brow_ld,brow_len])
        refine JCs.ret (s_awake _) ?_
        (try simp only[↓jr,jw,seval,jq2,q_e5,ext_next,ext_tnext,Nat.le_refl,ext_get_old,gb,gc,lb,lc,lb2,lc2,lc3,brow_ld,brow_len])
        rw [← hJA]
        simp only [ext_ext]
        exact aw htA
  · have eI : insE b c fr = faultE b [c] [] := by rw [hW, if_neg h1]
    rw [eI, insV_no (by rw [eI]; exact h1)]
    (try simp only[↓jr,jw,seval,jq2,q_e5,ext_next,ext_tnext,Nat.le_refl,ext_get_old,gb,gc,lb,lc,lb2,lc2,lc3,brow_ld,brow_len])
    refine wq.intro (fun q => absurd q h1) (fun _ => ?_)
    (try simp only[↓jr,jw,seval,jq2,q_e5,ext_next,ext_tnext,Nat.le_refl,ext_get_old,gb,gc,lb,lc,lb2,lc2,lc3,brow_ld,brow_len])
    refine JCs.ret (s_RFault b hb _) ?_
    rw [refE_askE]
    (try simp only[↓jr,jw,seval,jq2,q_e5,ext_next,ext_tnext,Nat.le_refl,ext_get_old,gb,gc,lb,lc,lb2,lc2,lc3,brow_ld,brow_len])
    refine wq.intro (fun hask => ?_) (fun hask => ?_)
    · have hR := (askE_basR hask).1
      have hfit := (askE_basR hask).2
      have h2 := basR_few2 hR
      have hs2 := said2_of hR hfit
      have h2c := h2.c
      have h2r := h2.r
      rw [hask]
      (try simp only[↓jr,jw,seval,jq2,q_e5,ext_next,ext_tnext,Nat.le_refl,ext_get_old,gb,gc,lb,lc,lb2,lc2,lc3,brow_ld,brow_len])
      refine JCs.ret (s_Of b hb hR hfit _) ?_
      (try simp only[↓jr,jw,seval,jq2,q_e5,ext_next,ext_tnext,Nat.le_refl,ext_get_old,gb,gc,lb,lc,lb2,lc2,lc3,brow_ld,brow_len])
      refine JCs.ret (s_RConsistent (pid JA.next 1) (RuB b JA.next) b hs2 ruOf_nc' ruOf_nr' _ (ofX_at h2)) ?_
      rw [← soundB_ref hR hfit JA.next]
      (try simp only[↓jr,jw,seval,jq2,q_e5,ext_next,ext_tnext,Nat.le_refl,ext_get_old,gb,gc,lb,lc,lb2,lc2,lc3,brow_ld,brow_len])
      refine ww.intro (fun _ => ?_) (fun q => by rw [beq_self_eq_true] at q; cases q)
      (try simp only[↓jr,jw,seval,jq2,q_e5,ext_next,ext_tnext,Nat.le_refl,ext_get_old,gb,gc,lb,lc,lb2,lc2,lc3,brow_ld,brow_len])
      refine wq.intro (fun q => absurd q h1) (fun _ => ?_)
      (try simp only[↓jr,jw,seval,jq2,q_e5,ext_next,ext_tnext,Nat.le_refl,ext_get_old,gb,gc,lb,lc,lb2,lc2,lc3,brow_ld,brow_len])
      refine JDRAW.oc (by (try simp only[↓jr,jw,seval,jq2,q_e5,ext_next,ext_tnext,Nat.le_refl,ext_get_old,gb,gc,lb,lc,lb2,lc2,lc3,brow_ld,brow_len,jq]) <;> exact orq) ?_; (try simp only[↓jr,jw,seval,jq2,q_e5,ext_next,ext_tnext,Nat.le_refl,ext_get_old,gb,gc,lb,lc,lb2,lc2,lc3,brow_ld,brow_len])
      refine JCs.ret (s_Role b.nms hb.nms role _) ?_
      (try simp only[↓jr,jw,seval,jq2,q_e5,ext_next,ext_tnext,Nat.le_refl,ext_get_old,gb,gc,lb,lc,lb2,lc2,lc3,brow_ld,brow_len])
      refine ww.intro (fun r1 => ?_) (fun r1 => ?_)
      · (try simp only[↓jr,jw,seval,jq2,q_e5,ext_next,ext_tnext,Nat.le_refl,ext_get_old,gb,gc,lb,lc,lb2,lc2,lc3,brow_ld,brow_len])
        refine JCs.ret (s_Ind b.nms hb.nms fr _) ?_
        (try simp only[↓jr,jw,seval,jq2,q_e5,ext_next,ext_tnext,Nat.le_refl,ext_get_old,gb,gc,lb,lc,lb2,lc2,lc3,brow_ld,brow_len])
        refine ww.intro (fun r2 => ?_) (fun r2 => ?_)
        · (try simp only[↓jr,jw,seval,jq2,q_e5,ext_next,ext_tnext,Nat.le_refl,ext_get_old,gb,gc,lb,lc,lb2,lc2,lc3,brow_ld,brow_len])
          refine JCs.ret (s_Ind b.nms hb.nms to _) ?_
          (try simp only[↓jr,jw,seval,jq2,q_e5,ext_next,ext_tnext,Nat.le_refl,ext_get_old,gb,gc,lb,lc,lb2,lc2,lc3,brow_ld,brow_len])
          refine ww.intro (fun r3 => ?_) (fun r3 => ?_)
          · obtain ⟨r, er, lr⟩ : ∃ r : Nat, role = r ∧ r < b.kr := ⟨role.toNat, by have := rolOK_iff'.1 r1; omega, by have := rolOK_iff'.1 r1; omega⟩
            obtain ⟨x, ex, lx⟩ := inds_nat r2
            obtain ⟨y, ey, ly⟩ := inds_nat r3
            have eE : lnkE b role fr to = 0 := by unfold lnkE; rw [if_pos hask, r1, r2, r3]; rfl
            have eV : lnkV b role fr to = (b.links.any (linkF (OB b) r x y) || !soundB b) := by
              unfold lnkV; rw [eE, decide_eq_true rfl, Bool.true_and, er, ex, ey]
              simp only [Int.toNat_natCast]
              rw [pairF_ref hR hfit lr]
            rw [eE, eV]
            (try simp only[↓jr,jw,seval,jq2,q_e5,ext_next,ext_tnext,Nat.le_refl,ext_get_old,gb,gc,lb,lc,lb2,lc2,lc3,brow_ld,brow_len])
            refine ww.intro (fun s1 => ?_) (fun s1 => ?_)
            · (try simp only[↓jr,jw,seval,jq2,q_e5,ext_next,ext_tnext,Nat.le_refl,ext_get_old,gb,gc,lb,lc,lb2,lc2,lc3,brow_ld,brow_len])
              rw [er, ex, ey]
              (try simp only[↓jr,jw,seval,jq2,q_e5,ext_next,ext_tnext,Nat.le_refl,ext_get_old,gb,gc,lb,lc,lb2,lc2,lc3,brow_ld,brow_len])
              refine JCs.ret (s_RLinked (pid JA.next 1) r x y (RuB b JA.next) b hs2 ruOf_nr' lr _ (ofX_at h2)) ?_
              rw [ruOf_B]
              have e5 : (b.links.any (linkF (OB b) r x y) || !soundB b) = b.links.any (linkF (OB b) r x y) := by rw [s1, Bool.not_true, Bool.or_false]
              rw [e5]
              (try simp only[↓jr,jw,seval,jq2,q_e5,ext_next,ext_tnext,Nat.le_refl,ext_get_old,gb,gc,lb,lc,lb2,lc2,lc3,brow_ld,brow_len])
              refine ww.intro (fun _ => ?_) (fun q => by simp at q)
              (try simp only[↓jr,jw,seval,jq2,q_e5,ext_next,ext_tnext,Nat.le_refl,ext_get_old,gb,gc,lb,lc,lb2,lc2,lc3,brow_ld,brow_len])
              refine JCs.ret (s_awake _) ?_
              (try simp only[↓jr,jw,seval,jq2,q_e5,ext_next,ext_tnext,Nat.le_refl,ext_get_old,gb,gc,lb,lc,lb2,lc2,lc3,brow_ld,brow_len])
              rw [← hJA]
              simp only [ext_ext]
              exact aw htA
            · have e5 : (b.links.any (linkF (OB b) r x y) || !soundB b) = true := by rw [s1, Bool.not_false, Bool.or_true]
              rw [e5]
              (try simp only[↓jr,jw,seval,jq2,q_e5,ext_next,ext_tnext,Nat.le_refl,ext_get_old,gb,gc,lb,lc,lb2,lc2,lc3,brow_ld,brow_len])
              simp only [beq_self_eq_true, Bool.false_eq_true, if_false]
              (try simp only[↓jr,jw,seval,jq2,q_e5,ext_next,ext_tnext,Nat.le_refl,ext_get_old,gb,gc,lb,lc,lb2,lc2,lc3,brow_ld,brow_len])
              refine JCs.ret (s_awake _) ?_
              (try simp only[↓jr,jw,seval,jq2,q_e5,ext_next,ext_tnext,Nat.le_refl,ext_get_old,gb,gc,lb,lc,lb2,lc2,lc3,brow_ld,brow_len])
              rw [← hJA]
              simp only [ext_ext]
              exact aw htA
          · have eE : lnkE b role fr to = 1 := by unfold lnkE; rw [if_pos hask, r1, r2, r3]; rfl
            rw [eE, lnkV_no (by rw [eE]; decide)]
            (try simp only[↓jr,jw,seval,jq2,q_e5,ext_next,ext_tnext,Nat.le_refl,ext_get_old,gb,gc,lb,lc,lb2,lc2,lc3,brow_ld,brow_len])
            refine JCs.ret (s_awake _) ?_
            (try simp only[↓jr,jw,seval,jq2,q_e5,ext_next,ext_tnext,Nat.le_refl,ext_get_old,gb,gc,lb,lc,lb2,lc2,lc3,brow_ld,brow_len])
            rw [← hJA]
            simp only [ext_ext]
            exact aw htA
        · have eE : lnkE b role fr to = 1 := by unfold lnkE; rw [if_pos hask, r1, r2]; rfl
          rw [eE, lnkV_no (by rw [eE]; decide)]
          (try simp only[↓jr,jw,seval,jq2,q_e5,ext_next,ext_tnext,Nat.le_refl,ext_get_old,gb,gc,lb,lc,lb2,lc2,lc3,brow_ld,brow_len])
          refine JCs.ret (s_awake _) ?_
          (try simp only[↓jr,jw,seval,jq2,q_e5,ext_next,ext_tnext,Nat.le_refl,ext_get_old,gb,gc,lb,lc,lb2,lc2,lc3,brow_ld,brow_len])
          rw [← hJA]
          simp only [ext_ext]
          exact aw htA
      · have eE : lnkE b role fr to = 1 := by unfold lnkE; rw [if_pos hask, r1]; rfl
        rw [eE, lnkV_no (by rw [eE]; decide)]
        (try simp only[↓jr,jw,seval,jq2,q_e5,ext_next,ext_tnext,Nat.le_refl,ext_get_old,gb,gc,lb,lc,lb2,lc2,lc3,brow_ld,brow_len])
        refine JCs.ret (s_awake _) ?_
        (try simp only[↓jr,jw,seval,jq2,q_e5,ext_next,ext_tnext,Nat.le_refl,ext_get_old,gb,gc,lb,lc,lb2,lc2,lc3,brow_ld,brow_len])
        rw [← hJA]
        simp only [ext_ext]
        exact aw htA
    · have eE : lnkE b role fr to = askE b := by unfold lnkE; rw [if_neg hask]
      rw [eE, lnkV_no (by rw [eE]; exact hask), decide_eq_false hask, Bool.false_and]
      (try simp only[↓jr,jw,seval,jq2,q_e5,ext_next,ext_tnext,Nat.le_refl,ext_get_old,gb,gc,lb,lc,lb2,lc2,lc3,brow_ld,brow_len])
      refine JCs.ret (s_awake _) ?_
      (try simp only[↓jr,jw,seval,jq2,q_e5,ext_next,ext_tnext,Nat.le_refl,ext_get_old,gb,gc,lb,lc,lb2,lc2,lc3,brow_ld,brow_len])
      rw [← hJA]
      exact aw htA
end Go.Proofs.YtkcbhebbjpiibaaDoor.Pg
