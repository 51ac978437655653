/-
  The statement about results that are new memory.
-/
import Derived.Test.YtnkkeenclhncmaaDoorKf
set_option linter.unusedVariables false
set_option linter.unusedSimpArgs false
set_option maxRecDepth 100000
set_option maxHeartbeats 16000000
namespace Go.Proofs.YtnkkeenclhncmaaDoor.Pg
open Go
theorem subs_anys {no nt : Nat} : ∀ {cs : List AV} {N : Nat}, cs.length = N → SubBs no nt cs (List.replicate N .any)
  | [], _, h => by subst h; exact True.intro
  | x :: cs, _, h => by subst h; exact ⟨SubB.any, subs_anys rfl⟩
theorem sumL_mem {α : Type} : ∀ {l : List (List α)} {x : List α}, x ∈ l → x.length ≤ sumL l
  | y :: l, x, h => by
    simp only [sumL]
    rcases List.mem_cons.1 h with rfl | h
    · omega
    · have := sumL_mem h; omega
/-- An empty result, or a new row that may be written. -/
def WR (j : JH) (es : Nat) (o : AOut) (j' : JH) : Prop := (∃ tok y, o = .ret (.tup [.sl tok 0 [], I64 y]) ∧ j' = j) ∨ (∃ n off N ty y, n ≤ 100000000 ∧ off + n * es ≤ N ∧ RET (.tup [.arr j.next off n, I64 y]) (j.push (.cells ty (List.replicate N .any))) o j')
section
variable {m : GM} {G : Nat → Option (List AV)}
theorem s_ElementsW (hG : ∀ g cs, GG m g = some cs → AV.pures cs = true) (n : Nms) (hn : n.ok) (hs : n.short) (i : Itp) (hok : i.ok) (c : Con) (hc : c.ok) (hb : c.nodes ≤ 4000000000) (j : JH) : JC Tryd.prog (GG m) 15 [.agg n.enc, .agg c.enc, .agg i.enc] j (WR j 1) := by
  by_cases h1 : fineI n i [c] = 0
  · by_cases hne : (bitsL (semC i c) (sz i)).length = 0
    · refine JC.mono (s_Elements n hn hs i hok c hc hb j) ?_
      rintro o j' ⟨rfl, rfl⟩
      have e0 : bitsL (semC i c) (sz i) = [] := List.length_eq_zero_iff.1 hne
      have e1 : elemsI n c i = [] := by unfold elemsI; rw [if_pos h1, e0]
      rw [e1, h1]
      exact .inl ⟨.none, _, rfl, rfl⟩
    · obtain ⟨_, _, h3⟩ := fineI_zero h1
      obtain ⟨e1, e2, e3⟩ := sz_size (Itp.wf_of h3).1
      have hbl := @bitsL_len (semC i c) (sz i)
      refine JC.mono (JC.thaw hG (by simp only [AV.pures, AV.pure, Nms.pur, Con.pur, Itp.pur, Bool.and_self]) (s_ElementsO n hn hs i hok c hc hb h1 hne AH.empty.j)) ?_
      rintro o j' ⟨off, N, ty, hle, h⟩
      exact .inr ⟨_, off, N, ty, _, by omega, hle, h⟩
  · refine JC.mono (s_Elements n hn hs i hok c hc hb j) ?_
    rintro o j' ⟨rfl, rfl⟩
    rw [show sliceI (elemsI n c i) (fineI n i [c]) = .sl .nil 0 [] from if_neg h1]
    exact .inl ⟨.nil, _, rfl, rfl⟩
theorem s_PairsW (hG : ∀ g cs, GG m g = some cs → AV.pures cs = true) (n : Nms) (hn : n.ok) (hs : n.short) (i : Itp) (hok : i.ok) (r : Int) (j : JH) : JC Tryd.prog (GG m) 9 [.agg n.enc, .agg i.enc, I64 r] j (WR j 2) := by
  by_cases h1 : fineI n i [] = 0 ∧ roleOK n r = true
  · obtain ⟨h1, h2⟩ := h1
    obtain ⟨_, _, h3⟩ := fineI_zero h1
    have hwf := (Itp.wf_of h3).1
    have hrl := (Itp.wf_of h3).2.2.1
    have hro := roleOK_iff.1 h2
    have hr1 : r < 2 * (i.rols.length : Int) := by omega
    by_cases hne : rolI i r = []
    · refine JC.mono (s_Pairs n hn hs i hok r j) ?_
      rintro o j' ⟨rfl, rfl⟩
      have e1 : pairsL n i r = [] := by
        unfold pairsL; rw [if_pos ⟨h1, h2⟩]
        unfold relL
        rw [hne]
        unfold invI
        simp
      rw [e1]
      exact .inl ⟨.none, _, rfl, rfl⟩
    · have hm := rolI_mem hro.1 hr1
      have hL : (rolI i r).length ≤ 65536 := rol_len hwf.s1 hwf.s2 (by
        have h := h3
        unfold itpOK at h
        simp only [Bool.and_eq_true, List.all_eq_true] at h
        exact h.1.2 _ hm)
      refine JC.mono (JC.thaw hG (by simp only [AV.pures, AV.pure, Nms.pur, Itp.pur, Bool.and_self]) (s_PairsO n hn hs i hok r h1 hro.1 hr1 hne AH.empty.j)) ?_
      rintro o j' ⟨off, N, ty, hle, h⟩
      exact .inr ⟨_, off, N, ty, _, by omega, hle, h⟩
  · refine JC.mono (s_Pairs n hn hs i hok r j) ?_
    rintro o j' ⟨rfl, rfl⟩
    have e1 : pairsL n i r = [] := by unfold pairsL; rw [if_neg h1]
    rw [e1]
    exact .inl ⟨.none, _, rfl, rfl⟩
theorem s_WrongW (hG : ∀ g cs, GG m g = some cs → AV.pures cs = true) (b : Bas) (hb : b.ok) (hf : b.few) (i : Itp) (hok : i.ok) (j : JH) : JC Tryd.prog (GG m) 29 [.agg b.enc, .agg i.enc] j (WR j 1) := by
  by_cases h1 : modE b i = 0
  · obtain ⟨h2, h3⟩ := modE_zero h1
    have hW : wrongL b i = bitsL (fun k => !trueI b i k) b.count := if_pos h1
    by_cases hne : (bitsL (fun k => !trueI b i k) b.count).length = 0
    · refine JC.mono (s_Wrong b hb hf i hok j) ?_
      rintro o j' ⟨rfl, rfl⟩
      rw [hW, List.length_eq_zero_iff.1 hne]
      exact .inl ⟨.none, _, rfl, rfl⟩
    · have hcnt := (basV_iff h2).c
      have hbl := @bitsL_len (fun k => !trueI b i k) b.count
      refine JC.mono (JC.thaw hG (by simp only [AV.pures, AV.pure, Bas.pur, Itp.pur, Bool.and_self]) (s_WrongO b hb hf i hok h2 h3 hne AH.empty.j)) ?_
      rintro o j' ⟨off, N, ty, hle, h⟩
      exact .inr ⟨_, off, N, ty, _, by omega, hle, h⟩
  · refine JC.mono (s_Wrong b hb hf i hok j) ?_
    rintro o j' ⟨rfl, rfl⟩
    rw [show wrongL b i = [] from if_neg h1]
    exact .inl ⟨.none, _, rfl, rfl⟩
theorem fewB_few {b : Bas} (h : fewB 400 b = true) : b.few := by
  refine few_of fun c hc => ?_
  unfold fewB at h
  simp only [Bool.and_eq_true, List.all_eq_true, decide_eq_true_eq] at h
  have h1 := h.2
  have h2 := sumN_mem hc
  omega
def ir6 : IFn := ⟨118, [⟨8, none⟩], (.seq (.reg [oA 4 (.box 66 (.r 0)), oA 5 (.box 44 (.r 1)), oA 6 (.box 29 (.r 2)), oA 8 (.mov (kB false))]) (.seq (.seq (.reg [oL 21 4 (some 7), oA 22 (.call 25 [.r 21, .k (.v (.int .i64 400))]), oA 23 (.not (.r 22)), oA 24 (kM 23), ⟨(some 25), (some ((24, false))), none, (.fadr 0 (.r 4))⟩, ⟨(some 26), (some ((24, false))), (some (.r 25)), (.load (some 3) (.r 25))⟩, ⟨(some 27), (some ((24, false))), (some (.r 6)), (.load (some 4) (.r 6))⟩, ⟨(some 28), (some ((24, false))), (some (.r 5)), (.load (some 3) (.r 5))⟩, ⟨(some 29), (some ((24, false))), none, (.bsl 1 3 [.v (.int .i64 0), .v (.int .i64 0), .sl .nil 0 []] [(0, (3, .r 28))])⟩, ⟨(some 30), (some ((24, false))), none, (.call 7 [.r 26, .r 27, .r 29])⟩, ⟨(some 31), (some ((24, false))), none, (.not (.r 30))⟩, oA 32 (.pick (.r 24) (kB true) (.r 31))]) (.cond (.r 32) (.seq (.reg [oA 33 (.call 8 []), oA 8 (kM 33)]) .ret) .skip)) (.seq (.draw [oL 34 4 (some 7), oL 36 5 (some 3), oL 38 6 (some 4), oA 9 (.alloc 66 [.sl .nil 0 [], .sl .nil 0 [], .sl .nil 0 [], .sl .nil 0 [], .sl .nil 0 [], .sl .nil 0 [], .sl .nil 0 []]), oA 10 (.alloc 44 [.v (.int .i64 0), .v (.int .i64 0), .sl .nil 0 []]), oA 11 (.alloc 29 [.v (.int .i64 0), .sl .nil 0 [], .sl .nil 0 [], .sl .nil 0 []]), oT 35 34 (.call 26 [.r 34]), oT 37 36 (.call 27 [.r 36]), oT 39 38 (.call 28 [.r 38]), oN (.store 7 (.r 9) (.r 35)), oN (.store 3 (.r 10) (.r 37)), oN (.store 4 (.r 11) (.r 39))] [(1, 6), (2, 6), (2, 7), (3, 6), (3, 7), (3, 8), (4, 6), (4, 7), (4, 8), (5, 6), (5, 7), (5, 8)]) (.seq (.reg [oA 41 (.fadr 0 (.r 4)), oL 42 41 (some 3), oL 43 5 (some 3), oL 44 6 (some 4), oA 45 (.call 15 [.r 42, .r 43, .r 44]), oA 40 (kM 45), oA 46 (.ext (.r 40) 0), oA 47 (.ext (.r 40) 1), oA 12 (kM 46), oA 13 (kM 47)]) (.seq (.seq (.reg [oA 48 (kM 12), oT 49 48 (.lenl (.r 48)), oA 50 (.mov (kI 0))]) (.block 0 (.loop (.seq (.reg [oA 51 (.bin .lss (.r 50) (.r 49))]) (.seq (.cond (.r 51) .skip (.exit 0)) (.seq (.block 1 (.seq (.reg [oA 52 (kM 50), oA 14 (kM 52)]) (.reg [oA 53 (kM 12), oA 54 (kM 14), oA 55 (.iasl 1 (.r 53) (.r 54)), oN (.store 1 (.r 55) (kI (-1)))]))) (.reg [oA 56 (.bin .add (.r 50) (kI 1)), oA 50 (kM 56)]))))))) (.seq (.reg [oA 58 (.fadr 0 (.r 4)), oL 59 58 (some 3), oL 60 6 (some 4), oA 61 (kM 3), oA 62 (.call 9 [.r 59, .r 60, .r 61]), oA 57 (kM 62), oA 63 (.ext (.r 57) 0), oA 64 (.ext (.r 57) 1), oA 15 (kM 63), oA 16 (kM 64)]) (.seq (.seq (.reg [oA 65 (kM 15), oT 66 65 (.lenl (.r 65)), oA 67 (.mov (kI 0))]) (.block 2 (.loop (.seq (.reg [oA 68 (.bin .lss (.r 67) (.r 66))]) (.seq (.cond (.r 68) .skip (.exit 2)) (.seq (.block 3 (.seq (.reg [oA 69 (kM 67), oA 17 (kM 69)]) (.reg [oA 70 (kM 15), oA 71 (kM 17), oA 72 (.iasl 2 (.r 70) (.r 71)), oA 73 (.iaar 2 1 (.r 72) (kI 0)), oN (.store 1 (.r 73) (kI (-1)))]))) (.reg [oA 74 (.bin .add (.r 67) (kI 1)), oA 67 (kM 74)]))))))) (.seq (.reg [oL 76 4 (some 7), oL 77 6 (some 4), oA 78 (.call 29 [.r 76, .r 77]), oA 75 (kM 78), oA 79 (.ext (.r 75) 0), oA 80 (.ext (.r 75) 1), oA 18 (kM 79), oA 19 (kM 80)]) (.seq (.seq (.reg [oA 81 (kM 18), oT 82 81 (.lenl (.r 81)), oA 83 (.mov (kI 0))]) (.block 4 (.loop (.seq (.reg [oA 84 (.bin .lss (.r 83) (.r 82))]) (.seq (.cond (.r 84) .skip (.exit 4)) (.seq (.block 5 (.seq (.reg [oA 85 (kM 83), oA 20 (kM 85)]) (.reg [oA 86 (kM 18), oA 87 (kM 20), oA 88 (.iasl 1 (.r 86) (.r 87)), oN (.store 1 (.r 88) (kI (-1)))]))) (.reg [oA 89 (.bin .add (.r 83) (kI 1)), oA 83 (kM 89)]))))))) (.seq (.reg [oL 90 4 (some 7), oL 91 6 (some 4), oA 92 (.call 30 [.r 90, .r 91])]) (.seq (.reg [oL 93 4 (some 7), oL 94 6 (some 4), oA 95 (.call 31 [.r 93, .r 94, .k (.v (.int .i64 0))])]) (.seq (.reg [oA 96 (.fadr 0 (.r 4)), oL 97 96 (some 3), oL 98 5 (some 3), oL 99 5 (some 3), oL 100 6 (some 4), oA 101 (.call 16 [.r 97, .r 98, .r 99, .r 100])]) (.seq (.reg [oL 102 9 (some 7), oL 103 4 (some 7), oA 104 (.call 32 [.r 102, .r 103]), oA 105 (kM 104), ⟨(some 106), (some ((105, true))), (some (.r 10)), (.load (some 3) (.r 10))⟩, ⟨(some 107), (some ((105, true))), (some (.r 5)), (.load (some 3) (.r 5))⟩, ⟨(some 108), (some ((105, true))), none, (.call 33 [.r 106, .r 107])⟩, oA 109 (.pick (.r 105) (.r 108) (kB false)), oA 110 (kM 109), ⟨(some 111), (some ((110, true))), (some (.r 11)), (.load (some 4) (.r 11))⟩, ⟨(some 112), (some ((110, true))), (some (.r 6)), (.load (some 4) (.r 6))⟩, ⟨(some 113), (some ((110, true))), none, (.call 34 [.r 111, .r 112])⟩, oA 114 (.pick (.r 110) (.r 113) (kB false)), oA 115 (kM 114), ⟨(some 116), (some ((115, true))), none, (.call 8 [])⟩, oA 117 (.pick (.r 115) (.r 116) (kB false)), oA 8 (kM 117)]) .ret)))))))))))))⟩
theorem c6 : cfunc Tryd.prog 6 = some ir6 := by kernel_rfl
theorem k6 : okIR (max 4 ir6.n) ir6.ir = true := by decide +kernel
theorem s_InterpOwn (hG : ∀ g cs, GG m g = some cs → AV.pures cs = true) (aw : ∀ j : JH, JC Tryd.prog (GG m) 8 [] j (RET (BOO true) j)) (b : Bas) (hb : b.ok) (c : Con) (hc : c.ok) (i : Itp) (hok : i.ok) (r : Int) (j : JH) :
    JC Tryd.prog (GG m) 6 [.agg b.enc, .agg c.enc, .agg i.enc, I64 r] j (RET (BOO true) j) := by
  have e2 : ∀ j0 : JH, ∀ tok : Tok, JC Tryd.prog (GG m) 7 [.agg b.nms.enc, .agg i.enc, .sl tok 1 c.enc] j0 (RET (BOO (fewI b.nms i [c])) j0) := by
    intro j0 tok
    have := s_ifew (m := m) b.nms hb.nms hb.short i hok [c] tok ⟨hc, trivial⟩ (by simp) j0
    rwa [encs_cons, encs_nil, List.append_nil] at this
  refine JC.run hmix c6 (by exact k6) ?_
  (try simp only[↓jr,jw,seval,ji,ext_ext,pid_pid,ir6])
  refine JCs.ret (s_Few b hb 400 (by decide) (by decide) _) ?_
  (try simp only[↓jr,jw,seval,ji,ext_ext,pid_pid])
  refine ww.intro (fun h0 => ?_) (fun h0 => by (try simp only[↓jr,jw,seval,ji,ext_ext,pid_pid]); refine JCs.ret (aw _) ?_; (try simp only[↓jr,jw,seval,ji,ext_ext,pid_pid]); refine JFIN.rb ?_; exact SubB.v)
  have hf := fewB_few h0
  (try simp only[↓jr,jw,seval,ji,ext_ext,pid_pid])
  refine JCs.ret (e2 _ _) ?_
  (try simp only[↓jr,jw,seval,ji,ext_ext,pid_pid])
  refine ww.intro (fun h1 => ?_) (fun h1 => by (try simp only[↓jr,jw,seval,ji,ext_ext,pid_pid]); refine JCs.ret (aw _) ?_; (try simp only[↓jr,jw,seval,ji,ext_ext,pid_pid]); refine JFIN.rb ?_; exact SubB.v)
  have hb1 : c.nodes ≤ 4000000000 := by unfold fewI at h1; simp at h1; omega
  have hb2 : c.nodes ≤ 1000000 := by unfold fewI at h1; simp at h1; omega
  have hB := h0
  unfold fewB at hB
  simp only [Bool.and_eq_true, decide_eq_true_eq] at hB
  have hI := h1
  unfold fewI fewNames fewItp at hI
  simp only [Bool.and_eq_true, decide_eq_true_eq, List.all_eq_true] at hI
  obtain ⟨_, hN, hh, i4⟩ := hI
  obtain ⟨_, i1, i2, i3⟩ := hh
  have q1 : b.nms.cs.length ≤ 100000 := by have := (hN b.nms.cs (by simp [Nms.lists])).1; omega
  have q2 : b.nms.rs.length ≤ 100000 := by have := (hN b.nms.rs (by simp [Nms.lists])).1; omega
  have q3 : b.nms.is.length ≤ 100000 := by have := (hN b.nms.is (by simp [Nms.lists])).1; omega
  have q4 : b.incls.length ≤ 100000 := by omega
  have q5 : b.roles.length ≤ 100000 := by omega
  have q6 : b.facts.length ≤ 100000 := by omega
  have q7 : b.links.length ≤ 100000 := by omega
  have q8 : i.cons.length ≤ 100000 := by omega
  have q9 : i.rols.length ≤ 100000 := by omega
  have q10 : i.inds.length ≤ 100000 := by omega
  have q11 : ∀ l ∈ i.cons, l.length ≤ 100000 := fun l hl => by have := sumL_mem hl; omega
  have q12 : ∀ l ∈ i.rols, l.length ≤ 100000 := fun l hl => by have := sumL_mem hl; omega
  have m0 : ∀ x ∈ b.cons, x.nodes ≤ 1000000 := fun x hx => by have := sumN_mem hx; omega
  have m1 : ∀ x ∈ b.incls, x.sub.nodes ≤ 1000000 ∧ x.sup.nodes ≤ 1000000 := fun x hx => by
    obtain ⟨a1, a2⟩ := mem_consI hx
    exact ⟨m0 _ (List.mem_append.2 (.inl a1)), m0 _ (List.mem_append.2 (.inl a2))⟩
  have m2 : ∀ x ∈ b.facts, x.con.nodes ≤ 1000000 := fun x hx => m0 _ (List.mem_append.2 (.inr (mem_consF hx)))
  (try simp only[↓jr,jw,seval,ji,ext_ext,pid_pid])
  refine JDC.use (s_bCopy b hb q1 q2 q3 q4 q5 q6 q7 m1 m2 _) ?_
  (try simp only[↓jr,jw,seval,ji,ext_ext,pid_pid])
  refine JDC.use (s_rCopy c _ hc hb2) ?_
  (try simp only[↓jr,jw,seval,ji,ext_ext,pid_pid])
  refine JDC.use (s_iCopy i hok q8 q9 q10 _) ?_
  (try simp only[↓jr,jw,seval,ji,ext_ext,pid_pid])
  refine JDRAW.oc (by (try simp only[↓jr,jw,seval,ji,ext_ext,pid_pid,jq,qe2,qe3,ext_next,ext_tnext,pushTok_next,List.length_cons,List.length_nil]) <;> (repeat' (first | exact trivial | refine And.intro ?_ ?_ | exact Nat.le_refl _ | (refine pr_extp ⟨_, rfl⟩ (some_lt ?_)) | (refine pr_extp ⟨_, rfl⟩ (fun _ q => by cases q)) | omega | (unfold pid; omega) | (simp only [pushTok_next, List.length_cons, List.length_nil]; unfold pid; omega)))) ?_; (try simp only[↓jr,jw,seval,ji,ext_ext,pid_pid])
  have ht : TokExt j (j.pushTok 1) := by repeat' (first | exact TokExt.refl _ | refine TokExt.push ?_ _)
  generalize j.pushTok 1 = jz at ht ⊢
  have hnz := ht.next
  refine JCs.use (s_ElementsW hG b.nms hb.nms hb.short i hok c hc hb1 _) ?_
  rintro o1 j1 (⟨tok1, y1, rfl, rfl⟩ | ⟨n1, off1, N1, ty1, y1, hn1, hle1, rfl, rfl⟩)
  · (try simp only[↓jr,jw,seval,ji,ext_ext,pid_pid,hnz])
    refine JLOOP.of (σ := Nat) (fun k => k = 0) (fun k => k) (fun k => [(50, I64 0), (49, I64 0), (12, .sl .none 0 []), (3, I64 r), (4, .ptr (pid j.next 0) 0), (5, .ptr (pid j.next 1) 0), (6, .ptr (pid j.next 2) 0), (9, .ptr (pid j.next 3) 0), (10, .ptr (pid j.next 4) 0), (11, .ptr (pid j.next 5) 0)]) (fun k => ext jz [.cells 66 b.enc, .cells 44 c.enc, .cells 29 i.enc, .cells 66 b.enc, .cells 44 c.enc, .cells 29 i.enc]) 0 rfl ?_ (JDropH.refl _) ?_
    · (try simp only[↓jr,jw,seval,ji,ext_ext,pid_pid,DL,hnz])
      exact ⟨SubB.v, SubB.v, SubB.sl rfl True.intro, SubB.v, SubB.ptr (by have := hnz; unfold pid; omega), SubB.ptr (by have := hnz; unfold pid; omega), SubB.ptr (by have := hnz; unfold pid; omega), SubB.ptr (by have := hnz; unfold pid; omega), SubB.ptr (by have := hnz; unfold pid; omega), SubB.ptr (by have := hnz; unfold pid; omega)⟩
    rintro k rfl
    (try simp only[↓jr,jw,seval,ji,ext_ext,pid_pid,hnz])
    refine JCs.use (s_PairsW hG b.nms hb.nms hb.short i hok r _) ?_
    rintro o2 j2 (⟨tok2, y2, rfl, rfl⟩ | ⟨n2, off2, N2, ty2, y2, hn2, hle2, rfl, rfl⟩)
    · (try simp only[↓jr,jw,seval,ji,ext_ext,pid_pid,hnz])
      refine JLOOP.of (σ := Nat) (fun k => k = 0) (fun k => k) (fun k => [(67, I64 0), (66, I64 0), (15, .sl .none 0 []), (4, .ptr (pid j.next 0) 0), (5, .ptr (pid j.next 1) 0), (6, .ptr (pid j.next 2) 0), (9, .ptr (pid j.next 3) 0), (10, .ptr (pid j.next 4) 0), (11, .ptr (pid j.next 5) 0)]) (fun k => ext jz [.cells 66 b.enc, .cells 44 c.enc, .cells 29 i.enc, .cells 66 b.enc, .cells 44 c.enc, .cells 29 i.enc]) 0 rfl ?_ (JDropH.refl _) ?_
      · (try simp only[↓jr,jw,seval,ji,ext_ext,pid_pid,DL,hnz])
        exact ⟨SubB.v, SubB.v, SubB.sl rfl True.intro, SubB.ptr (by have := hnz; unfold pid; omega), SubB.ptr (by have := hnz; unfold pid; omega), SubB.ptr (by have := hnz; unfold pid; omega), SubB.ptr (by have := hnz; unfold pid; omega), SubB.ptr (by have := hnz; unfold pid; omega), SubB.ptr (by have := hnz; unfold pid; omega)⟩
      rintro k rfl
      (try simp only[↓jr,jw,seval,ji,ext_ext,pid_pid,hnz])
      refine JCs.use (s_WrongW hG b hb hf i hok _) ?_
      rintro o3 j3 (⟨tok3, y3, rfl, rfl⟩ | ⟨n3, off3, N3, ty3, y3, hn3, hle3, rfl, rfl⟩)
      · (try simp only[↓jr,jw,seval,ji,ext_ext,pid_pid,hnz])
        refine JLOOP.of (σ := Nat) (fun k => k = 0) (fun k => k) (fun k => [(83, I64 0), (82, I64 0), (18, .sl .none 0 []), (4, .ptr (pid j.next 0) 0), (5, .ptr (pid j.next 1) 0), (6, .ptr (pid j.next 2) 0), (9, .ptr (pid j.next 3) 0), (10, .ptr (pid j.next 4) 0), (11, .ptr (pid j.next 5) 0)]) (fun k => ext jz [.cells 66 b.enc, .cells 44 c.enc, .cells 29 i.enc, .cells 66 b.enc, .cells 44 c.enc, .cells 29 i.enc]) 0 rfl ?_ (JDropH.refl _) ?_
        · (try simp only[↓jr,jw,seval,ji,ext_ext,pid_pid,DL,hnz])
          exact ⟨SubB.v, SubB.v, SubB.sl rfl True.intro, SubB.ptr (by have := hnz; unfold pid; omega), SubB.ptr (by have := hnz; unfold pid; omega), SubB.ptr (by have := hnz; unfold pid; omega), SubB.ptr (by have := hnz; unfold pid; omega), SubB.ptr (by have := hnz; unfold pid; omega), SubB.ptr (by have := hnz; unfold pid; omega)⟩
        rintro k rfl
        (try simp only[↓jr,jw,seval,ji,ext_ext,pid_pid,hnz])
        refine JCs.ret (s_Models b hb hf i hok _) ?_
        (try simp only[↓jr,jw,seval,ji,ext_ext,pid_pid,hnz])
        refine JCs.ret (s_True b hb hf i hok 0 _) ?_
        (try simp only[↓jr,jw,seval,ji,ext_ext,pid_pid,hnz])
        refine JCs.ret (s_Included b.nms hb.nms hb.short i hok c c hc hb1 hc hb1 _) ?_
        (try simp only[↓jr,jw,seval,ji,ext_ext,pid_pid,hnz])
        refine JCs.ret (s_bSame b hb q1 q2 q3 q4 q5 q6 q7 _) ?_
        (try simp only[↓jr,jw,seval,ji,ext_ext,pid_pid,hnz])
        refine JCs.ret (s_rSame1 c hc _) ?_
        (try simp only[↓jr,jw,seval,ji,ext_ext,pid_pid,hnz])
        refine JCs.ret (s_iSame i hok q8 q9 q10 q11 q12 _) ?_
        (try simp only[↓jr,jw,seval,ji,ext_ext,pid_pid,hnz])
        refine JCs.ret (aw _) ?_
        (try simp only[↓jr,jw,seval,ji,ext_ext,pid_pid,hnz])
        exact JFIN.ret (JDropH.back ht).of_ext SubB.v
      · rw [ext_push]
        (try simp only[↓jr,jw,seval,ji,ext_ext,pid_pid,hnz])
        refine JLOOP.of (σ := Nat) (fun k => k ≤ n3) (fun k => n3 - k) (fun k => [(83, I64 k), (82, I64 n3), (18, .arr (pid j.next 6) off3 n3), (4, .ptr (pid j.next 0) 0), (5, .ptr (pid j.next 1) 0), (6, .ptr (pid j.next 2) 0), (9, .ptr (pid j.next 3) 0), (10, .ptr (pid j.next 4) 0), (11, .ptr (pid j.next 5) 0)]) (fun k => ext jz [.cells 66 b.enc, .cells 44 c.enc, .cells 29 i.enc, .cells 66 b.enc, .cells 44 c.enc, .cells 29 i.enc, .cells ty3 (List.replicate N3 .any)]) 0 (Nat.zero_le _) ?_ (JDropH.refl _) ?_
        · (try simp only[↓jr,jw,seval,ji,ext_ext,pid_pid,DL,hnz])
          exact ⟨SubB.v, SubB.v, SubB.arr (by have := hnz; unfold pid; omega), SubB.ptr (by have := hnz; unfold pid; omega), SubB.ptr (by have := hnz; unfold pid; omega), SubB.ptr (by have := hnz; unfold pid; omega), SubB.ptr (by have := hnz; unfold pid; omega), SubB.ptr (by have := hnz; unfold pid; omega), SubB.ptr (by have := hnz; unfold pid; omega)⟩
        intro k hk
        (try simp only[↓jr,jw,seval,ji,ext_ext,pid_pid,hnz])
        refine wq.intro (fun g1 => ?_) (fun g1 => ?_)
        · (try simp only[↓jr,jw,seval,ji,ext_ext,pid_pid,hnz])
          refine wc.intro (by omega) ?_
          (try simp only[↓jr,jw,seval,ji,ext_ext,pid_pid,hnz])
          refine wc.intro (by simp only [List.length_replicate]; omega) ?_
          (try simp only[↓jr,jw,seval,ji,ext_ext,pid_pid,hnz])
          refine wc.intro (by unfold R64; omega) ?_
          (try simp only[↓jr,jw,seval,ji,ext_ext,pid_pid,hnz])
          refine JNEXT.of (k + 1) (by omega) (by omega) ?_ (JDropH.next0 (TokExt.refl _) ⟨.inl ⟨rfl, rfl⟩, .inl ⟨rfl, rfl⟩, .inl ⟨rfl, rfl⟩, .inl ⟨rfl, rfl⟩, .inl ⟨rfl, rfl⟩, .inl ⟨rfl, rfl⟩, .inr ⟨rfl, subs_anys (by simp [splice]; omega)⟩, True.intro⟩)
          (try simp only[↓jr,jw,seval,ji,ext_ext,pid_pid,DL,hnz])
          exact ⟨SubB.v, SubB.v, SubB.arr (by have := hnz; unfold pid; omega), SubB.ptr (by have := hnz; unfold pid; omega), SubB.ptr (by have := hnz; unfold pid; omega), SubB.ptr (by have := hnz; unfold pid; omega), SubB.ptr (by have := hnz; unfold pid; omega), SubB.ptr (by have := hnz; unfold pid; omega), SubB.ptr (by have := hnz; unfold pid; omega)⟩
        have ek : k = n3 := by omega
        subst ek
        clear g1 hk
        (try simp only[↓jr,jw,seval,ji,ext_ext,pid_pid,hnz])
        refine JCs.ret (s_Models b hb hf i hok _) ?_
        (try simp only[↓jr,jw,seval,ji,ext_ext,pid_pid,hnz])
        refine JCs.ret (s_True b hb hf i hok 0 _) ?_
        (try simp only[↓jr,jw,seval,ji,ext_ext,pid_pid,hnz])
        refine JCs.ret (s_Included b.nms hb.nms hb.short i hok c c hc hb1 hc hb1 _) ?_
        (try simp only[↓jr,jw,seval,ji,ext_ext,pid_pid,hnz])
        refine JCs.ret (s_bSame b hb q1 q2 q3 q4 q5 q6 q7 _) ?_
        (try simp only[↓jr,jw,seval,ji,ext_ext,pid_pid,hnz])
        refine JCs.ret (s_rSame1 c hc _) ?_
        (try simp only[↓jr,jw,seval,ji,ext_ext,pid_pid,hnz])
        refine JCs.ret (s_iSame i hok q8 q9 q10 q11 q12 _) ?_
        (try simp only[↓jr,jw,seval,ji,ext_ext,pid_pid,hnz])
        refine JCs.ret (aw _) ?_
        (try simp only[↓jr,jw,seval,ji,ext_ext,pid_pid,hnz])
        exact JFIN.ret (JDropH.back ht).of_ext SubB.v
    · rw [ext_push]
      (try simp only[↓jr,jw,seval,ji,ext_ext,pid_pid,hnz])
      refine JLOOP.of (σ := Nat) (fun k => k ≤ n2) (fun k => n2 - k) (fun k => [(67, I64 k), (66, I64 n2), (15, .arr (pid j.next 6) off2 n2), (4, .ptr (pid j.next 0) 0), (5, .ptr (pid j.next 1) 0), (6, .ptr (pid j.next 2) 0), (9, .ptr (pid j.next 3) 0), (10, .ptr (pid j.next 4) 0), (11, .ptr (pid j.next 5) 0)]) (fun k => ext jz [.cells 66 b.enc, .cells 44 c.enc, .cells 29 i.enc, .cells 66 b.enc, .cells 44 c.enc, .cells 29 i.enc, .cells ty2 (List.replicate N2 .any)]) 0 (Nat.zero_le _) ?_ (JDropH.refl _) ?_
      · (try simp only[↓jr,jw,seval,ji,ext_ext,pid_pid,DL,hnz])
        exact ⟨SubB.v, SubB.v, SubB.arr (by have := hnz; unfold pid; omega), SubB.ptr (by have := hnz; unfold pid; omega), SubB.ptr (by have := hnz; unfold pid; omega), SubB.ptr (by have := hnz; unfold pid; omega), SubB.ptr (by have := hnz; unfold pid; omega), SubB.ptr (by have := hnz; unfold pid; omega), SubB.ptr (by have := hnz; unfold pid; omega)⟩
      intro k hk
      (try simp only[↓jr,jw,seval,ji,ext_ext,pid_pid,hnz])
      refine wq.intro (fun g1 => ?_) (fun g1 => ?_)
      · (try simp only[↓jr,jw,seval,ji,ext_ext,pid_pid,hnz])
        refine wc.intro (by omega) ?_
        (try simp only[↓jr,jw,seval,ji,ext_ext,pid_pid,hnz])
        refine wc.intro (by simp only [List.length_replicate]; omega) ?_
        (try simp only[↓jr,jw,seval,ji,ext_ext,pid_pid,hnz])
        refine wc.intro (by unfold R64; omega) ?_
        (try simp only[↓jr,jw,seval,ji,ext_ext,pid_pid,hnz])
        refine JNEXT.of (k + 1) (by omega) (by omega) ?_ (JDropH.next0 (TokExt.refl _) ⟨.inl ⟨rfl, rfl⟩, .inl ⟨rfl, rfl⟩, .inl ⟨rfl, rfl⟩, .inl ⟨rfl, rfl⟩, .inl ⟨rfl, rfl⟩, .inl ⟨rfl, rfl⟩, .inr ⟨rfl, subs_anys (by simp [splice]; omega)⟩, True.intro⟩)
        (try simp only[↓jr,jw,seval,ji,ext_ext,pid_pid,DL,hnz])
        exact ⟨SubB.v, SubB.v, SubB.arr (by have := hnz; unfold pid; omega), SubB.ptr (by have := hnz; unfold pid; omega), SubB.ptr (by have := hnz; unfold pid; omega), SubB.ptr (by have := hnz; unfold pid; omega), SubB.ptr (by have := hnz; unfold pid; omega), SubB.ptr (by have := hnz; unfold pid; omega), SubB.ptr (by have := hnz; unfold pid; omega)⟩
      have ek : k = n2 := by omega
      subst ek
      clear g1 hk
      (try simp only[↓jr,jw,seval,ji,ext_ext,pid_pid,hnz])
      refine JCs.use (s_WrongW hG b hb hf i hok _) ?_
      rintro o3 j3 (⟨tok3, y3, rfl, rfl⟩ | ⟨n3, off3, N3, ty3, y3, hn3, hle3, rfl, rfl⟩)
      · (try simp only[↓jr,jw,seval,ji,ext_ext,pid_pid,hnz])
        refine JLOOP.of (σ := Nat) (fun k => k = 0) (fun k => k) (fun k => [(83, I64 0), (82, I64 0), (18, .sl .none 0 []), (4, .ptr (pid j.next 0) 0), (5, .ptr (pid j.next 1) 0), (6, .ptr (pid j.next 2) 0), (9, .ptr (pid j.next 3) 0), (10, .ptr (pid j.next 4) 0), (11, .ptr (pid j.next 5) 0)]) (fun k => ext jz [.cells 66 b.enc, .cells 44 c.enc, .cells 29 i.enc, .cells 66 b.enc, .cells 44 c.enc, .cells 29 i.enc, .cells ty2 (List.replicate N2 .any)]) 0 rfl ?_ (JDropH.refl _) ?_
        · (try simp only[↓jr,jw,seval,ji,ext_ext,pid_pid,DL,hnz])
          exact ⟨SubB.v, SubB.v, SubB.sl rfl True.intro, SubB.ptr (by have := hnz; unfold pid; omega), SubB.ptr (by have := hnz; unfold pid; omega), SubB.ptr (by have := hnz; unfold pid; omega), SubB.ptr (by have := hnz; unfold pid; omega), SubB.ptr (by have := hnz; unfold pid; omega), SubB.ptr (by have := hnz; unfold pid; omega)⟩
        rintro k rfl
        (try simp only[↓jr,jw,seval,ji,ext_ext,pid_pid,hnz])
        refine JCs.ret (s_Models b hb hf i hok _) ?_
        (try simp only[↓jr,jw,seval,ji,ext_ext,pid_pid,hnz])
        refine JCs.ret (s_True b hb hf i hok 0 _) ?_
        (try simp only[↓jr,jw,seval,ji,ext_ext,pid_pid,hnz])
        refine JCs.ret (s_Included b.nms hb.nms hb.short i hok c c hc hb1 hc hb1 _) ?_
        (try simp only[↓jr,jw,seval,ji,ext_ext,pid_pid,hnz])
        refine JCs.ret (s_bSame b hb q1 q2 q3 q4 q5 q6 q7 _) ?_
        (try simp only[↓jr,jw,seval,ji,ext_ext,pid_pid,hnz])
        refine JCs.ret (s_rSame1 c hc _) ?_
        (try simp only[↓jr,jw,seval,ji,ext_ext,pid_pid,hnz])
        refine JCs.ret (s_iSame i hok q8 q9 q10 q11 q12 _) ?_
        (try simp only[↓jr,jw,seval,ji,ext_ext,pid_pid,hnz])
        refine JCs.ret (aw _) ?_
        (try simp only[↓jr,jw,seval,ji,ext_ext,pid_pid,hnz])
        exact JFIN.ret (JDropH.back ht).of_ext SubB.v
      · rw [ext_push]
        (try simp only[↓jr,jw,seval,ji,ext_ext,pid_pid,hnz])
        refine JLOOP.of (σ := Nat) (fun k => k ≤ n3) (fun k => n3 - k) (fun k => [(83, I64 k), (82, I64 n3), (18, .arr (pid j.next 7) off3 n3), (4, .ptr (pid j.next 0) 0), (5, .ptr (pid j.next 1) 0), (6, .ptr (pid j.next 2) 0), (9, .ptr (pid j.next 3) 0), (10, .ptr (pid j.next 4) 0), (11, .ptr (pid j.next 5) 0)]) (fun k => ext jz [.cells 66 b.enc, .cells 44 c.enc, .cells 29 i.enc, .cells 66 b.enc, .cells 44 c.enc, .cells 29 i.enc, .cells ty2 (List.replicate N2 .any), .cells ty3 (List.replicate N3 .any)]) 0 (Nat.zero_le _) ?_ (JDropH.refl _) ?_
        · (try simp only[↓jr,jw,seval,ji,ext_ext,pid_pid,DL,hnz])
          exact ⟨SubB.v, SubB.v, SubB.arr (by have := hnz; unfold pid; omega), SubB.ptr (by have := hnz; unfold pid; omega), SubB.ptr (by have := hnz; unfold pid; omega), SubB.ptr (by have := hnz; unfold pid; omega), SubB.ptr (by have := hnz; unfold pid; omega), SubB.ptr (by have := hnz; unfold pid; omega), SubB.ptr (by have := hnz; unfold pid; omega)⟩
        intro k hk
        (try simp only[↓jr,jw,seval,ji,ext_ext,pid_pid,hnz])
        refine wq.intro (fun g1 => ?_) (fun g1 => ?_)
        · (try simp only[↓jr,jw,seval,ji,ext_ext,pid_pid,hnz])
          refine wc.intro (by omega) ?_
          (try simp only[↓jr,jw,seval,ji,ext_ext,pid_pid,hnz])
          refine wc.intro (by simp only [List.length_replicate]; omega) ?_
          (try simp only[↓jr,jw,seval,ji,ext_ext,pid_pid,hnz])
          refine wc.intro (by unfold R64; omega) ?_
          (try simp only[↓jr,jw,seval,ji,ext_ext,pid_pid,hnz])
          refine JNEXT.of (k + 1) (by omega) (by omega) ?_ (JDropH.next0 (TokExt.refl _) ⟨.inl ⟨rfl, rfl⟩, .inl ⟨rfl, rfl⟩, .inl ⟨rfl, rfl⟩, .inl ⟨rfl, rfl⟩, .inl ⟨rfl, rfl⟩, .inl ⟨rfl, rfl⟩, .inl ⟨rfl, rfl⟩, .inr ⟨rfl, subs_anys (by simp [splice]; omega)⟩, True.intro⟩)
          (try simp only[↓jr,jw,seval,ji,ext_ext,pid_pid,DL,hnz])
          exact ⟨SubB.v, SubB.v, SubB.arr (by have := hnz; unfold pid; omega), SubB.ptr (by have := hnz; unfold pid; omega), SubB.ptr (by have := hnz; unfold pid; omega), SubB.ptr (by have := hnz; unfold pid; omega), SubB.ptr (by have := hnz; unfold pid; omega), SubB.ptr (by have := hnz; unfold pid; omega), SubB.ptr (by have := hnz; unfold pid; omega)⟩
        have ek : k = n3 := by omega
        subst ek
        clear g1 hk
        (try simp only[↓jr,jw,seval,ji,ext_ext,pid_pid,hnz])
        refine JCs.ret (s_Models b hb hf i hok _) ?_
        (try simp only[↓jr,jw,seval,ji,ext_ext,pid_pid,hnz])
        refine JCs.ret (s_True b hb hf i hok 0 _) ?_
        (try simp only[↓jr,jw,seval,ji,ext_ext,pid_pid,hnz])
        refine JCs.ret (s_Included b.nms hb.nms hb.short i hok c c hc hb1 hc hb1 _) ?_
        (try simp only[↓jr,jw,seval,ji,ext_ext,pid_pid,hnz])
        refine JCs.ret (s_bSame b hb q1 q2 q3 q4 q5 q6 q7 _) ?_
        (try simp only[↓jr,jw,seval,ji,ext_ext,pid_pid,hnz])
        refine JCs.ret (s_rSame1 c hc _) ?_
        (try simp only[↓jr,jw,seval,ji,ext_ext,pid_pid,hnz])
        refine JCs.ret (s_iSame i hok q8 q9 q10 q11 q12 _) ?_
        (try simp only[↓jr,jw,seval,ji,ext_ext,pid_pid,hnz])
        refine JCs.ret (aw _) ?_
        (try simp only[↓jr,jw,seval,ji,ext_ext,pid_pid,hnz])
        exact JFIN.ret (JDropH.back ht).of_ext SubB.v
  · rw [ext_push]
    (try simp only[↓jr,jw,seval,ji,ext_ext,pid_pid,hnz])
    refine JLOOP.of (σ := Nat) (fun k => k ≤ n1) (fun k => n1 - k) (fun k => [(50, I64 k), (49, I64 n1), (12, .arr (pid j.next 6) off1 n1), (3, I64 r), (4, .ptr (pid j.next 0) 0), (5, .ptr (pid j.next 1) 0), (6, .ptr (pid j.next 2) 0), (9, .ptr (pid j.next 3) 0), (10, .ptr (pid j.next 4) 0), (11, .ptr (pid j.next 5) 0)]) (fun k => ext jz [.cells 66 b.enc, .cells 44 c.enc, .cells 29 i.enc, .cells 66 b.enc, .cells 44 c.enc, .cells 29 i.enc, .cells ty1 (List.replicate N1 .any)]) 0 (Nat.zero_le _) ?_ (JDropH.refl _) ?_
    · (try simp only[↓jr,jw,seval,ji,ext_ext,pid_pid,DL,hnz])
      exact ⟨SubB.v, SubB.v, SubB.arr (by have := hnz; unfold pid; omega), SubB.v, SubB.ptr (by have := hnz; unfold pid; omega), SubB.ptr (by have := hnz; unfold pid; omega), SubB.ptr (by have := hnz; unfold pid; omega), SubB.ptr (by have := hnz; unfold pid; omega), SubB.ptr (by have := hnz; unfold pid; omega), SubB.ptr (by have := hnz; unfold pid; omega)⟩
    intro k hk
    (try simp only[↓jr,jw,seval,ji,ext_ext,pid_pid,hnz])
    refine wq.intro (fun g1 => ?_) (fun g1 => ?_)
    · (try simp only[↓jr,jw,seval,ji,ext_ext,pid_pid,hnz])
      refine wc.intro (by omega) ?_
      (try simp only[↓jr,jw,seval,ji,ext_ext,pid_pid,hnz])
      refine wc.intro (by simp only [List.length_replicate]; omega) ?_
      (try simp only[↓jr,jw,seval,ji,ext_ext,pid_pid,hnz])
      refine wc.intro (by unfold R64; omega) ?_
      (try simp only[↓jr,jw,seval,ji,ext_ext,pid_pid,hnz])
      refine JNEXT.of (k + 1) (by omega) (by omega) ?_ (JDropH.next0 (TokExt.refl _) ⟨.inl ⟨rfl, rfl⟩, .inl ⟨rfl, rfl⟩, .inl ⟨rfl, rfl⟩, .inl ⟨rfl, rfl⟩, .inl ⟨rfl, rfl⟩, .inl ⟨rfl, rfl⟩, .inr ⟨rfl, subs_anys (by simp [splice]; omega)⟩, True.intro⟩)
      (try simp only[↓jr,jw,seval,ji,ext_ext,pid_pid,DL,hnz])
      exact ⟨SubB.v, SubB.v, SubB.arr (by have := hnz; unfold pid; omega), SubB.v, SubB.ptr (by have := hnz; unfold pid; omega), SubB.ptr (by have := hnz; unfold pid; omega), SubB.ptr (by have := hnz; unfold pid; omega), SubB.ptr (by have := hnz; unfold pid; omega), SubB.ptr (by have := hnz; unfold pid; omega), SubB.ptr (by have := hnz; unfold pid; omega)⟩
    have ek : k = n1 := by omega
    subst ek
    clear g1 hk
    (try simp only[↓jr,jw,seval,ji,ext_ext,pid_pid,hnz])
    refine JCs.use (s_PairsW hG b.nms hb.nms hb.short i hok r _) ?_
    rintro o2 j2 (⟨tok2, y2, rfl, rfl⟩ | ⟨n2, off2, N2, ty2, y2, hn2, hle2, rfl, rfl⟩)
    · (try simp only[↓jr,jw,seval,ji,ext_ext,pid_pid,hnz])
      refine JLOOP.of (σ := Nat) (fun k => k = 0) (fun k => k) (fun k => [(67, I64 0), (66, I64 0), (15, .sl .none 0 []), (4, .ptr (pid j.next 0) 0), (5, .ptr (pid j.next 1) 0), (6, .ptr (pid j.next 2) 0), (9, .ptr (pid j.next 3) 0), (10, .ptr (pid j.next 4) 0), (11, .ptr (pid j.next 5) 0)]) (fun k => ext jz [.cells 66 b.enc, .cells 44 c.enc, .cells 29 i.enc, .cells 66 b.enc, .cells 44 c.enc, .cells 29 i.enc, .cells ty1 (List.replicate N1 .any)]) 0 rfl ?_ (JDropH.refl _) ?_
      · (try simp only[↓jr,jw,seval,ji,ext_ext,pid_pid,DL,hnz])
        exact ⟨SubB.v, SubB.v, SubB.sl rfl True.intro, SubB.ptr (by have := hnz; unfold pid; omega), SubB.ptr (by have := hnz; unfold pid; omega), SubB.ptr (by have := hnz; unfold pid; omega), SubB.ptr (by have := hnz; unfold pid; omega), SubB.ptr (by have := hnz; unfold pid; omega), SubB.ptr (by have := hnz; unfold pid; omega)⟩
      rintro k rfl
      (try simp only[↓jr,jw,seval,ji,ext_ext,pid_pid,hnz])
      refine JCs.use (s_WrongW hG b hb hf i hok _) ?_
      rintro o3 j3 (⟨tok3, y3, rfl, rfl⟩ | ⟨n3, off3, N3, ty3, y3, hn3, hle3, rfl, rfl⟩)
      · (try simp only[↓jr,jw,seval,ji,ext_ext,pid_pid,hnz])
        refine JLOOP.of (σ := Nat) (fun k => k = 0) (fun k => k) (fun k => [(83, I64 0), (82, I64 0), (18, .sl .none 0 []), (4, .ptr (pid j.next 0) 0), (5, .ptr (pid j.next 1) 0), (6, .ptr (pid j.next 2) 0), (9, .ptr (pid j.next 3) 0), (10, .ptr (pid j.next 4) 0), (11, .ptr (pid j.next 5) 0)]) (fun k => ext jz [.cells 66 b.enc, .cells 44 c.enc, .cells 29 i.enc, .cells 66 b.enc, .cells 44 c.enc, .cells 29 i.enc, .cells ty1 (List.replicate N1 .any)]) 0 rfl ?_ (JDropH.refl _) ?_
        · (try simp only[↓jr,jw,seval,ji,ext_ext,pid_pid,DL,hnz])
          exact ⟨SubB.v, SubB.v, SubB.sl rfl True.intro, SubB.ptr (by have := hnz; unfold pid; omega), SubB.ptr (by have := hnz; unfold pid; omega), SubB.ptr (by have := hnz; unfold pid; omega), SubB.ptr (by have := hnz; unfold pid; omega), SubB.ptr (by have := hnz; unfold pid; omega), SubB.ptr (by have := hnz; unfold pid; omega)⟩
        rintro k rfl
        (try simp only[↓jr,jw,seval,ji,ext_ext,pid_pid,hnz])
        refine JCs.ret (s_Models b hb hf i hok _) ?_
        (try simp only[↓jr,jw,seval,ji,ext_ext,pid_pid,hnz])
        refine JCs.ret (s_True b hb hf i hok 0 _) ?_
        (try simp only[↓jr,jw,seval,ji,ext_ext,pid_pid,hnz])
        refine JCs.ret (s_Included b.nms hb.nms hb.short i hok c c hc hb1 hc hb1 _) ?_
        (try simp only[↓jr,jw,seval,ji,ext_ext,pid_pid,hnz])
        refine JCs.ret (s_bSame b hb q1 q2 q3 q4 q5 q6 q7 _) ?_
        (try simp only[↓jr,jw,seval,ji,ext_ext,pid_pid,hnz])
        refine JCs.ret (s_rSame1 c hc _) ?_
        (try simp only[↓jr,jw,seval,ji,ext_ext,pid_pid,hnz])
        refine JCs.ret (s_iSame i hok q8 q9 q10 q11 q12 _) ?_
        (try simp only[↓jr,jw,seval,ji,ext_ext,pid_pid,hnz])
        refine JCs.ret (aw _) ?_
        (try simp only[↓jr,jw,seval,ji,ext_ext,pid_pid,hnz])
        exact JFIN.ret (JDropH.back ht).of_ext SubB.v
      · rw [ext_push]
        (try simp only[↓jr,jw,seval,ji,ext_ext,pid_pid,hnz])
        refine JLOOP.of (σ := Nat) (fun k => k ≤ n3) (fun k => n3 - k) (fun k => [(83, I64 k), (82, I64 n3), (18, .arr (pid j.next 7) off3 n3), (4, .ptr (pid j.next 0) 0), (5, .ptr (pid j.next 1) 0), (6, .ptr (pid j.next 2) 0), (9, .ptr (pid j.next 3) 0), (10, .ptr (pid j.next 4) 0), (11, .ptr (pid j.next 5) 0)]) (fun k => ext jz [.cells 66 b.enc, .cells 44 c.enc, .cells 29 i.enc, .cells 66 b.enc, .cells 44 c.enc, .cells 29 i.enc, .cells ty1 (List.replicate N1 .any), .cells ty3 (List.replicate N3 .any)]) 0 (Nat.zero_le _) ?_ (JDropH.refl _) ?_
        · (try simp only[↓jr,jw,seval,ji,ext_ext,pid_pid,DL,hnz])
          exact ⟨SubB.v, SubB.v, SubB.arr (by have := hnz; unfold pid; omega), SubB.ptr (by have := hnz; unfold pid; omega), SubB.ptr (by have := hnz; unfold pid; omega), SubB.ptr (by have := hnz; unfold pid; omega), SubB.ptr (by have := hnz; unfold pid; omega), SubB.ptr (by have := hnz; unfold pid; omega), SubB.ptr (by have := hnz; unfold pid; omega)⟩
        intro k hk
        (try simp only[↓jr,jw,seval,ji,ext_ext,pid_pid,hnz])
        refine wq.intro (fun g1 => ?_) (fun g1 => ?_)
        · (try simp only[↓jr,jw,seval,ji,ext_ext,pid_pid,hnz])
          refine wc.intro (by omega) ?_
          (try simp only[↓jr,jw,seval,ji,ext_ext,pid_pid,hnz])
          refine wc.intro (by simp only [List.length_replicate]; omega) ?_
          (try simp only[↓jr,jw,seval,ji,ext_ext,pid_pid,hnz])
          refine wc.intro (by unfold R64; omega) ?_
          (try simp only[↓jr,jw,seval,ji,ext_ext,pid_pid,hnz])
          refine JNEXT.of (k + 1) (by omega) (by omega) ?_ (JDropH.next0 (TokExt.refl _) ⟨.inl ⟨rfl, rfl⟩, .inl ⟨rfl, rfl⟩, .inl ⟨rfl, rfl⟩, .inl ⟨rfl, rfl⟩, .inl ⟨rfl, rfl⟩, .inl ⟨rfl, rfl⟩, .inl ⟨rfl, rfl⟩, .inr ⟨rfl, subs_anys (by simp [splice]; omega)⟩, True.intro⟩)
          (try simp only[↓jr,jw,seval,ji,ext_ext,pid_pid,DL,hnz])
          exact ⟨SubB.v, SubB.v, SubB.arr (by have := hnz; unfold pid; omega), SubB.ptr (by have := hnz; unfold pid; omega), SubB.ptr (by have := hnz; unfold pid; omega), SubB.ptr (by have := hnz; unfold pid; omega), SubB.ptr (by have := hnz; unfold pid; omega), SubB.ptr (by have := hnz; unfold pid; omega), SubB.ptr (by have := hnz; unfold pid; omega)⟩
        have ek : k = n3 := by omega
        subst ek
        clear g1 hk
        (try simp only[↓jr,jw,seval,ji,ext_ext,pid_pid,hnz])
        refine JCs.ret (s_Models b hb hf i hok _) ?_
        (try simp only[↓jr,jw,seval,ji,ext_ext,pid_pid,hnz])
        refine JCs.ret (s_True b hb hf i hok 0 _) ?_
        (try simp only[↓jr,jw,seval,ji,ext_ext,pid_pid,hnz])
        refine JCs.ret (s_Included b.nms hb.nms hb.short i hok c c hc hb1 hc hb1 _) ?_
        (try simp only[↓jr,jw,seval,ji,ext_ext,pid_pid,hnz])
        refine JCs.ret (s_bSame b hb q1 q2 q3 q4 q5 q6 q7 _) ?_
        (try simp only[↓jr,jw,seval,ji,ext_ext,pid_pid,hnz])
        refine JCs.ret (s_rSame1 c hc _) ?_
        (try simp only[↓jr,jw,seval,ji,ext_ext,pid_pid,hnz])
        refine JCs.ret (s_iSame i hok q8 q9 q10 q11 q12 _) ?_
        (try simp only[↓jr,jw,seval,ji,ext_ext,pid_pid,hnz])
        refine JCs.ret (aw _) ?_
        (try simp only[↓jr,jw,seval,ji,ext_ext,pid_pid,hnz])
        exact JFIN.ret (JDropH.back ht).of_ext SubB.v
    · rw [ext_push]
      (try simp only[↓jr,jw,seval,ji,ext_ext,pid_pid,hnz])
      refine JLOOP.of (σ := Nat) (fun k => k ≤ n2) (fun k => n2 - k) (fun k => [(67, I64 k), (66, I64 n2), (15, .arr (pid j.next 7) off2 n2), (4, .ptr (pid j.next 0) 0), (5, .ptr (pid j.next 1) 0), (6, .ptr (pid j.next 2) 0), (9, .ptr (pid j.next 3) 0), (10, .ptr (pid j.next 4) 0), (11, .ptr (pid j.next 5) 0)]) (fun k => ext jz [.cells 66 b.enc, .cells 44 c.enc, .cells 29 i.enc, .cells 66 b.enc, .cells 44 c.enc, .cells 29 i.enc, .cells ty1 (List.replicate N1 .any), .cells ty2 (List.replicate N2 .any)]) 0 (Nat.zero_le _) ?_ (JDropH.refl _) ?_
      · (try simp only[↓jr,jw,seval,ji,ext_ext,pid_pid,DL,hnz])
        exact ⟨SubB.v, SubB.v, SubB.arr (by have := hnz; unfold pid; omega), SubB.ptr (by have := hnz; unfold pid; omega), SubB.ptr (by have := hnz; unfold pid; omega), SubB.ptr (by have := hnz; unfold pid; omega), SubB.ptr (by have := hnz; unfold pid; omega), SubB.ptr (by have := hnz; unfold pid; omega), SubB.ptr (by have := hnz; unfold pid; omega)⟩
      intro k hk
      (try simp only[↓jr,jw,seval,ji,ext_ext,pid_pid,hnz])
      refine wq.intro (fun g1 => ?_) (fun g1 => ?_)
      · (try simp only[↓jr,jw,seval,ji,ext_ext,pid_pid,hnz])
        refine wc.intro (by omega) ?_
        (try simp only[↓jr,jw,seval,ji,ext_ext,pid_pid,hnz])
        refine wc.intro (by simp only [List.length_replicate]; omega) ?_
        (try simp only[↓jr,jw,seval,ji,ext_ext,pid_pid,hnz])
        refine wc.intro (by unfold R64; omega) ?_
        (try simp only[↓jr,jw,seval,ji,ext_ext,pid_pid,hnz])
        refine JNEXT.of (k + 1) (by omega) (by omega) ?_ (JDropH.next0 (TokExt.refl _) ⟨.inl ⟨rfl, rfl⟩, .inl ⟨rfl, rfl⟩, .inl ⟨rfl, rfl⟩, .inl ⟨rfl, rfl⟩, .inl ⟨rfl, rfl⟩, .inl ⟨rfl, rfl⟩, .inl ⟨rfl, rfl⟩, .inr ⟨rfl, subs_anys (by simp [splice]; omega)⟩, True.intro⟩)
        (try simp only[↓jr,jw,seval,ji,ext_ext,pid_pid,DL,hnz])
        exact ⟨SubB.v, SubB.v, SubB.arr (by have := hnz; unfold pid; omega), SubB.ptr (by have := hnz; unfold pid; omega), SubB.ptr (by have := hnz; unfold pid; omega), SubB.ptr (by have := hnz; unfold pid; omega), SubB.ptr (by have := hnz; unfold pid; omega), SubB.ptr (by have := hnz; unfold pid; omega), SubB.ptr (by have := hnz; unfold pid; omega)⟩
      have ek : k = n2 := by omega
      subst ek
      clear g1 hk
      (try simp only[↓jr,jw,seval,ji,ext_ext,pid_pid,hnz])
      refine JCs.use (s_WrongW hG b hb hf i hok _) ?_
      rintro o3 j3 (⟨tok3, y3, rfl, rfl⟩ | ⟨n3, off3, N3, ty3, y3, hn3, hle3, rfl, rfl⟩)
      · (try simp only[↓jr,jw,seval,ji,ext_ext,pid_pid,hnz])
        refine JLOOP.of (σ := Nat) (fun k => k = 0) (fun k => k) (fun k => [(83, I64 0), (82, I64 0), (18, .sl .none 0 []), (4, .ptr (pid j.next 0) 0), (5, .ptr (pid j.next 1) 0), (6, .ptr (pid j.next 2) 0), (9, .ptr (pid j.next 3) 0), (10, .ptr (pid j.next 4) 0), (11, .ptr (pid j.next 5) 0)]) (fun k => ext jz [.cells 66 b.enc, .cells 44 c.enc, .cells 29 i.enc, .cells 66 b.enc, .cells 44 c.enc, .cells 29 i.enc, .cells ty1 (List.replicate N1 .any), .cells ty2 (List.replicate N2 .any)]) 0 rfl ?_ (JDropH.refl _) ?_
        · (try simp only[↓jr,jw,seval,ji,ext_ext,pid_pid,DL,hnz])
          exact ⟨SubB.v, SubB.v, SubB.sl rfl True.intro, SubB.ptr (by have := hnz; unfold pid; omega), SubB.ptr (by have := hnz; unfold pid; omega), SubB.ptr (by have := hnz; unfold pid; omega), SubB.ptr (by have := hnz; unfold pid; omega), SubB.ptr (by have := hnz; unfold pid; omega), SubB.ptr (by have := hnz; unfold pid; omega)⟩
        rintro k rfl
        (try simp only[↓jr,jw,seval,ji,ext_ext,pid_pid,hnz])
        refine JCs.ret (s_Models b hb hf i hok _) ?_
        (try simp only[↓jr,jw,seval,ji,ext_ext,pid_pid,hnz])
        refine JCs.ret (s_True b hb hf i hok 0 _) ?_
        (try simp only[↓jr,jw,seval,ji,ext_ext,pid_pid,hnz])
        refine JCs.ret (s_Included b.nms hb.nms hb.short i hok c c hc hb1 hc hb1 _) ?_
        (try simp only[↓jr,jw,seval,ji,ext_ext,pid_pid,hnz])
        refine JCs.ret (s_bSame b hb q1 q2 q3 q4 q5 q6 q7 _) ?_
        (try simp only[↓jr,jw,seval,ji,ext_ext,pid_pid,hnz])
        refine JCs.ret (s_rSame1 c hc _) ?_
        (try simp only[↓jr,jw,seval,ji,ext_ext,pid_pid,hnz])
        refine JCs.ret (s_iSame i hok q8 q9 q10 q11 q12 _) ?_
        (try simp only[↓jr,jw,seval,ji,ext_ext,pid_pid,hnz])
        refine JCs.ret (aw _) ?_
        (try simp only[↓jr,jw,seval,ji,ext_ext,pid_pid,hnz])
        exact JFIN.ret (JDropH.back ht).of_ext SubB.v
      · rw [ext_push]
        (try simp only[↓jr,jw,seval,ji,ext_ext,pid_pid,hnz])
        refine JLOOP.of (σ := Nat) (fun k => k ≤ n3) (fun k => n3 - k) (fun k => [(83, I64 k), (82, I64 n3), (18, .arr (pid j.next 8) off3 n3), (4, .ptr (pid j.next 0) 0), (5, .ptr (pid j.next 1) 0), (6, .ptr (pid j.next 2) 0), (9, .ptr (pid j.next 3) 0), (10, .ptr (pid j.next 4) 0), (11, .ptr (pid j.next 5) 0)]) (fun k => ext jz [.cells 66 b.enc, .cells 44 c.enc, .cells 29 i.enc, .cells 66 b.enc, .cells 44 c.enc, .cells 29 i.enc, .cells ty1 (List.replicate N1 .any), .cells ty2 (List.replicate N2 .any), .cells ty3 (List.replicate N3 .any)]) 0 (Nat.zero_le _) ?_ (JDropH.refl _) ?_
        · (try simp only[↓jr,jw,seval,ji,ext_ext,pid_pid,DL,hnz])
          exact ⟨SubB.v, SubB.v, SubB.arr (by have := hnz; unfold pid; omega), SubB.ptr (by have := hnz; unfold pid; omega), SubB.ptr (by have := hnz; unfold pid; omega), SubB.ptr (by have := hnz; unfold pid; omega), SubB.ptr (by have := hnz; unfold pid; omega), SubB.ptr (by have := hnz; unfold pid; omega), SubB.ptr (by have := hnz; unfold pid; omega)⟩
        intro k hk
        (try simp only[↓jr,jw,seval,ji,ext_ext,pid_pid,hnz])
        refine wq.intro (fun g1 => ?_) (fun g1 => ?_)
        · (try simp only[↓jr,jw,seval,ji,ext_ext,pid_pid,hnz])
          refine wc.intro (by omega) ?_
          (try simp only[↓jr,jw,seval,ji,ext_ext,pid_pid,hnz])
          refine wc.intro (by simp only [List.length_replicate]; omega) ?_
          (try simp only[↓jr,jw,seval,ji,ext_ext,pid_pid,hnz])
          refine wc.intro (by unfold R64; omega) ?_
          (try simp only[↓jr,jw,seval,ji,ext_ext,pid_pid,hnz])
          refine JNEXT.of (k + 1) (by omega) (by omega) ?_ (JDropH.next0 (TokExt.refl _) ⟨.inl ⟨rfl, rfl⟩, .inl ⟨rfl, rfl⟩, .inl ⟨rfl, rfl⟩, .inl ⟨rfl, rfl⟩, .inl ⟨rfl, rfl⟩, .inl ⟨rfl, rfl⟩, .inl ⟨rfl, rfl⟩, .inl ⟨rfl, rfl⟩, .inr ⟨rfl, subs_anys (by simp [splice]; omega)⟩, True.intro⟩)
          (try simp only[↓jr,jw,seval,ji,ext_ext,pid_pid,DL,hnz])
          exact ⟨SubB.v, SubB.v, SubB.arr (by have := hnz; unfold pid; omega), SubB.ptr (by have := hnz; unfold pid; omega), SubB.ptr (by have := hnz; unfold pid; omega), SubB.ptr (by have := hnz; unfold pid; omega), SubB.ptr (by have := hnz; unfold pid; omega), SubB.ptr (by have := hnz; unfold pid; omega), SubB.ptr (by have := hnz; unfold pid; omega)⟩
        have ek : k = n3 := by omega
        subst ek
        clear g1 hk
        (try simp only[↓jr,jw,seval,ji,ext_ext,pid_pid,hnz])
        refine JCs.ret (s_Models b hb hf i hok _) ?_
        (try simp only[↓jr,jw,seval,ji,ext_ext,pid_pid,hnz])
        refine JCs.ret (s_True b hb hf i hok 0 _) ?_
        (try simp only[↓jr,jw,seval,ji,ext_ext,pid_pid,hnz])
        refine JCs.ret (s_Included b.nms hb.nms hb.short i hok c c hc hb1 hc hb1 _) ?_
        (try simp only[↓jr,jw,seval,ji,ext_ext,pid_pid,hnz])
        refine JCs.ret (s_bSame b hb q1 q2 q3 q4 q5 q6 q7 _) ?_
        (try simp only[↓jr,jw,seval,ji,ext_ext,pid_pid,hnz])
        refine JCs.ret (s_rSame1 c hc _) ?_
        (try simp only[↓jr,jw,seval,ji,ext_ext,pid_pid,hnz])
        refine JCs.ret (s_iSame i hok q8 q9 q10 q11 q12 _) ?_
        (try simp only[↓jr,jw,seval,ji,ext_ext,pid_pid,hnz])
        refine JCs.ret (aw _) ?_
        (try simp only[↓jr,jw,seval,ji,ext_ext,pid_pid,hnz])
        exact JFIN.ret (JDropH.back ht).of_ext SubB.v
end
end Go.Proofs.YtnkkeenclhncmaaDoor.Pg
