/-
  The statements about forms and normal forms.
-/
import Derived.Test.YtcajjicdbphkpaaDoorQc
set_option linter.unusedVariables false
set_option linter.unusedSimpArgs false
set_option maxRecDepth 100000
set_option maxHeartbeats 8000000
namespace Go.Proofs.YtcajjicdbphkpaaDoor.Pg
open Go
theorem R64_dual (o : Int) : R64 (dualI o) := by
  unfold dualI R64
  repeat' split
  all_goals omega
theorem nnf_ok : ∀ (c : Con) (no : Bool), c.ok → (nnf c no).ok ∧ (nnf c no).nodes ≤ 2 * c.nodes := by
  intro c
  induction c using Con.ind with
  | h o n l ih =>
  intro no h
  simp only [Con.ok] at h
  obtain ⟨h1, h2, h3, h4⟩ := h
  have hz : R64 0 := by unfold R64; omega
  by_cases g1 : o = 0
  · subst g1
    cases no
    · simp only [nnf, if_true, Bool.false_eq_true, if_false, Con.ok, Con.nodes, Con.nodesL, Con.oks, List.length_nil]; exact ⟨⟨hz, h2, by omega, trivial⟩, by omega⟩
    · have h3' : R64 3 := by unfold R64; omega
      simp only [nnf, if_true, Con.ok, Con.nodes, Con.nodesL, Con.oks, List.length_nil, List.length_cons]; exact ⟨⟨h3', hz, by omega, ⟨hz, h2, by omega, trivial⟩, trivial⟩, by omega⟩
  by_cases g3 : o = 3
  · subst g3
    simp only [nnf, if_neg g1, if_true]
    cases l with
    | nil => simp only [nnfH, Con.ok, Con.nodes, Con.nodesL, Con.oks, List.length_nil]; exact ⟨⟨hz, hz, by omega, trivial⟩, by omega⟩
    | cons c r =>
      obtain ⟨i1, i2⟩ := ih c (by simp) (!no) (Con.oks_mem h4 (by simp))
      simp only [nnfH, Con.nodes, Con.nodesL]
      exact ⟨i1, by omega⟩
  rw [nnf_mk g1 g3]
  have aux : ∀ r : List Con, (∀ c ∈ r, c ∈ l) → Con.oks r → Con.oks (nnfs r no) ∧ Con.nodesL (nnfs r no) ≤ 2 * Con.nodesL r := by
    intro r
    induction r with
    | nil => intro _ _; simp [nnfs, Con.oks, Con.nodesL]
    | cons c r ihr =>
      intro hm hk
      simp only [Con.oks] at hk
      obtain ⟨a1, a2⟩ := ihr (fun d hd => hm d (by simp [hd])) hk.2
      obtain ⟨b1, b2⟩ := ih c (hm c (by simp)) no hk.1
      simp only [nnfs, Con.oks, Con.nodesL]
      exact ⟨⟨b1, a1⟩, by omega⟩
  obtain ⟨a1, a2⟩ := aux l (fun _ h => h) h4
  simp only [Con.ok, Con.nodes]
  refine ⟨⟨?_, h2, by rw [nnfs_len]; exact h3, a1⟩, by omega⟩
  split
  · exact R64_dual o
  · exact h1
theorem arity_dual {o : Int} (h0 : 0 ≤ o) (h7 : o ≤ 7) (g1 : ¬ o = 0) (g3 : ¬ o = 3) : arity (dualI o) = arity o ∧ quant (dualI o) = quant o ∧ dualI o ≠ 0 := by
  have e : o = 1 ∨ o = 2 ∨ o = 4 ∨ o = 5 ∨ o = 6 ∨ o = 7 := by omega
  rcases e with rfl | rfl | rfl | rfl | rfl | rfl <;> decide
theorem shaped_nnf {nc nr : Nat} : ∀ (c : Con) (no : Bool), shaped nc nr c = true → shaped nc nr (nnf c no) = true := by
  intro c
  induction c using Con.ind with
  | h o n l ih =>
  intro no h
  obtain ⟨⟨h1, h2, h3, h4, h5⟩, h6⟩ : SH nc nr o n l.length ∧ shapedL nc nr l = true := by rw [← shaped_mk]; exact h
  have har := arity_in h1
  by_cases g1 : o = 0
  · subst g1
    have h0 : shaped nc nr (.mk 0 n []) = true := by
      rw [shaped_mk]
      exact ⟨⟨rfl, h2, h3, fun q => absurd rfl q, fun q => absurd rfl q⟩, rfl⟩
    cases no
    · simpa only [nnf, if_true, Bool.false_eq_true, if_false] using h0
    · simp only [nnf, if_true]
      rw [shaped_mk]
      exact ⟨⟨rfl, by omega, fun q => by omega, fun _ q => by simp [quant] at q, fun _ _ => rfl⟩, by simp only [shapedL, h0, Bool.and_self]⟩
  by_cases g3 : o = 3
  · subst g3
    simp only [nnf, if_neg g1, if_true]
    cases l with
    | nil => simp [arity] at h1
    | cons c r =>
      simp only [nnfH]
      exact ih c (by simp) (!no) (shapedL_mem h6 (by simp))
  rw [nnf_mk g1 g3, shaped_mk]
  have aux : ∀ r : List Con, (∀ c ∈ r, c ∈ l) → shapedL nc nr r = true → shapedL nc nr (nnfs r no) = true := by
    intro r
    induction r with
    | nil => intro _ _; rfl
    | cons c r ihr =>
      intro hm hk
      simp only [shapedL, Bool.and_eq_true] at hk
      simp only [nnfs, shapedL, Bool.and_eq_true]
      exact ⟨ih c (hm c (by simp)) no hk.1, ihr (fun d hd => hm d (by simp [hd])) hk.2⟩
  refine ⟨?_, aux l (fun _ h => h) h6⟩
  obtain ⟨d1, d2, d3⟩ := arity_dual har.1 har.2 g1 g3
  rw [nnfs_len]
  cases no
  · exact ⟨h1, h2, h3, h4, h5⟩
  · exact ⟨d1.trans h1, h2, fun q => absurd q d3, fun _ q => h4 g1 (d2 ▸ q), fun _ q => h5 g1 (d2 ▸ q)⟩
theorem conOK_shaped {n : Nms} {c : Con} (h : conOK n c = true) : shaped n.cs.length n.rs.length c = true ∧ c.nodes ≤ 400 := by
  unfold conOK at h
  simp only [Bool.and_eq_true, decide_eq_true_eq] at h
  exact ⟨h.2, h.1.1⟩
theorem conOK_nnf {n : Nms} {c : Con} {no : Bool} (h : conOK n c = true) : conOK n (nnf c no) = (decide ((nnf c no).nodes ≤ 400) && decide ((nnf c no).depth ≤ 20)) := by
  unfold conOK
  rw [shaped_nnf c no (conOK_shaped h).1, Bool.and_true]
abbrev nilC : Con := .mk 0 0 []
theorem nilC_ok : nilC.ok := by
  have hz : R64 0 := by unfold R64; omega
  exact ⟨hz, hz, by simp, trivial⟩
theorem nilC_sub {no nt : Nat} : SubBs no nt zC nilC.enc := ⟨SubB.v, SubB.v, SubB.sl rfl True.intro, True.intro⟩
def smC (n : Nms) (c : Con) : Con := if conOK n c then c else nilC
def smE (n : Nms) (c : Con) : Int := if conOK n c then 0 else 2
def norC (n : Nms) (c : Con) (no : Bool) : Con := if faultE n c = 0 then smC n (nnf c no) else nilC
def norE (n : Nms) (c : Con) (no : Bool) : Int := if faultE n c = 0 then smE n (nnf c no) else faultE n c
theorem faultE_zero {n : Nms} {c : Con} (h : faultE n c = 0) : conOK n c = true := by
  unfold faultE at h
  repeat' split at h
  all_goals first | assumption | omega
section
variable {m : Int} {G : Nat → Option (List AV)}
theorem s_small (n : Nms) (hn : n.ok) (c : Con) (hc : c.ok) (hb : c.nodes ≤ 4000000000) (j : JH) : JC Tryd.prog (GG m) 53 [.agg n.enc, .agg c.enc] j (RET (.tup [.agg (smC n c).enc, I64 (smE n c)]) j) := by
  refine JC.run hmix c53 (by exact k53) ?_
  (try simp only[↓jr,jw,seval,ir53])
  refine JCs.ret (s_Valid n hn 3 c (pid j.next 3) 400 (ext j [.cells 24 n.enc, .cells 27 c.enc, .cells 27 zC, .cells 3 [I64 400]]) hc (by rw [ext_next]; unfold pid; simp) (by (try simp only[↓jr,jw,seval])) (consOK_bound hb) (by omega)) ?_
  (try simp only[↓jr,jw,seval])
  rw [vld_conOK]
  refine ww.intro (fun h => ?_) (fun h => ?_)
  · (try simp only[↓jr,jw,seval])
    refine JFIN.rb ?_
    unfold smC smE; rw [h]
    exact SubB.tup ⟨SubB.agg (SubBs.pure (Con.pur _)), SubB.v, True.intro⟩
  · (try simp only[↓jr,jw,seval])
    refine JFIN.rb ?_
    unfold smC smE; rw [h]
    exact SubB.tup ⟨SubB.agg nilC_sub, SubB.v, True.intro⟩
theorem s_Normal (n : Nms) (hn : n.ok) (hs : n.short) (c : Con) (hc : c.ok) (hb : c.nodes ≤ 1000000) (j : JH) : JC Tryd.prog (GG m) 18 [.agg n.enc, .agg c.enc] j (RET (.tup [.agg (norC n c false).enc, I64 (norE n c false)]) j) := by
  refine JC.run hmix c18 (by exact k18) ?_
  (try simp only[↓jr,jw,seval,ir18])
  have hf := s_fine (m := m) n hn hs [c] (.own j.tnext 0 3) ⟨hc, trivial⟩ (by simp) (fun d hd => by rw [List.mem_singleton.1 hd]; omega) (ext (j.pushTok 1) [.cells 24 n.enc, .cells 27 c.enc, .cells 27 zC])
  rw [encs_cons, encs_nil, List.append_nil] at hf
  refine JCs.ret hf ?_
  rw [faultE_eq]
  (try simp only[↓jr,jw,seval])
  refine wq.intro (fun h => ?_) (fun h => ?_)
  · (try simp only[↓jr,jw,seval])
    have hk := faultE_zero h
    have hk1 := conOK_shaped hk
    have hk2 := nnf_ok c false hc
    refine JDC.use (s_Nnf n.cs.length n.rs.length c false _ hc hk1.1 hb) ?_
    (try simp only[↓jr,jw,seval])
    refine JDC.use (s_small n hn (nnf c false) hk2.1 (by omega) _) ?_
    (try simp only[↓jr,jw,seval])
    refine JDRAW.oc (by (try simp only[↓jr,jw,seval,jq,qe2,qe3,ext_next,ext_tnext,pushTok_next,List.length_cons,List.length_nil]) <;> (repeat' (first | exact trivial | refine And.intro ?_ ?_ | exact Nat.le_refl _ | omega | (unfold pid; omega)))) ?_
    (try simp only[↓jr,jw,seval])
    refine JFIN.rb ?_
    unfold norC norE; rw [if_pos h, if_pos h]
    exact SubB.tup ⟨SubB.agg (SubBs.pure (Con.pur _)), SubB.v, True.intro⟩
  · (try simp only[↓jr,jw,seval])
    refine JFIN.rb ?_
    unfold norC norE; rw [if_neg h, if_neg h]
    exact SubB.tup ⟨SubB.agg nilC_sub, SubB.v, True.intro⟩
def ir19 : IFn := ⟨21, [⟨4, (some (some 3))⟩, ⟨5, none⟩], (.seq (.reg [oA 2 (.box 24 (.r 0)), oA 3 (.box 27 (.r 1)), oA 4 (.alloc 27 [.v (.int .i64 0), .v (.int .i64 0), .sl .nil 0 []]), oA 5 (.mov (kI 0))]) (.seq (.seq (.reg [oL 7 2 (some 3), oL 8 3 (some 3), oA 9 (.bsl 1 3 [.v (.int .i64 0), .v (.int .i64 0), .sl .nil 0 []] [(0, (3, .r 8))]), oA 10 (.call 35 [.r 7, .r 9]), oA 6 (kM 10)]) (.seq (.reg [oA 11 (kM 6), oA 12 (.bin .neq (.r 11) (kI 0))]) (.cond (.r 12) (.seq (.reg [oA 13 (.build [.v (.int .i64 0), .v (.int .i64 0), .sl .nil 0 []] []), oA 14 (kM 6), oN (.store 3 (.r 4) (.r 13)), oA 5 (kM 14)]) .ret) .skip))) (.seq (.draw [oL 15 2 (some 3), oL 16 3 (some 3), oA 17 (.call 54 [.r 16, .k (.v (.bool true))]), oA 18 (.call 53 [.r 15, .r 17]), oA 19 (.ext (.r 18) 0), oA 20 (.ext (.r 18) 1), oN (.store 3 (.r 4) (.r 19)), oA 5 (kM 20)] [(0, 2)]) .ret)))⟩
theorem c19 : cfunc Tryd.prog 19 = some ir19 := by kernel_rfl
theorem k19 : okIR (max 2 ir19.n) ir19.ir = true := by decide +kernel
theorem s_Not (n : Nms) (hn : n.ok) (hs : n.short) (c : Con) (hc : c.ok) (hb : c.nodes ≤ 1000000) (j : JH) : JC Tryd.prog (GG m) 19 [.agg n.enc, .agg c.enc] j (RET (.tup [.agg (norC n c true).enc, I64 (norE n c true)]) j) := by
  refine JC.run hmix c19 (by exact k19) ?_
  (try simp only[↓jr,jw,seval,ir19])
  have hf := s_fine (m := m) n hn hs [c] (.own j.tnext 0 3) ⟨hc, trivial⟩ (by simp) (fun d hd => by rw [List.mem_singleton.1 hd]; omega) (ext (j.pushTok 1) [.cells 24 n.enc, .cells 27 c.enc, .cells 27 zC])
  rw [encs_cons, encs_nil, List.append_nil] at hf
  refine JCs.ret hf ?_
  rw [faultE_eq]
  (try simp only[↓jr,jw,seval])
  refine wq.intro (fun h => ?_) (fun h => ?_)
  · (try simp only[↓jr,jw,seval])
    have hk := faultE_zero h
    have hk1 := conOK_shaped hk
    have hk2 := nnf_ok c true hc
    refine JDC.use (s_Nnf n.cs.length n.rs.length c true _ hc hk1.1 hb) ?_
    (try simp only[↓jr,jw,seval])
    refine JDC.use (s_small n hn (nnf c true) hk2.1 (by omega) _) ?_
    (try simp only[↓jr,jw,seval])
    refine JDRAW.oc (by (try simp only[↓jr,jw,seval,jq,qe2,qe3,ext_next,ext_tnext,pushTok_next,List.length_cons,List.length_nil]) <;> (repeat' (first | exact trivial | refine And.intro ?_ ?_ | exact Nat.le_refl _ | omega | (unfold pid; omega)))) ?_
    (try simp only[↓jr,jw,seval])
    refine JFIN.rb ?_
    unfold norC norE; rw [if_pos h, if_pos h]
    exact SubB.tup ⟨SubB.agg (SubBs.pure (Con.pur _)), SubB.v, True.intro⟩
  · (try simp only[↓jr,jw,seval])
    refine JFIN.rb ?_
    unfold norC norE; rw [if_neg h, if_neg h]
    exact SubB.tup ⟨SubB.agg nilC_sub, SubB.v, True.intro⟩
def ir20 : IFn := ⟨34, [⟨10, none⟩], (.seq (.reg [oA 5 (.box 24 (.r 0)), oA 6 (.box 27 (.r 1)), oA 8 (.box 27 (.r 3)), oA 10 (.mov (kB false))]) (.seq (.reg [oA 13 (.build [.v (.int .i64 0), .v (.int .i64 0), .sl .nil 0 []] []), oL 14 5 (some 3), oL 15 6 (some 3), oA 16 (.call 12 [.r 14, .r 15]), oA 11 (.alloc 27 [.v (.int .i64 0), .v (.int .i64 0), .sl .nil 0 []]), oN (.store 3 (.r 11) (.r 13)), oA 12 (kM 16)]) (.seq (.seq (.reg [oA 17 (kM 12), oA 18 (.bin .eql (.r 17) (kI 0))]) (.cond (.r 18) (.seq (.reg [oL 19 6 (some 3), oA 20 (kM 2), oA 21 (.call 55 [.r 19, .r 20]), oN (.store 3 (.r 11) (.r 21))]) (.seq (.reg [oL 22 11 (some 3), oT 23 22 (.call 56 [.r 22]), oA 24 (.not (.r 23))]) (.cond (.r 24) (.reg [oA 25 (.build [.v (.int .i64 0), .v (.int .i64 0), .sl .nil 0 []] []), oN (.store 3 (.r 11) (.r 25)), oA 12 (.mov (kI 2))]) .skip))) .skip)) (.seq (.reg [oA 26 (kM 4), oA 27 (kM 12), oA 28 (.bin .eql (.r 26) (.r 27)), oA 29 (kM 28), ⟨(some 30), (some ((29, true))), (some (.r 8)), (.load (some 3) (.r 8))⟩, ⟨(some 31), (some ((29, true))), (some (.r 11)), (.load (some 3) (.r 11))⟩, ⟨(some 32), (some ((29, true))), none, (.call 17 [.r 30, .r 31])⟩, oA 33 (.pick (.r 29) (.r 32) (kB false)), oA 10 (kM 33)]) .ret))))⟩
theorem c20 : cfunc Tryd.prog 20 = some ir20 := by kernel_rfl
theorem k20 : okIR (max 5 ir20.n) ir20.ir = true := by decide +kernel
theorem s_formed (n : Nms) (hn : n.ok) (hs : n.short) (c : Con) (hc : c.ok) (hb : c.nodes ≤ 1000000) (no : Bool) (j : JH) : JC Tryd.prog (GG m) 20 [.agg n.enc, .agg c.enc, BOO no, .agg (norC n c no).enc, I64 (norE n c no)] j (RET (BOO true) j) := by
  refine JC.run hmix c20 (by exact k20) ?_
  (try simp only[↓jr,jw,seval,ir20])
  refine JCs.ret (s_fault n c hn hs hc _) ?_
  (try simp only[↓jr,jw,seval])
  refine wq.intro (fun h => ?_) (fun h => ?_)
  · (try simp only[↓jr,jw,seval])
    have hk := faultE_zero h
    have hk1 := conOK_shaped hk
    have hk2 := nnf_ok c no hc
    refine JCs.ret (s_Form n.cs.length n.rs.length c no _ hc hk1.1 hb) ?_
    (try simp only[↓jr,jw,seval])
    refine JCs.ret (s_Small (nnf c no) _ hk2.1) ?_
    rw [← conOK_nnf hk]
    (try simp only[↓jr,jw,seval])
    have hE : norE n c no = if conOK n (nnf c no) then 0 else 2 := by unfold norE; rw [if_pos h]; rfl
    have hC : norC n c no = if conOK n (nnf c no) then nnf c no else nilC := by unfold norC; rw [if_pos h]; rfl
    rw [hE, hC]
    refine ww.intro (fun h' => ?_) (fun h' => ?_)
    · (try simp only[↓jr,jw,seval,h,h',if_true])
      refine JCs.ret (s_rSame (nnf c no) (nnf c no) _ hk2.1 hk2.1) ?_
      rw [ceq_refl]
      (try simp only[↓jr,jw,seval])
      refine JFIN.rb ?_
      exact SubB.v
    · (try simp only[↓jr,jw,seval,h,h',Bool.false_eq_true,if_false])
      refine JCs.ret (JC.weakS (s_rSame nilC nilC _ nilC_ok nilC_ok) ⟨SubB.pure rfl, SubB.agg nilC_sub, True.intro⟩) ?_
      rw [ceq_refl]
      (try simp only[↓jr,jw,seval])
      refine JFIN.rb ?_
      exact SubB.v
  · (try simp only[↓jr,jw,seval])
    have hE : norE n c no = faultE n c := by unfold norE; rw [if_neg h]
    have hC : norC n c no = nilC := by unfold norC; rw [if_neg h]
    rw [hE, hC]
    (try simp only[↓jr,jw,seval])
    refine JCs.ret (JC.weakS (s_rSame nilC nilC _ nilC_ok nilC_ok) ⟨SubB.pure rfl, SubB.agg nilC_sub, True.intro⟩) ?_
    rw [ceq_refl]
    (try simp only[↓jr,jw,seval])
    refine JFIN.rb ?_
    exact SubB.v
def ir4 : IFn := ⟨45, [⟨4, none⟩], (.seq (.reg [oA 2 (.box 24 (.r 0)), oA 3 (.box 27 (.r 1)), oA 4 (.mov (kB false))]) (.seq (.seq (.reg [oL 9 2 (some 3), oT 10 9 (.call 8 [.r 9]), oA 11 (.not (.r 10)), oA 12 (kM 11), ⟨(some 13), (some ((12, false))), (some (.r 3)), (.load (some 3) (.r 3))⟩, ⟨(some 14), (some ((12, false))), none, (.call 9 [.r 13, .k (.v (.int .i64 3000))])⟩, ⟨(some 15), (some ((12, false))), none, (.not (.r 14))⟩, oA 16 (.pick (.r 12) (kB true) (.r 15))]) (.cond (.r 16) (.seq (.reg [oA 17 (.call 10 []), oA 4 (kM 17)]) .ret) .skip)) (.seq (.reg [oL 19 2 (some 3), oL 20 3 (some 3), oA 21 (.call 18 [.r 19, .r 20]), oA 18 (kM 21), oA 22 (.ext (.r 18) 0), oA 23 (.ext (.r 18) 1), oA 5 (.alloc 27 [.v (.int .i64 0), .v (.int .i64 0), .sl .nil 0 []]), oN (.store 3 (.r 5) (.r 22)), oA 6 (kM 23)]) (.seq (.reg [oL 25 2 (some 3), oL 26 3 (some 3), oA 27 (.call 19 [.r 25, .r 26]), oA 24 (kM 27), oA 28 (.ext (.r 24) 0), oA 29 (.ext (.r 24) 1), oA 7 (.alloc 27 [.v (.int .i64 0), .v (.int .i64 0), .sl .nil 0 []]), oN (.store 3 (.r 7) (.r 28)), oA 8 (kM 29)]) (.seq (.reg [oL 30 2 (some 3), oL 31 3 (some 3), oL 32 5 (some 3), oA 33 (kM 6), oA 34 (.call 20 [.r 30, .r 31, .k (.v (.bool false)), .r 32, .r 33]), oA 35 (kM 34), ⟨(some 36), (some ((35, true))), (some (.r 2)), (.load (some 3) (.r 2))⟩, ⟨(some 37), (some ((35, true))), (some (.r 3)), (.load (some 3) (.r 3))⟩, ⟨(some 38), (some ((35, true))), (some (.r 7)), (.load (some 3) (.r 7))⟩, ⟨(some 39), (some ((35, true))), none, (kM 8)⟩, ⟨(some 40), (some ((35, true))), none, (.call 20 [.r 36, .r 37, .k (.v (.bool true)), .r 38, .r 39])⟩, oA 41 (.pick (.r 35) (.r 40) (kB false)), oA 42 (kM 41), ⟨(some 43), (some ((42, true))), none, (.call 10 [])⟩, oA 44 (.pick (.r 42) (.r 43) (kB false)), oA 4 (kM 44)]) .ret)))))⟩
theorem c4 : cfunc Tryd.prog 4 = some ir4 := by kernel_rfl
theorem k4 : okIR (max 2 ir4.n) ir4.ir = true := by decide +kernel
theorem s_ConceptNormal (n : Nms) (hn : n.ok) (hs : n.short) (c : Con) (hc : c.ok) (j : JH) : JC Tryd.prog (GG m) 4 [.agg n.enc, .agg c.enc] j (RET (BOO true) j) := by
  refine JC.run hmix c4 (by exact k4) ?_
  (try simp only[↓jr,jw,seval,ir4])
  refine JCs.ret (s_FewNames n hn hs _) ?_
  (try simp only[↓jr,jw,seval])
  refine ww.intro (fun h1 => ?_) (fun h1 => ?_)
  · (try simp only[↓jr,jw,seval])
    refine JCs.ret (s_Fits c 3000 _ hc (by omega) (by omega)) ?_
    (try simp only[↓jr,jw,seval])
    refine wq.intro (fun h2 => ?_) (fun h2 => ?_)
    · (try simp only[↓jr,jw,seval])
      refine JCs.ret (s_Normal n hn hs c hc (by omega) _) ?_
      (try simp only[↓jr,jw,seval])
      refine JCs.ret (s_Not n hn hs c hc (by omega) _) ?_
      (try simp only[↓jr,jw,seval])
      refine JCs.ret (s_formed n hn hs c hc (by omega) false _) ?_
      (try simp only[↓jr,jw,seval])
      refine JCs.ret (s_formed n hn hs c hc (by omega) true _) ?_
      (try simp only[↓jr,jw,seval])
      refine JCs.ret (s_awake1 m _) ?_
      (try simp only[↓jr,jw,seval])
      refine JFIN.rb ?_
      exact SubB.v
    · (try simp only[↓jr,jw,seval])
      refine JCs.ret (s_awake1 m _) ?_
      (try simp only[↓jr,jw,seval])
      refine JFIN.rb ?_
      exact SubB.v
  · (try simp only[↓jr,jw,seval])
    refine JCs.ret (s_awake1 m _) ?_
    (try simp only[↓jr,jw,seval])
    refine JFIN.rb ?_
    exact SubB.v
def ir6 : IFn := ⟨80, [⟨6, none⟩], (.seq (.reg [oA 3 (.box 24 (.r 0)), oA 4 (.box 27 (.r 1)), oA 5 (.box 27 (.r 2)), oA 6 (.mov (kB false))]) (.seq (.seq (.reg [oL 12 3 (some 3), oT 13 12 (.call 8 [.r 12]), oA 14 (.not (.r 13)), oA 15 (kM 14), ⟨(some 16), (some ((15, false))), (some (.r 4)), (.load (some 3) (.r 4))⟩, ⟨(some 17), (some ((15, false))), none, (.call 9 [.r 16, .k (.v (.int .i64 3000))])⟩, ⟨(some 18), (some ((15, false))), none, (.not (.r 17))⟩, oA 19 (.pick (.r 15) (kB true) (.r 18)), oA 20 (kM 19), ⟨(some 21), (some ((20, false))), (some (.r 5)), (.load (some 3) (.r 5))⟩, ⟨(some 22), (some ((20, false))), none, (.call 9 [.r 21, .k (.v (.int .i64 3000))])⟩, ⟨(some 23), (some ((20, false))), none, (.not (.r 22))⟩, oA 24 (.pick (.r 20) (kB true) (.r 23))]) (.cond (.r 24) (.seq (.reg [oA 25 (.call 10 []), oA 6 (kM 25)]) .ret) .skip)) (.seq (.reg [oA 7 (.mov (kI 0))]) (.seq (.seq (.reg [oL 26 3 (some 3), oT 27 26 (.call 15 [.r 26]), oA 28 (.not (.r 27))]) (.cond (.r 28) (.reg [oA 7 (.mov (kI 20))]) .skip)) (.seq (.reg [oL 30 4 (some 3), oT 31 30 (.call 22 [.r 30]), oA 29 (kM 31), oA 32 (.ext (.r 29) 0), oA 33 (.ext (.r 29) 1), oA 8 (kM 32), oA 9 (kM 33)]) (.seq (.reg [oL 35 4 (some 3), oT 36 35 (.call 23 [.r 35]), oA 34 (kM 36), oA 37 (.ext (.r 34) 0), oA 38 (.ext (.r 34) 1), oA 10 (kM 37), oA 11 (kM 38)]) (.seq (.draw [oL 39 3 (some 3), oT 40 39 (.call 24 [.r 39]), oA 41 (kM 7), oA 42 (.bin .eql (.r 40) (.r 41)), oA 43 (kM 42), ⟨(some 44), (some ((43, true))), (some (.r 3)), (.load (some 3) (.r 3))⟩, ⟨(some 45), (some ((43, true))), (some (.r 4)), (.load (some 3) (.r 4))⟩, ⟨(some 46), (some ((43, true))), none, (.call 25 [.r 44, .r 45])⟩, ⟨(some 47), (some ((43, true))), (some (.r 3)), (.load (some 3) (.r 3))⟩, ⟨(some 48), (some ((43, true))), (some (.r 4)), (.load (some 3) (.r 4))⟩, ⟨(some 49), (some ((43, true))), none, (.call 12 [.r 47, .r 48])⟩, ⟨(some 50), (some ((43, true))), none, (.bin .eql (.r 46) (.r 49))⟩, oA 51 (.pick (.r 43) (.r 50) (kB false)), oA 52 (kM 51), ⟨(some 53), (some ((52, true))), none, (kM 8)⟩, ⟨(some 54), (some ((52, true))), none, (kM 10)⟩, ⟨(some 55), (some ((52, true))), none, (.bin .eql (.r 53) (.r 54))⟩, oA 56 (.pick (.r 52) (.r 55) (kB false)), oA 57 (kM 56), ⟨(some 58), (some ((57, true))), none, (kM 9)⟩, ⟨(some 59), (some ((57, true))), none, (kM 11)⟩, ⟨(some 60), (some ((57, true))), none, (.bin .eql (.r 58) (.r 59))⟩, oA 61 (.pick (.r 57) (.r 60) (kB false)), oA 62 (kM 61), ⟨(some 63), (some ((62, true))), (some (.r 4)), (.load (some 3) (.r 4))⟩, ⟨(some 64), (some ((62, true))), (some (.r 5)), (.load (some 3) (.r 5))⟩, ⟨(some 65), (some ((62, true))), none, (.call 26 [.r 63, .r 64])⟩, ⟨(some 66), (some ((62, true))), (some (.r 4)), (.load (some 3) (.r 4))⟩, ⟨(some 67), (some ((62, true))), (some (.r 5)), (.load (some 3) (.r 5))⟩, ⟨(some 68), (some ((62, true))), none, (.call 17 [.r 66, .r 67])⟩, ⟨(some 69), (some ((62, true))), none, (.beq false (.r 65) (.r 68))⟩, oA 70 (.pick (.r 62) (.r 69) (kB false)), oA 71 (kM 70), ⟨(some 72), (some ((71, true))), (some (.r 4)), (.load (some 3) (.r 4))⟩, ⟨(some 73), (some ((71, true))), (some (.r 4)), (.load (some 3) (.r 4))⟩, ⟨(some 74), (some ((71, true))), (some (.r 73)), (.call 27 [.r 73])⟩, ⟨(some 75), (some ((71, true))), none, (.call 26 [.r 72, .r 74])⟩, oA 76 (.pick (.r 71) (.r 75) (kB false)), oA 77 (kM 76), ⟨(some 78), (some ((77, true))), none, (.call 10 [])⟩, oA 79 (.pick (.r 77) (.r 78) (kB false)), oA 6 (kM 79)] [(8, 7), (9, 7), (27, 26), (28, 26), (33, 35)]) .ret)))))))⟩
theorem c6 : cfunc Tryd.prog 6 = some ir6 := by kernel_rfl
theorem k6 : okIR (max 3 ir6.n) ir6.ir = true := by decide +kernel
theorem s_ConceptForms (n : Nms) (hn : n.ok) (hs : n.short) (c d : Con) (hc : c.ok) (hd : d.ok) (j : JH) : JC Tryd.prog (GG m) 6 [.agg n.enc, .agg c.enc, .agg d.enc] j (RET (BOO true) j) := by
  refine JC.run hmix c6 (by exact k6) ?_
  (try simp only[↓jr,jw,seval,ir6])
  have aw : ∀ j0 : JH, ∀ {K : AOut → JH → Prop}, K (.ret (BOO true)) j0 → @JCs Tryd.prog (GG m) 10 [] j0 ⟨K⟩ := fun j0 K k => JCs.ret (s_awake1 m j0) k
  refine JCs.ret (s_FewNames n hn hs _) ?_
  (try simp only[↓jr,jw,seval])
  refine ww.intro (fun h1 => ?_) (fun h1 => ?_)
  · (try simp only[↓jr,jw,seval])
    refine JCs.ret (s_Fits c 3000 _ hc (by omega) (by omega)) ?_
    (try simp only[↓jr,jw,seval])
    refine wq.intro (fun h2 => ?_) (fun h2 => ?_)
    · (try simp only[↓jr,jw,seval])
      refine JCs.ret (s_Fits d 3000 _ hd (by omega) (by omega)) ?_
      (try simp only[↓jr,jw,seval])
      refine wq.intro (fun h3 => ?_) (fun h3 => ?_)
      · (try simp only[↓jr,jw,seval])
        refine JCs.ret (s_rNames n hn hs _) ?_
        (try simp only[↓jr,jw,seval])
        refine ww.intro (fun h => ?_) (fun h => ?_)
        · (try simp only[↓jr,jw,seval])
          refine JCs.ret (s_cSize c _ hc (by omega)) ?_
          (try simp only[↓jr,jw,seval])
          refine JCs.ret (s_Size c _ hc (by omega)) ?_
          (try simp only[↓jr,jw,seval])
          refine JDC.use (s_cNames n hn hs _) ?_
          rw [h]
          (try simp only[↓jr,jw,seval,if_true,Bool.false_eq_true,if_false,decide_true])
          refine JDC.use (s_Check n hn hs c hc (by omega) _) ?_
          rw [faultE_eq]
          (try simp only[↓jr,jw,seval])
          refine JDC.use (s_fault n c hn hs hc _) ?_
          (try simp only[↓jr,jw,seval,decide_true])
          refine JDC.use (s_cSame c d _ hc hd) ?_
          (try simp only[↓jr,jw,seval])
          refine JDC.use (s_rSame c d _ hc hd) ?_
          (try simp only[↓jr,jw,seval,beq_self_eq_true,decide_true])
          refine JDC.use (s_rCopy c _ hc (by omega)) ?_
          (try simp only[↓jr,jw,seval])
          refine JDC.use (s_cSame c c _ hc hc) ?_
          rw [ceq_refl]
          (try simp only[↓jr,jw,seval])
          refine JDC.use (s_awake1 m _) ?_
          (try simp only[↓jr,jw,seval])
          refine JDRAW.oc (by (try simp only[↓jr,jw,seval,jq]) <;> exact orq) ?_; (try simp only[↓jr,jw,seval])
          refine JFIN.rb ?_
          exact SubB.v
        · (try simp only[↓jr,jw,seval])
          refine JCs.ret (s_cSize c _ hc (by omega)) ?_
          (try simp only[↓jr,jw,seval])
          refine JCs.ret (s_Size c _ hc (by omega)) ?_
          (try simp only[↓jr,jw,seval])
          refine JDC.use (s_cNames n hn hs _) ?_
          rw [h]
          (try simp only[↓jr,jw,seval,if_true,Bool.false_eq_true,if_false,decide_true])
          refine JDC.use (s_Check n hn hs c hc (by omega) _) ?_
          rw [faultE_eq]
          (try simp only[↓jr,jw,seval])
          refine JDC.use (s_fault n c hn hs hc _) ?_
          (try simp only[↓jr,jw,seval,decide_true])
          refine JDC.use (s_cSame c d _ hc hd) ?_
          (try simp only[↓jr,jw,seval])
          refine JDC.use (s_rSame c d _ hc hd) ?_
          (try simp only[↓jr,jw,seval,beq_self_eq_true,decide_true])
          refine JDC.use (s_rCopy c _ hc (by omega)) ?_
          (try simp only[↓jr,jw,seval])
          refine JDC.use (s_cSame c c _ hc hc) ?_
          rw [ceq_refl]
          (try simp only[↓jr,jw,seval])
          refine JDC.use (s_awake1 m _) ?_
          (try simp only[↓jr,jw,seval])
          refine JDRAW.oc (by (try simp only[↓jr,jw,seval,jq]) <;> exact orq) ?_; (try simp only[↓jr,jw,seval])
          refine JFIN.rb ?_
          exact SubB.v
      · (try simp only[↓jr,jw,seval])
        refine aw _ ?_
        (try simp only[↓jr,jw,seval])
        refine JFIN.rb ?_
        exact SubB.v
    · (try simp only[↓jr,jw,seval])
      refine aw _ ?_
      (try simp only[↓jr,jw,seval])
      refine JFIN.rb ?_
      exact SubB.v
  · (try simp only[↓jr,jw,seval])
    refine aw _ ?_
    (try simp only[↓jr,jw,seval])
    refine JFIN.rb ?_
    exact SubB.v
end
end Go.Proofs.YtcajjicdbphkpaaDoor.Pg
