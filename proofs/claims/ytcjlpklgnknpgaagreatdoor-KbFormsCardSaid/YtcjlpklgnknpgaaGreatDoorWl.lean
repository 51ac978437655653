/-
  KbForms: the walk of the law.
-/
import Derived.Test.YtcjlpklgnknpgaaGreatDoorWg
import Derived.Test.YtcjlpklgnknpgaaGreatDoorVb
set_option linter.unusedVariables false
set_option linter.unusedSimpArgs false
set_option maxRecDepth 100000
set_option maxHeartbeats 8000000
namespace Go.Proofs.YtcjlpklgnknpgaaGreatDoor.Pg
open Go
section
variable {m : GM}
theorem sumN_mem' : ∀ {l : List Con} {c : Con}, c ∈ l → c.nodes ≤ sumN l
  | d :: l, c, h => by
    simp only [sumN]
    rcases List.mem_cons.1 h with rfl | h
    · omega
    · have := sumN_mem' h; omega
structure Small3 (b : Bas) : Prop where
  i : b.incls.length ≤ 200
  r : b.roles.length ≤ 200
  f : b.facts.length ≤ 200
  l : b.links.length ≤ 200
  s : sumN b.cons ≤ 3000
  few : b.few
theorem few3 {b : Bas} (h : fewB 3000 b = true) : Small3 b := by
  unfold fewB at h
  simp only [Bool.and_eq_true, List.all_eq_true, decide_eq_true_eq] at h
  obtain ⟨⟨⟨⟨⟨⟨h1, h2⟩, h3⟩, h4⟩, _⟩, _⟩, h5⟩ := h
  have hs : sumN b.cons ≤ 3000 := by omega
  refine ⟨h1, h2, h3, h4, hs, fun x hx => ?_, fun x hx => ?_⟩
  · obtain ⟨m1, m2⟩ := mem_consI hx
    have a1 := sumN_mem' (l := b.cons) (List.mem_append.2 (.inl m1))
    have a2 := sumN_mem' (l := b.cons) (List.mem_append.2 (.inl m2))
    omega
  · have a1 := sumN_mem' (l := b.cons) (List.mem_append.2 (.inr (mem_consF hx)))
    omega
theorem cons_oks {b : Bas} (hb : b.ok) : ∀ c ∈ b.cons, c.ok := by
  have hI : ∀ (l : List Inc), (∀ x ∈ l, x.sub.ok ∧ x.sup.ok) → ∀ c ∈ consI l, c.ok := by
    intro l
    induction l with
    | nil => intro _ c hc; cases hc
    | cons x l ih =>
      intro h c hc
      simp only [consI, List.mem_cons] at hc
      rcases hc with rfl | rfl | hc
      · exact (h x List.mem_cons_self).1
      · exact (h x List.mem_cons_self).2
      · exact ih (fun y hy => h y (List.mem_cons_of_mem _ hy)) c hc
  have hF : ∀ (l : List Fac), (∀ x ∈ l, x.con.ok) → ∀ c ∈ consF l, c.ok := by
    intro l
    induction l with
    | nil => intro _ c hc; cases hc
    | cons x l ih =>
      intro h c hc
      simp only [consF, List.mem_cons] at hc
      rcases hc with rfl | hc
      · exact h x List.mem_cons_self
      · exact ih (fun y hy => h y (List.mem_cons_of_mem _ hy)) c hc
  intro c hc
  unfold Bas.cons at hc
  rcases List.mem_append.1 hc with h | h
  · exact hI _ hb.incls c h
  · exact hF _ (fun x hx => (hb.facts x hx).2) c h
theorem cons_len {b : Bas} : b.cons.length = 2 * b.incls.length + b.facts.length := by
  have hI : ∀ l : List Inc, (consI l).length = 2 * l.length := by
    intro l
    induction l with
    | nil => rfl
    | cons x l ih => simp only [consI, List.length_cons, ih]; omega
  have hF : ∀ l : List Fac, (consF l).length = l.length := by
    intro l
    induction l with
    | nil => rfl
    | cons x l ih => simp only [consF, List.length_cons, ih]
  unfold Bas.cons
  rw [List.length_append, hI, hF]
theorem wlR_len : ∀ (l : List Lnk) (a : List Int), (wlR a l).length ≤ a.length + l.length
  | [], a => by simp [wlR]
  | x :: l, a => by
    have h1 := wlR_len l (insR a x.role)
    have h2 := insR_len a x.role
    simp only [wlR, List.length_cons]; omega
theorem wfI_len : ∀ (l : List Fac) (a : List Int), (wfI a l).length ≤ a.length + l.length
  | [], a => by simp [wfI]
  | x :: l, a => by
    have h1 := wfI_len l (insR a x.ind)
    have h2 := insR_len a x.ind
    simp only [wfI, List.length_cons]; omega
theorem wlI_len : ∀ (l : List Lnk) (a : List Int), (wlI a l).length ≤ a.length + 2 * l.length
  | [], a => by simp [wlI]
  | x :: l, a => by
    have h1 := wlI_len l (insR (insR a x.fr) x.to)
    have h2 := insR_len a x.fr
    have h3 := insR_len (insR a x.fr) x.to
    simp only [wlI, List.length_cons]; omega
theorem s_kbAxioms (b : Bas) (hb : b.ok) (hf : b.few) (j : JH) : JC Tryz.prog (GG m) 24 [.agg b.enc] j (RET (.tup [I64 (if basV b then b.count else 0), I64 (basE b)]) j) := by
  refine JC.run hmix c24 (by exact k24) ?_
  (try simp only[↓jr,jw,seval,ir24])
  refine JCs.ret (s_kbValid b hb hf _) ?_
  (try simp only[↓jr,jw,seval])
  refine ww.intro (fun hv => ?_) (fun hv => ?_)
  · (try simp only[↓jr,jw,seval])
    refine JCs.ret (s_Count b hb _) ?_
    (try simp only[↓jr,jw,seval])
    refine JFIN.rb ?_
    unfold basE
    rw [if_pos hv, if_pos hv]
    exact SubB.tup ⟨SubB.v, SubB.v, True.intro⟩
  · (try simp only[↓jr,jw,seval])
    refine JFIN.rb ?_
    unfold basE
    rw [if_neg (by rw [hv]; decide), if_neg (by rw [hv]; decide)]
    exact SubB.tup ⟨SubB.v, SubB.v, True.intro⟩
noncomputable def ir12 : IFn := ⟨5, [⟨2, none⟩], (.seq (.reg [oA 1 (.box 30 (.r 0)), oA 2 (.mov (kI 0))]) (.seq (.seq (.reg [oL 3 1 (some 7), oT 4 3 (.call 48 [.r 3])]) (.cond (.r 4) (.seq (.reg [oA 2 (.mov (kI 0))]) .ret) .skip)) (.seq (.reg [oA 2 (.mov (kI 20))]) .ret)))⟩
theorem c12 : cfunc Tryz.prog 12 = some ir12 := by kernel_rfl
theorem k12 : okIR (max 1 ir12.n) ir12.ir = true := by decide +kernel
theorem s_lfault (b : Bas) (hb : b.ok) (j : JH) : JC Tryz.prog (GG m) 12 [.agg b.enc] j (RET (I64 (basE b)) j) := by
  refine JC.run hmix c12 (by exact k12) ?_
  (try simp only[↓jr,jw,seval,ir12])
  refine JCs.ret (s_kIs b hb _) ?_
  rw [basR_eq]
  (try simp only[↓jr,jw,seval])
  refine ww.intro (fun hv => ?_) (fun hv => ?_)
  · (try simp only[↓jr,jw,seval])
    refine JFIN.rb ?_
    unfold basE
    rw [if_pos hv]; exact SubB.v
  · (try simp only[↓jr,jw,seval])
    refine JFIN.rb ?_
    unfold basE
    rw [if_neg (by rw [hv]; decide)]; exact SubB.v
noncomputable def ir6 : IFn := ⟨95, [⟨2, none⟩], (.seq (.reg [oA 1 (.box 30 (.r 0)), oA 2 (.mov (kB false))]) (.seq (.seq (.reg [oL 13 1 (some 7), oA 14 (.call 8 [.r 13, .k (.v (.int .i64 3000))]), oA 15 (.not (.r 14))]) (.cond (.r 15) (.seq (.reg [oA 16 (.call 9 []), oA 2 (kM 16)]) .ret) .skip)) (.seq (.reg [oL 18 1 (some 7), oT 19 18 (.call 24 [.r 18]), oA 17 (kM 19), oA 20 (.ext (.r 17) 0), oA 21 (.ext (.r 17) 1), oA 3 (kM 20), oA 4 (kM 21)]) (.seq (.reg [oL 23 1 (some 7), oT 24 23 (.call 25 [.r 23]), oA 22 (kM 24), oA 25 (.ext (.r 22) 0), oA 26 (.ext (.r 22) 1), oA 27 (.ext (.r 22) 2), oA 28 (.ext (.r 22) 3), oA 5 (kM 25), oA 6 (kM 26), oA 7 (kM 27), oA 8 (kM 28)]) (.seq (.reg [oL 29 1 (some 7), oT 30 29 (.call 12 [.r 29]), oA 9 (kM 30)]) (.seq (.seq (.reg [oL 31 1 (some 7), oT 32 31 (.call 26 [.r 31]), oA 33 (kM 9), oA 34 (.bin .neq (.r 32) (.r 33)), oA 35 (kM 34), ⟨(some 36), (some ((35, false))), none, (kM 4)⟩, ⟨(some 37), (some ((35, false))), none, (kM 9)⟩, ⟨(some 38), (some ((35, false))), none, (.bin .neq (.r 36) (.r 37))⟩, oA 39 (.pick (.r 35) (kB true) (.r 38)), oA 40 (kM 39), ⟨(some 41), (some ((40, false))), none, (kM 8)⟩, ⟨(some 42), (some ((40, false))), none, (kM 9)⟩, ⟨(some 43), (some ((40, false))), none, (.bin .neq (.r 41) (.r 42))⟩, oA 44 (.pick (.r 40) (kB true) (.r 43))]) (.cond (.r 44) (.seq (.reg [oA 2 (.mov (kB false))]) .ret) .skip)) (.seq (.seq (.reg [oA 45 (kM 9), oA 46 (.bin .neq (.r 45) (kI 0))]) (.cond (.r 46) (.seq (.reg [oA 47 (kM 3), oA 48 (.bin .eql (.r 47) (kI 0)), oA 49 (kM 48), ⟨(some 50), (some ((49, true))), none, (kM 5)⟩, ⟨(some 51), (some ((49, true))), (some (.r 50)), (.lenl (.r 50))⟩, ⟨(some 52), (some ((49, true))), none, (.bin .eql (.r 51) (kI 0))⟩, oA 53 (.pick (.r 49) (.r 52) (kB false)), oA 54 (kM 53), ⟨(some 55), (some ((54, true))), none, (kM 6)⟩, ⟨(some 56), (some ((54, true))), (some (.r 55)), (.lenl (.r 55))⟩, ⟨(some 57), (some ((54, true))), none, (.bin .eql (.r 56) (kI 0))⟩, oA 58 (.pick (.r 54) (.r 57) (kB false)), oA 59 (kM 58), ⟨(some 60), (some ((59, true))), none, (kM 7)⟩, ⟨(some 61), (some ((59, true))), (some (.r 60)), (.lenl (.r 60))⟩, ⟨(some 62), (some ((59, true))), none, (.bin .eql (.r 61) (kI 0))⟩, oA 63 (.pick (.r 59) (.r 62) (kB false)), oA 64 (kM 63), ⟨(some 65), (some ((64, true))), none, (.call 9 [])⟩, oA 66 (.pick (.r 64) (.r 65) (kB false)), oA 2 (kM 66)]) .ret) .skip)) (.seq (.reg [oL 68 1 (some 7), oT 69 68 (.call 27 [.r 68]), oA 67 (kM 69), oA 70 (.ext (.r 67) 0), oA 71 (.ext (.r 67) 1), oA 72 (.ext (.r 67) 2), oA 10 (kM 70), oA 11 (kM 71), oA 12 (kM 72)]) (.seq (.reg [oA 73 (kM 3), oL 74 1 (some 7), oT 75 74 (.call 20 [.r 74]), oA 76 (.bin .eql (.r 73) (.r 75)), oA 77 (kM 76), ⟨(some 78), (some ((77, true))), none, (kM 5)⟩, ⟨(some 79), (some ((77, true))), none, (kM 10)⟩, ⟨(some 80), (some ((77, true))), none, (.call 28 [.r 78, .r 79])⟩, oA 81 (.pick (.r 77) (.r 80) (kB false)), oA 82 (kM 81), ⟨(some 83), (some ((82, true))), none, (kM 6)⟩, ⟨(some 84), (some ((82, true))), none, (kM 11)⟩, ⟨(some 85), (some ((82, true))), none, (.call 28 [.r 83, .r 84])⟩, oA 86 (.pick (.r 82) (.r 85) (kB false)), oA 87 (kM 86), ⟨(some 88), (some ((87, true))), none, (kM 7)⟩, ⟨(some 89), (some ((87, true))), none, (kM 12)⟩, ⟨(some 90), (some ((87, true))), none, (.call 28 [.r 88, .r 89])⟩, oA 91 (.pick (.r 87) (.r 90) (kB false)), oA 92 (kM 91), ⟨(some 93), (some ((92, true))), none, (.call 9 [])⟩, oA 94 (.pick (.r 92) (.r 93) (kB false)), oA 2 (kM 94)]) .ret)))))))))⟩
theorem c6 : cfunc Tryz.prog 6 = some ir6 := by kernel_rfl
theorem k6 : okIR (max 1 ir6.n) ir6.ir = true := by decide +kernel
theorem s_KbForms (aw : ∀ j : JH, JC Tryz.prog (GG m) 9 [] j (RET (BOO true) j)) (b : Bas) (hb : b.ok) (j : JH) : JC Tryz.prog (GG m) 6 [.agg b.enc] j (RET (BOO true) j) := by
  refine JC.run hmix c6 (by exact k6) ?_
  (try simp only[↓jr,jw,seval,ir6])
  refine JCs.ret (s_Few b hb 3000 (by decide) (by decide) _) ?_
  (try simp only[↓jr,jw,seval])
  refine ww.intro (fun h0 => ?_) (fun h0 => by (try simp only[↓jr,jw,seval]); refine JCs.ret (aw _) ?_; (try simp only[↓jr,jw,seval]); refine JFIN.rb ?_; exact SubB.v)
  have h3 := few3 h0
  (try simp only[↓jr,jw,seval])
  refine JCs.ret (s_kbAxioms b hb h3.few _) ?_
  (try simp only[↓jr,jw,seval])
  cases hv : basV b with
  | false =>
    refine JCs.ret (s_kbUsesN b hb h3.few hv _) ?_
    (try simp only[↓jr,jw,seval])
    refine JCs.ret (s_lfault b hb _) ?_
    (try simp only[↓jr,jw,seval])
    refine JCs.ret (s_kbCheck b hb h3.few _) ?_
    have e : basE b = 20 := by unfold basE; rw [hv]; rfl
    rw [e, hv]
    (try simp only[↓jr,jw,seval,Bool.false_eq_true,if_false])
    repeat' ((first | refine wq.intro (fun _ => ?_) (fun _ => ?_) | refine ww.intro (fun _ => ?_) (fun _ => ?_) | refine wc.intro (by first | omega | (unfold R64; omega) | trivial) ?_ | refine wr.in (by unfold R64; omega) ?_) <;> first | contradiction | (try simp only[↓jr,jw,seval]))
    refine JCs.ret (aw _) ?_
    (try simp only[↓jr,jw,seval])
    refine JFIN.rb ?_
    exact SubB.v
  | true =>
    refine JCs.ret (s_kbUses b hb h3.few hv h3.s h3.i h3.r h3.f h3.l _) ?_
    (try simp only[↓jr,jw,seval])
    refine JCs.ret (s_lfault b hb _) ?_
    (try simp only[↓jr,jw,seval])
    refine JCs.ret (s_kbCheck b hb h3.few _) ?_
    have e : basE b = 0 := by unfold basE; rw [hv]; rfl
    rw [e, hv]
    (try simp only[↓jr,jw,seval,if_true])
    have hcl : b.cons.length ≤ 3000 := by rw [cons_len]; have := h3.i; have := h3.f; omega
    refine JCs.ret (s_rKbUses b hb h3.s (cons_oks hb) h3.i h3.r h3.f h3.l hcl _) ?_
    rw [kbUses_A, kbUses_R, kbUses_I]
    (try simp only[↓jr,jw,seval])
    refine JCs.ret (s_Axioms b hb _) ?_
    (try simp only[↓jr,jw,seval])
    have l1 := wcA_len b.cons []
    have l2 : (wlR (wrR (wcR [] b.cons) b.roles) b.links).length < 1000000 := by
      have a1 := wcR_len b.cons []
      have a2 := wrR_len b.roles (wcR [] b.cons)
      have a3 := wlR_len b.links (wrR (wcR [] b.cons) b.roles)
      have := h3.s; have := h3.r; have := h3.l
      simp only [List.length_nil] at a1
      omega
    have l3 : (wlI (wfI [] b.facts) b.links).length < 1000000 := by
      have a1 := wfI_len b.facts []
      have a2 := wlI_len b.links (wfI [] b.facts)
      have := h3.f; have := h3.l
      simp only [List.length_nil] at a1
      omega
    have hs := h3.s
    refine JCs.ret (s_SameIntsU _ _ .none .none (by simp only [List.length_nil] at l1; omega) (by simp only [List.length_nil] at l1; omega) _) ?_
    rw [decide_eq_true rfl]
    (try simp only[↓jr,jw,seval])
    refine JCs.ret (s_SameIntsU _ _ .none .none l2 l2 _) ?_
    rw [decide_eq_true rfl]
    (try simp only[↓jr,jw,seval])
    refine JCs.ret (s_SameIntsU _ _ .none .none l3 l3 _) ?_
    rw [decide_eq_true rfl]
    (try simp only[↓jr,jw,seval])
    refine JCs.ret (aw _) ?_
    (try simp only[↓jr,jw,seval])
    refine JFIN.rb ?_
    exact SubB.v
end
end Go.Proofs.YtcjlpklgnknpgaaGreatDoor.Pg
