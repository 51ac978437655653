/-
  The statements about forms and normal forms.
-/
import Derived.Test.YtcajjicdbphkpaaGreatDoorQc
set_option linter.unusedVariables false
set_option linter.unusedSimpArgs false
set_option maxRecDepth 100000
set_option maxHeartbeats 8000000
namespace Go.Proofs.YtcajjicdbphkpaaGreatDoor.Pg
open Go
theorem R64_dual (o : Int) : R64 (dualI o) := by
  unfold dualI R64
  repeat' split
  all_goals omega
theorem nnf_ok : ∀ (c : Con) (no : Bool), c.ok → (nnf c no).ok ∧ (nnf c no).nodes ≤ 2 * c.nodes := by
  intro c
  induction c using Con.ind with
  | h o n l ih =>
  intro no h
  simp only [Con.ok] at h
  obtain ⟨h1, h2, h3, h4⟩ := h
  have hz : R64 0 := by unfold R64; omega
  by_cases g1 : o = 0
  · subst g1
    cases no
    · simp only [nnf, if_true, Bool.false_eq_true, if_false, Con.ok, Con.nodes, Con.nodesL, Con.oks, List.length_nil]; exact ⟨⟨hz, h2, by omega, trivial⟩, by omega⟩
    · have h3' : R64 3 := by unfold R64; omega
      simp only [nnf, if_true, Con.ok, Con.nodes, Con.nodesL, Con.oks, List.length_nil, List.length_cons]; exact ⟨⟨h3', hz, by omega, ⟨hz, h2, by omega, trivial⟩, trivial⟩, by omega⟩
  by_cases g3 : o = 3
  · subst g3
    simp only [nnf, if_neg g1, if_true]
    cases l with
    | nil => simp only [nnfH, Con.ok, Con.nodes, Con.nodesL, Con.oks, List.length_nil]; exact ⟨⟨hz, hz, by omega, trivial⟩, by omega⟩
    | cons c r =>
      obtain ⟨i1, i2⟩ := ih c (by simp) (!no) (Con.oks_mem h4 (by simp))
      simp only [nnfH, Con.nodes, Con.nodesL]
      exact ⟨i1, by omega⟩
  rw [nnf_mk g1 g3]
  have aux : ∀ r : List Con, (∀ c ∈ r, c ∈ l) → Con.oks r → Con.oks (nnfs r no) ∧ Con.nodesL (nnfs r no) ≤ 2 * Con.nodesL r := by
    intro r
    induction r with
    | nil => intro _ _; simp [nnfs, Con.oks, Con.nodesL]
    | cons c r ihr =>
      intro hm hk
      simp only [Con.oks] at hk
      obtain ⟨a1, a2⟩ := ihr (fun d hd => hm d (by simp [hd])) hk.2
      obtain ⟨b1, b2⟩ := ih c (hm c (by simp)) no hk.1
      simp only [nnfs, Con.oks, Con.nodesL]
      exact ⟨⟨b1, a1⟩, by omega⟩
  obtain ⟨a1, a2⟩ := aux l (fun _ h => h) h4
  simp only [Con.ok, Con.nodes]
  refine ⟨⟨?_, h2, by rw [nnfs_len]; exact h3, a1⟩, by omega⟩
  split
  · exact R64_dual o
  · exact h1
theorem arity_dual {o : Int} (h0 : 0 ≤ o) (h7 : o ≤ 7) (g1 : ¬ o = 0) (g3 : ¬ o = 3) : arity (dualI o) = arity o ∧ quant (dualI o) = quant o ∧ dualI o ≠ 0 := by
  have e : o = 1 ∨ o = 2 ∨ o = 4 ∨ o = 5 ∨ o = 6 ∨ o = 7 := by omega
  rcases e with rfl | rfl | rfl | rfl | rfl | rfl <;> decide
theorem shaped_nnf {nc nr : Nat} : ∀ (c : Con) (no : Bool), shaped nc nr c = true → shaped nc nr (nnf c no) = true := by
  intro c
  induction c using Con.ind with
  | h o n l ih =>
  intro no h
  obtain ⟨⟨h1, h2, h3, h4, h5⟩, h6⟩ : SH nc nr o n l.length ∧ shapedL nc nr l = true := by rw [← shaped_mk]; exact h
  have har := arity_in h1
  by_cases g1 : o = 0
  · subst g1
    have h0 : shaped nc nr (.mk 0 n []) = true := by
      rw [shaped_mk]
      exact ⟨⟨rfl, h2, h3, fun q => absurd rfl q, fun q => absurd rfl q⟩, rfl⟩
    cases no
    · simpa only [nnf, if_true, Bool.false_eq_true, if_false] using h0
    · simp only [nnf, if_true]
      rw [shaped_mk]
      exact ⟨⟨rfl, by omega, fun q => by omega, fun _ q => by simp [quant] at q, fun _ _ => rfl⟩, by simp only [shapedL, h0, Bool.and_self]⟩
  by_cases g3 : o = 3
  · subst g3
    simp only [nnf, if_neg g1, if_true]
    cases l with
    | nil => simp [arity] at h1
    | cons c r =>
      simp only [nnfH]
      exact ih c (by simp) (!no) (shapedL_mem h6 (by simp))
  rw [nnf_mk g1 g3, shaped_mk]
  have aux : ∀ r : List Con, (∀ c ∈ r, c ∈ l) → shapedL nc nr r = true → shapedL nc nr (nnfs r no) = true := by
    intro r
    induction r with
    | nil => intro _ _; rfl
    | cons c r ihr =>
      intro hm hk
      simp only [shapedL, Bool.and_eq_true] at hk
      simp only [nnfs, shapedL, Bool.and_eq_true]
      exact ⟨ih c (hm c (by simp)) no hk.1, ihr (fun d hd => hm d (by simp [hd])) hk.2⟩
  refine ⟨?_, aux l (fun _ h => h) h6⟩
  obtain ⟨d1, d2, d3⟩ := arity_dual har.1 har.2 g1 g3
  rw [nnfs_len]
  cases no
  · exact ⟨h1, h2, h3, h4, h5⟩
  · exact ⟨d1.trans h1, h2, fun q => absurd q d3, fun _ q => h4 g1 (d2 ▸ q), fun _ q => h5 g1 (d2 ▸ q)⟩
theorem conOK_shaped {n : Nms} {c : Con} (h : conOK n c = true) : shaped n.cs.length n.rs.length c = true ∧ c.nodes ≤ 400 := by
  unfold conOK at h
  simp only [Bool.and_eq_true, decide_eq_true_eq] at h
  exact ⟨h.2, h.1.1⟩
theorem conOK_nnf {n : Nms} {c : Con} {no : Bool} (h : conOK n c = true) : conOK n (nnf c no) = (decide ((nnf c no).nodes ≤ 400) && decide ((nnf c no).depth ≤ 20)) := by
  unfold conOK
  rw [shaped_nnf c no (conOK_shaped h).1, Bool.and_true]
abbrev nilC : Con := .mk 0 0 []
theorem nilC_ok : nilC.ok := by
  have hz : R64 0 := by unfold R64; omega
  exact ⟨hz, hz, by simp, trivial⟩
theorem nilC_sub {no nt : Nat} : SubBs no nt zC nilC.enc := ⟨SubB.v, SubB.v, SubB.sl rfl True.intro, True.intro⟩
def smC (n : Nms) (c : Con) : Con := if conOK n c then c else nilC
def smE (n : Nms) (c : Con) : Int := if conOK n c then 0 else 2
def norC (n : Nms) (c : Con) (no : Bool) : Con := if faultE n c = 0 then smC n (nnf c no) else nilC
def norE (n : Nms) (c : Con) (no : Bool) : Int := if faultE n c = 0 then smE n (nnf c no) else faultE n c
theorem faultE_zero {n : Nms} {c : Con} (h : faultE n c = 0) : conOK n c = true := by
  unfold faultE at h
  repeat' split at h
  all_goals first | assumption | omega
section
variable {m : Int} {G : Nat → Option (List AV)}
theorem s_small (n : Nms) (hn : n.ok) (c : Con) (hc : c.ok) (hb : c.nodes ≤ 4000000000) (j : JH) : JC Tryz.prog (GG (GM1 m)) 40 [.agg n.enc, .agg c.enc] j (RET (.tup [.agg (smC n c).enc, I64 (smE n c)]) j) := by
  refine JC.run hmix c40 (by exact k40) ?_
  (try simp only[↓jr,jw,seval,ir40])
  refine JCs.ret (s_Valid n hn 3 c (pid j.next 3) 400 (ext j [.cells 24 n.enc, .cells 27 c.enc, .cells 27 zC, .cells 3 [I64 400]]) hc (by rw [ext_next]; unfold pid; simp) (by (try simp only[↓jr,jw,seval])) (consOK_bound hb) (by omega)) ?_
  (try simp only[↓jr,jw,seval])
  rw [vld_conOK]
  refine ww.intro (fun h => ?_) (fun h => ?_)
  · (try simp only[↓jr,jw,seval])
    refine JFIN.rb ?_
    unfold smC smE; rw [h]
    exact SubB.tup ⟨SubB.agg (SubBs.pure (Con.pur _)), SubB.v, True.intro⟩
  · (try simp only[↓jr,jw,seval])
    refine JFIN.rb ?_
    unfold smC smE; rw [h]
    exact SubB.tup ⟨SubB.agg nilC_sub, SubB.v, True.intro⟩
theorem s_Normal (n : Nms) (hn : n.ok) (hs : n.short) (c : Con) (hc : c.ok) (hb : c.nodes ≤ 1000000) (j : JH) : JC Tryz.prog (GG (GM1 m)) 17 [.agg n.enc, .agg c.enc] j (RET (.tup [.agg (norC n c false).enc, I64 (norE n c false)]) j) := by
  refine JC.run hmix c17 (by exact k17) ?_
  (try simp only[↓jr,jw,seval,ir17])
  have hf := s_fine (m := GM1 m) n hn hs [c] (.own j.tnext 0 3) ⟨hc, trivial⟩ (by simp) (fun d hd => by rw [List.mem_singleton.1 hd]; omega) (ext (j.pushTok 1) [.cells 24 n.enc, .cells 27 c.enc, .cells 27 zC])
  rw [encs_cons, encs_nil, List.append_nil] at hf
  refine JCs.ret hf ?_
  rw [faultE_eq]
  (try simp only[↓jr,jw,seval])
  refine wq.intro (fun h => ?_) (fun h => ?_)
  · (try simp only[↓jr,jw,seval])
    have hk := faultE_zero h
    have hk1 := conOK_shaped hk
    have hk2 := nnf_ok c false hc
    refine JDC.use (s_Nnf n.cs.length n.rs.length c false _ hc hk1.1 hb) ?_
    (try simp only[↓jr,jw,seval])
    refine JDC.use (s_small n hn (nnf c false) hk2.1 (by omega) _) ?_
    (try simp only[↓jr,jw,seval])
    refine JDRAW.oc (by (try simp only[↓jr,jw,seval,jq,qe2,qe3,ext_next,ext_tnext,pushTok_next,List.length_cons,List.length_nil]) <;> (repeat' (first | exact trivial | refine And.intro ?_ ?_ | exact Nat.le_refl _ | omega | (unfold pid; omega)))) ?_
    (try simp only[↓jr,jw,seval])
    refine JFIN.rb ?_
    unfold norC norE; rw [if_pos h, if_pos h]
    exact SubB.tup ⟨SubB.agg (SubBs.pure (Con.pur _)), SubB.v, True.intro⟩
  · (try simp only[↓jr,jw,seval])
    refine JFIN.rb ?_
    unfold norC norE; rw [if_neg h, if_neg h]
    exact SubB.tup ⟨SubB.agg nilC_sub, SubB.v, True.intro⟩
end
end Go.Proofs.YtcajjicdbphkpaaGreatDoor.Pg
