/-
  The names that a concept uses: the program.
-/
import Derived.Test.YtcajjicdbphkpaaGreatDoorUe
set_option linter.unusedVariables false
set_option linter.unusedSimpArgs false
set_option maxRecDepth 100000
set_option maxHeartbeats 8000000
namespace Go.Proofs.YtcajjicdbphkpaaGreatDoor.Pg
open Go
theorem cnsI_nodup : ∀ (l : List Con) (a : List Int), a.Nodup → (cnsI a l).Nodup
  | [], _, h => h
  | .mk o n k :: l, a, h => by
    simp only [cnsI]
    refine cnsI_nodup l _ ?_
    split
    · exact insI_nodup h
    · exact h
theorem rlsI_nodup : ∀ (l : List Con) (a : List Int), a.Nodup → (rlsI a l).Nodup
  | [], _, h => h
  | .mk o n k :: l, a, h => by
    simp only [rlsI]
    refine rlsI_nodup l _ ?_
    split
    · exact insI_nodup h
    · exact h
theorem cnsI_len : ∀ (l : List Con) (a : List Int), (cnsI a l).length ≤ a.length + l.length
  | [], _ => Nat.le_refl _
  | .mk o n k :: l, a => by
    simp only [cnsI, List.length_cons]
    refine Nat.le_trans (cnsI_len l _) ?_
    split
    · have := insI_len (ks := a) (n := n); omega
    · omega
theorem rlsI_len : ∀ (l : List Con) (a : List Int), (rlsI a l).length ≤ a.length + l.length
  | [], _ => Nat.le_refl _
  | .mk o n k :: l, a => by
    simp only [rlsI, List.length_cons]
    refine Nat.le_trans (rlsI_len l _) ?_
    split
    · have := insI_len (ks := a) (n := n.tdiv 2); omega
    · omega
theorem cnsI_R64 : ∀ (l : List Con) (a : List Int), (∀ x ∈ l, x.ok) → (∀ x ∈ a, R64 x) → ∀ x ∈ cnsI a l, R64 x
  | [], _, _, h, x, hx => h x hx
  | .mk o n k :: l, a, hl, h, x, hx => by
    simp only [cnsI] at hx
    refine cnsI_R64 l _ (fun y hy => hl y (List.mem_cons_of_mem _ hy)) ?_ x hx
    have := hl _ (List.mem_cons_self ..)
    simp only [Con.ok] at this
    intro y hy
    split at hy
    · rcases insI_mem.1 hy with q | rfl
      · exact h y q
      · exact this.2.1
    · exact h y hy
theorem rlsI_R64 : ∀ (l : List Con) (a : List Int), (∀ x ∈ l, x.ok) → (∀ x ∈ a, R64 x) → ∀ x ∈ rlsI a l, R64 x
  | [], _, _, h, x, hx => h x hx
  | .mk o n k :: l, a, hl, h, x, hx => by
    simp only [rlsI] at hx
    refine rlsI_R64 l _ (fun y hy => hl y (List.mem_cons_of_mem _ hy)) ?_ x hx
    have := hl _ (List.mem_cons_self ..)
    simp only [Con.ok] at this
    intro y hy
    split at hy
    · rcases insI_mem.1 hy with q | rfl
      · exact h y q
      · exact R64_tdiv2 this.2.1
    · exact h y hy
theorem wf_R64 {x : Int} (h : R64 x) : (Lit.int .i64 x).wf = true := by
  unfold R64 at h
  simp only [Lit.wf, Bool.and_eq_true, decide_eq_true_eq]
  exact h
mutual
theorem pre_len : ∀ c : Con, (pre c).length = c.nodes
  | .mk o n l => by simp only [pre, List.length_cons, Con.nodes, preL_len l]; omega
theorem preL_len : ∀ l : List Con, (preL l).length = Con.nodesL l
  | [] => rfl
  | c :: l => by simp only [preL, List.length_append, Con.nodesL, pre_len c, preL_len l]
end
def usC (n : Nms) (c : Con) : List Int := if fineE n [c] = 0 then srt (cnsI [] (pre c)) else []
def usR (n : Nms) (c : Con) : List Int := if fineE n [c] = 0 then srt (rlsI [] (pre c)) else []
abbrev SLI (l : List Int) : AV := .sl .none l.length (ints l)
section
variable {m : GM}
def ir8 : IFn := ⟨27, [⟨4, none⟩, ⟨5, none⟩, ⟨6, none⟩], (.seq (.reg [oA 2 (.box 24 (.r 0)), oA 3 (.box 27 (.r 1)), oA 4 (.mov (.k (.sl .nil 0 []))), oA 5 (.mov (.k (.sl .nil 0 []))), oA 6 (.mov (kI 0))]) (.seq (.seq (.reg [oL 10 2 (some 3), oL 11 3 (some 3), oA 12 (.bsl 1 3 [.v (.int .i64 0), .v (.int .i64 0), .sl .nil 0 []] [(0, (3, .r 11))]), oA 13 (.call 19 [.r 10, .r 12]), oA 7 (kM 13)]) (.seq (.reg [oA 14 (kM 7), oA 15 (.bin .neq (.r 14) (kI 0))]) (.cond (.r 15) (.seq (.reg [oA 16 (kM 7), oA 4 (.mov (.k (.sl .nil 0 []))), oA 5 (.mov (.k (.sl .nil 0 []))), oA 6 (kM 16)]) .ret) .skip))) (.seq (.reg [oA 17 (.mkmap), oA 18 (.mkmap), oA 8 (kM 17), oA 9 (kM 18)]) (.seq (.reg [oL 19 3 (some 3), oA 20 (kM 8), oA 21 (kM 9), oA 22 (.call 23 [.r 19, .r 20, .r 21])]) (.seq (.reg [oA 23 (kM 8), oT 24 23 (.call 24 [.r 23]), oA 25 (kM 9), oT 26 25 (.call 24 [.r 25]), oA 4 (kM 24), oA 5 (kM 26), oA 6 (.mov (kI 0))]) .ret)))))⟩
theorem c8 : cfunc Tryz.prog 8 = some ir8 := by kernel_rfl
theorem k8 : okIR (max 2 ir8.n) ir8.ir = true := by decide +kernel
theorem s_Uses (n : Nms) (hn : n.ok) (hs : n.short) (c : Con) (hc : c.ok) (hb : c.nodes ≤ 1000000) (j : JH) :
    JC Tryz.prog (GG m) 8 [.agg n.enc, .agg c.enc] j (RET (.tup [SLI (usC n c), SLI (usR n c), I64 (fineE n [c])]) j) := by
  refine JC.run hmix c8 (by exact k8) ?_
  (try simp only[↓jr,jw,seval,ir8])
  have hf := s_fine (m := m) n hn hs [c] (.own j.tnext 0 3) ⟨hc, trivial⟩ (by simp) (fun d hd => by rw [List.mem_singleton.1 hd]; omega) (ext (j.pushTok 1) [.cells 24 n.enc, .cells 27 c.enc])
  rw [encs_cons, encs_nil, List.append_nil] at hf
  refine JCs.ret hf ?_
  (try simp only[↓jr,jw,seval])
  refine wq.intro (fun q => ?_) (fun q => ?_)
  rotate_left
  · (try simp only[↓jr,jw,seval])
    refine JFIN.rb ?_
    simp only [usC, usR, if_neg q]
    exact SubB.tup ⟨SubB.sl rfl True.intro, SubB.sl rfl True.intro, SubB.v, True.intro⟩
  (try simp only[↓jr,jw,seval])
  refine JCs.ret (s_Mark c hc (pid j.next 2) (pid j.next 3) [] [] _ (by unfold pid; omega) (by rw [ext_next, pushTok_next]; unfold pid; simp) (by rw [ext_next, pushTok_next]; unfold pid; simp) (by exact ext_get_new rfl) (by exact ext_get_new rfl)) ?_
  unfold jm
  (try simp only[↓jr,jw,seval])
  have hp : (pre c).length ≤ 1000000 := by rw [pre_len]; exact hb
  have z : ∀ x ∈ ([] : List Int), R64 x := fun x h => by cases h
  refine JCs.ret (s_Sorted _ (pid j.next 2) (cnsI [] (pre c)) (by exact ext_get_new rfl) (cnsI_nodup _ _ List.nodup_nil) (fun k hk => wf_R64 (cnsI_R64 _ _ (pre_ok c hc) z k hk)) (by have := cnsI_len (pre c) []; simp at this; omega)) ?_
  (try simp only[↓jr,jw,seval])
  refine JCs.ret (s_Sorted _ (pid j.next 3) (rlsI [] (pre c)) (by exact ext_get_new rfl) (rlsI_nodup _ _ List.nodup_nil) (fun k hk => wf_R64 (rlsI_R64 _ _ (pre_ok c hc) z k hk)) (by have := rlsI_len (pre c) []; simp at this; omega)) ?_
  (try simp only[↓jr,jw,seval])
  refine JFIN.rb ?_
  have hl : ∀ ks, (srt ks).length = ks.length := fun ks => (List.mergeSort_perm _ _).length_eq
  have hi : ∀ l, AV.pures (ints l) = true := fun l => ints_pur l
  simp only [usC, usR, if_pos q, SLI, hl]
  rw [q]
  exact SubB.tup ⟨SubB.sl rfl (SubBs.pure (hi _)), SubB.sl rfl (SubBs.pure (hi _)), SubB.v, True.intro⟩
end
end Go.Proofs.YtcajjicdbphkpaaGreatDoor.Pg
