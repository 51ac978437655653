/-
  The names that a concept uses: the program.
-/
import Derived.Test.YtcjlpklgnknpgaaGreatDoorUe
set_option linter.unusedVariables false
set_option linter.unusedSimpArgs false
set_option maxRecDepth 100000
set_option maxHeartbeats 8000000
namespace Go.Proofs.YtcjlpklgnknpgaaGreatDoor.Pg
open Go
theorem cnsI_nodup : ∀ (l : List Con) (a : List Int), a.Nodup → (cnsI a l).Nodup
  | [], _, h => h
  | .mk o n k :: l, a, h => by
    simp only [cnsI]
    refine cnsI_nodup l _ ?_
    split
    · exact insI_nodup h
    · exact h
theorem rlsI_nodup : ∀ (l : List Con) (a : List Int), a.Nodup → (rlsI a l).Nodup
  | [], _, h => h
  | .mk o n k :: l, a, h => by
    simp only [rlsI]
    refine rlsI_nodup l _ ?_
    split
    · exact insI_nodup h
    · exact h
theorem cnsI_len : ∀ (l : List Con) (a : List Int), (cnsI a l).length ≤ a.length + l.length
  | [], _ => Nat.le_refl _
  | .mk o n k :: l, a => by
    simp only [cnsI, List.length_cons]
    refine Nat.le_trans (cnsI_len l _) ?_
    split
    · have := insI_len (ks := a) (n := n); omega
    · omega
theorem rlsI_len : ∀ (l : List Con) (a : List Int), (rlsI a l).length ≤ a.length + l.length
  | [], _ => Nat.le_refl _
  | .mk o n k :: l, a => by
    simp only [rlsI, List.length_cons]
    refine Nat.le_trans (rlsI_len l _) ?_
    split
    · have := insI_len (ks := a) (n := n.tdiv 2); omega
    · omega
theorem cnsI_R64 : ∀ (l : List Con) (a : List Int), (∀ x ∈ l, x.ok) → (∀ x ∈ a, R64 x) → ∀ x ∈ cnsI a l, R64 x
  | [], _, _, h, x, hx => h x hx
  | .mk o n k :: l, a, hl, h, x, hx => by
    simp only [cnsI] at hx
    refine cnsI_R64 l _ (fun y hy => hl y (List.mem_cons_of_mem _ hy)) ?_ x hx
    have := hl _ (List.mem_cons_self ..)
    simp only [Con.ok] at this
    intro y hy
    split at hy
    · rcases insI_mem.1 hy with q | rfl
      · exact h y q
      · exact this.2.1
    · exact h y hy
theorem rlsI_R64 : ∀ (l : List Con) (a : List Int), (∀ x ∈ l, x.ok) → (∀ x ∈ a, R64 x) → ∀ x ∈ rlsI a l, R64 x
  | [], _, _, h, x, hx => h x hx
  | .mk o n k :: l, a, hl, h, x, hx => by
    simp only [rlsI] at hx
    refine rlsI_R64 l _ (fun y hy => hl y (List.mem_cons_of_mem _ hy)) ?_ x hx
    have := hl _ (List.mem_cons_self ..)
    simp only [Con.ok] at this
    intro y hy
    split at hy
    · rcases insI_mem.1 hy with q | rfl
      · exact h y q
      · exact R64_tdiv2 this.2.1
    · exact h y hy
theorem wf_R64 {x : Int} (h : R64 x) : (Lit.int .i64 x).wf = true := by
  unfold R64 at h
  simp only [Lit.wf, Bool.and_eq_true, decide_eq_true_eq]
  exact h
mutual
theorem pre_len : ∀ c : Con, (pre c).length = c.nodes
  | .mk o n l => by simp only [pre, List.length_cons, Con.nodes, preL_len l]; omega
theorem preL_len : ∀ l : List Con, (preL l).length = Con.nodesL l
  | [] => rfl
  | c :: l => by simp only [preL, List.length_append, Con.nodesL, pre_len c, preL_len l]
end
abbrev SLI (l : List Int) : AV := .sl .none l.length (ints l)
section
variable {m : GM}
end
end Go.Proofs.YtcjlpklgnknpgaaGreatDoor.Pg
