/-
  KbForms: the walk of the law.
-/
import Derived.Test.YtcjlpklgnknpgaaGreatDoorWd
import Derived.Test.YtcjlpklgnknpgaaGreatDoorVb
set_option linter.unusedVariables false
set_option linter.unusedSimpArgs false
set_option maxRecDepth 100000
set_option maxHeartbeats 8000000
namespace Go.Proofs.YtcjlpklgnknpgaaGreatDoor.Pg
open Go
section
variable {m : GM}
theorem sumN_mem' : ∀ {l : List Con} {c : Con}, c ∈ l → c.nodes ≤ sumN l
 | d :: l, c, h => by
  simp only [sumN]
  rcases List.mem_cons.1 h with rfl | h
  ·omega
  ·have := sumN_mem' h; omega
structure Small3 (b : Bas) : Prop where
 i : b.incls.length ≤ 200
 r : b.roles.length ≤ 200
 f : b.facts.length ≤ 200
 l : b.links.length ≤ 200
 s : sumN b.cons ≤ 3000
 few : b.few
theorem few3 {b : Bas} (h : fewB 3000 b = true) : Small3 b := by
 unfold fewB at h
 simp only [Bool.and_eq_true, List.all_eq_true, decide_eq_true_eq] at h
 obtain ⟨⟨⟨⟨⟨⟨h1, h2⟩, h3⟩, h4⟩, _⟩, _⟩, h5⟩ := h
 have hs : sumN b.cons ≤ 3000 := by omega
 refine ⟨h1, h2, h3, h4, hs, fun x hx => ?_, fun x hx => ?_⟩
 ·obtain ⟨m1, m2⟩ := mem_consI hx
  have a1 := sumN_mem' (l := b.cons) (List.mem_append.2 (.inl m1))
  have a2 := sumN_mem' (l := b.cons) (List.mem_append.2 (.inl m2))
  omega
 ·have a1 := sumN_mem' (l := b.cons) (List.mem_append.2 (.inr (mem_consF hx)))
  omega
noncomputable def ir12 : IFn := ⟨5, [⟨2, none⟩], (.seq (.reg [oA 1 (.box 30 (.r 0)), oA 2 (.mov (kI 0))]) (.seq (.seq (.reg [oL 3 1 (some 7), oT 4 3 (.call 48 [.r 3])]) (.cond (.r 4) (.seq (.reg [oA 2 (.mov (kI 0))]) .ret) .skip)) (.seq (.reg [oA 2 (.mov (kI 20))]) .ret)))⟩
theorem c12 : cfunc Tryz.prog 12 = some ir12 := by kernel_rfl
theorem k12 : okIR (max 1 ir12.n) ir12.ir = true := by decide +kernel
theorem s_lfault (b : Bas) (hb : b.ok) (j : JH) : JC Tryz.prog (GG m) 12 [.agg b.enc] j (RET (I64 (basE b)) j) := by
 refine JC.run hmix c12 (by exact k12) ?_
 (try simp only[↓jr,jw,seval,ir12])
 refine JCs.ret (s_kIs b hb _) ?_
 rw [basR_eq]
 (try simp only[↓jr,jw,seval])
 refine ww.intro (fun hv => ?_) (fun hv => ?_)
 ·(try simp only[↓jr,jw,seval])
  refine JFIN.rb ?_
  unfold basE
  rw [if_pos hv]; exact SubB.v
 ·(try simp only[↓jr,jw,seval])
  refine JFIN.rb ?_
  unfold basE
  rw [if_neg (by rw [hv]; decide)]; exact SubB.v
end
end Go.Proofs.YtcjlpklgnknpgaaGreatDoor.Pg
