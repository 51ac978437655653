/-
  Trees whose numbers are put in.
-/
import Derived.Test.YtcajjicdbphkpaaDoorQs
set_option linter.unusedVariables false
set_option linter.unusedSimpArgs false
set_option maxRecDepth 100000
set_option maxHeartbeats 8000000
namespace Go.Proofs.YtcajjicdbphkpaaDoor.Pg
open Go
def updV (v : Nat → Int) (i : Nat) (x : Int) : Nat → Int := fun k => if k = i then x else v k
mutual
theorem TRep.at {v : Nat → Int} {j : JH} {ro i : Nat} : ∀ (t : IT), i ∈ t.ids → TRep v j ro t → ∃ op sl, gA j ro i (.cells TE [I64 op, I64 (v i), .sl .nil 0 [], sl]) ∧ AV.low j.next j.tnext sl = true
  | .mk k op ref l, hi, h => by
    simp only [IT.ids, List.mem_cons] at hi
    simp only [TRep] at h
    obtain ⟨⟨tok, h1, hw⟩, h2⟩ := h
    rcases hi with rfl | hi
    · exact ⟨op, _, h1, hw⟩
    · exact TReps.at l hi h2
theorem TReps.at {v : Nat → Int} {j : JH} {ro i : Nat} : ∀ (l : List IT), i ∈ IT.idsL l → TReps v j ro l → ∃ op sl, gA j ro i (.cells TE [I64 op, I64 (v i), .sl .nil 0 [], sl]) ∧ AV.low j.next j.tnext sl = true
  | [], hi, _ => by simp [IT.idsL] at hi
  | t :: l, hi, h => by
    simp only [IT.idsL, List.mem_append] at hi
    simp only [TReps] at h
    rcases hi with hi | hi
    · exact TRep.at t hi h.1
    · exact TReps.at l hi h.2
end
mutual
theorem TRep.same {v v' : Nat → Int} {j : JH} {ro : Nat} : ∀ (t : IT), (∀ i ∈ t.ids, v' i = v i) → TRep v j ro t → TRep v' j ro t
  | .mk k op ref l, hv, h => by
    simp only [IT.ids, List.mem_cons] at hv
    simp only [TRep] at h ⊢
    obtain ⟨⟨tok, h1, hw⟩, h2⟩ := h
    exact ⟨⟨tok, by rw [hv k (.inl rfl)]; exact h1, hw⟩, TReps.same l (fun i hi => hv i (.inr hi)) h2⟩
theorem TReps.same {v v' : Nat → Int} {j : JH} {ro : Nat} : ∀ (l : List IT), (∀ i ∈ IT.idsL l, v' i = v i) → TReps v j ro l → TReps v' j ro l
  | [], _, _ => True.intro
  | t :: l, hv, h => by
    simp only [IT.idsL, List.mem_append] at hv
    simp only [TReps] at h ⊢
    exact ⟨TRep.same t (fun i hi => hv i (.inl hi)) h.1, TReps.same l (fun i hi => hv i (.inr hi)) h.2⟩
end
theorem upd_set {j : JH} {ro i : Nat} {op x y : Int} {sl : AV} (h : gA j ro i (.cells TE [I64 op, I64 x, .sl .nil 0 [], sl])) : Upd ro i j (j.set i (.cells TE [I64 op, I64 y, .sl .nil 0 [], sl])) :=
  ⟨rfl, Nat.le_refl _, fun o ho _ => by rw [set_get, if_neg ho], ⟨_, h.2.2⟩⟩
mutual
theorem TRep.put {v : Nat → Int} {j : JH} {ro i : Nat} {op x : Int} {sl : AV} (hg : gA j ro i (.cells TE [I64 op, I64 (v i), .sl .nil 0 [], sl])) : ∀ (t : IT), t.ids.Nodup → TRep v j ro t → TRep (updV v i x) (j.set i (.cells TE [I64 op, I64 x, .sl .nil 0 [], sl])) ro t
  | .mk k op' ref l, hd, h => by
    simp only [IT.ids, List.nodup_cons] at hd
    simp only [TRep] at h ⊢
    obtain ⟨⟨tok, h1, hw⟩, h2⟩ := h
    by_cases e : k = i
    · subst e
      have e1 := h1.2.2.symm.trans hg.2.2
      simp only [Option.some.injEq, AObj.cells.injEq, List.cons.injEq, true_and, and_true, AV.v.injEq, Value.int.injEq] at e1
      obtain ⟨e2, e3⟩ := e1
      refine ⟨⟨tok, ⟨h1.1, h1.2.1, by rw [set_get, if_pos rfl, ← e2, ← e3]; simp [updV]⟩, hw⟩, ?_⟩
      exact TReps.same l (fun i hi => by
        have hne : ¬ i = k := fun q => hd.1 (by rw [← q]; exact hi)
        unfold updV; rw [if_neg hne]) (TReps.upd (upd_set hg) l hd.1 h2)
    · refine ⟨⟨tok, ⟨h1.1, h1.2.1, by rw [set_get, if_neg e]; unfold updV; rw [if_neg e]; exact h1.2.2⟩, hw⟩, TReps.put hg l hd.2 h2⟩
theorem TReps.put {v : Nat → Int} {j : JH} {ro i : Nat} {op x : Int} {sl : AV} (hg : gA j ro i (.cells TE [I64 op, I64 (v i), .sl .nil 0 [], sl])) : ∀ (l : List IT), (IT.idsL l).Nodup → TReps v j ro l → TReps (updV v i x) (j.set i (.cells TE [I64 op, I64 x, .sl .nil 0 [], sl])) ro l
  | [], _, _ => True.intro
  | t :: l, hd, h => by
    simp only [IT.idsL] at hd
    obtain ⟨d1, d2, _⟩ := List.nodup_append.1 hd
    simp only [TReps] at h ⊢
    exact ⟨TRep.put hg t d1 h.1, TReps.put hg l d2 h.2⟩
end
end Go.Proofs.YtcajjicdbphkpaaDoor.Pg
