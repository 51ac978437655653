/-
  What the statement about forms asks and compares.
-/
import Derived.Test.YtnkkeenclhncmaaGreatDoorIp
set_option linter.unusedVariables false
set_option linter.unusedSimpArgs false
set_option maxRecDepth 100000
set_option maxHeartbeats 8000000
namespace Go.Proofs.YtnkkeenclhncmaaGreatDoor.Pg
open Go
section
variable {m : GM} {G : Nat → Option (List AV)}
theorem s_SamePairsI (l r : List (Int × Int)) (t1 t2 : Tok) (h1 : l.length ≤ 4000000000) (h2 : r.length ≤ 4000000000) (j : JH) : JC Tryz.prog G 33 [.sl t1 l.length (encs PR l), .sl t2 r.length (encs PR r)] j (RET (BOO (decide (l = r))) j) := by
  refine JC.run hmix c33 (by exact k33) ?_
  (try simp only[↓jr,jw,seval,ji,ir33])
  refine wq.intro (fun q => ?_) (fun q => ?_)
  · (try simp only[↓jr,jw,seval,ji])
    refine JLOOP.of (σ := Nat) (fun k => k ≤ l.length ∧ decide (l.drop k = r.drop k) = decide (l = r)) (fun k => l.length - k) (fun k => [(13, I64 k), (12, I64 l.length), (0, .sl .none l.length (encs PR l)), (1, .sl .none r.length (encs PR r))]) (fun k => ext j []) 0 ⟨by omega, rfl⟩ ?_ (JDropH.refl _) ?_
    · (try simp only[↓jr,jw,seval,ji,DL])
      exact ⟨SubB.v, SubB.v, SubB.sl rfl (SubBs.pure (PR.pur _)), SubB.sl rfl (SubBs.pure (PR.pur _))⟩
    rintro k ⟨hk, hI⟩
    (try simp only[↓jr,jw,seval,ji])
    refine wq.intro (fun q1 => ?_) (fun q1 => ?_)
    · have hlt : k < (l).length := by omega
      obtain ⟨x, u, hd⟩ : ∃ c_ l_, List.drop k (l) = c_ :: l_ := ⟨_, _, List.drop_eq_getElem_cons hlt⟩
      have hd1 : List.drop (k + 1) (l) = u := by rw [← List.drop_drop, hd]; rfl
      have hmem : x ∈ l := List.mem_of_mem_drop (hd ▸ List.mem_cons_self)
      obtain ⟨y, v, hr⟩ : ∃ y v, r.drop k = y :: v := ⟨_, _, List.drop_eq_getElem_cons (by omega)⟩
      have hr1 : r.drop (k + 1) = v := by rw [← List.drop_drop, hr]; rfl
      rw [hd, hr] at hI
      (try simp only[↓jr,jw,seval,ji,hd,hr])
      refine wc.intro (by omega) ?_
      (try simp only[↓jr,jw,seval,ji,hd,hr])
      refine wc.intro (by omega) ?_
      (try simp only[↓jr,jw,seval,ji,hd,hr])
      refine JDRAW.oc (by (try simp only[↓jr,jw,seval,ji,jq]) <;> exact orq) ?_; (try simp only[↓jr,jw,seval,ji])
      have exy : ((x.1 == y.1) && (x.2 == y.2)) = decide (x = y) := by
        obtain ⟨a, b⟩ := x
        obtain ⟨c, d⟩ := y
        rw [Bool.eq_iff_iff]
        simp
      rw [exy]
      refine ww.intro (fun q2 => ?_) (fun q2 => ?_)
      · (try simp only[↓jr,jw,seval,ji])
        have q2' : x = y := of_decide_eq_true q2
        subst q2'
        refine wc.intro (by unfold R64; omega) ?_
        (try simp only[↓jr,jw,seval,ji])
        refine JNEXT.of (k + 1) ⟨by omega, by rw [hd1, hr1, ← hI]; simp⟩ (by omega) ?_ JDropH.nx
        (try simp only[↓jr,jw,seval,ji,DL])
        exact ⟨SubB.v, SubB.v, SubB.sl rfl (SubBs.pure (PR.pur _)), SubB.sl rfl (SubBs.pure (PR.pur _))⟩
      · (try simp only[↓jr,jw,seval,ji])
        refine JFIN.rb ?_
        have q3 : ¬ x = y := of_decide_eq_false q2
        have e : decide (l = r) = false := by rw [← hI]; apply decide_eq_false; intro q4; injection q4 with q5 q6; exact q3 q5
        rw [e]; exact SubB.v
    · (try simp only[↓jr,jw,seval,ji])
      rw [List.drop_eq_nil_of_le (by omega), List.drop_eq_nil_of_le (by omega)] at hI
      refine JFIN.rb ?_
      rw [← hI]; exact SubB.v
  · (try simp only[↓jr,jw,seval,ji])
    refine JFIN.rb ?_
    rw [decide_eq_false (fun e => q (by rw [e]))]; exact SubB.v
end
end Go.Proofs.YtnkkeenclhncmaaGreatDoor.Pg
