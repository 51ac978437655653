/-
  The names that a knowledge base uses: both ways agree, plain.
-/
import Derived.Test.YtcjlpklgnknpgaaGreatDoorWe
set_option linter.unusedVariables false
set_option linter.unusedSimpArgs false
namespace Go.Proofs.YtcjlpklgnknpgaaGreatDoor.Pg
open Go
def wcA (a : List Int) : List Con → List Int
  | [] => a
  | c :: l => wcA (rcI a (pre c)) l
def wcR (a : List Int) : List Con → List Int
  | [] => a
  | c :: l => wcR (rrI a (pre c)) l
def wrR (a : List Int) : List RIn → List Int
  | [] => a
  | x :: l => wrR (insR (insR a (x.sub.tdiv 2)) (x.sup.tdiv 2)) l
def wfI (a : List Int) : List Fac → List Int
  | [] => a
  | x :: l => wfI (insR a x.ind) l
def wlR (a : List Int) : List Lnk → List Int
  | [] => a
  | x :: l => wlR (insR a x.role) l
def wlI (a : List Int) : List Lnk → List Int
  | [] => a
  | x :: l => wlI (insR (insR a x.fr) x.to) l
def SameM (a b : List Int) : Prop := ∀ x, x ∈ a ↔ x ∈ b
theorem SameM.rfl {a : List Int} : SameM a a := fun _ => Iff.rfl
theorem wcA_up : ∀ (l : List Con) (a : List Int), Up a → Up (wcA a l)
  | [], _, h => h
  | c :: l, a, h => wcA_up l _ (rcI_up _ _ h)
theorem wcR_up : ∀ (l : List Con) (a : List Int), Up a → Up (wcR a l)
  | [], _, h => h
  | c :: l, a, h => wcR_up l _ (rrI_up _ _ h)
theorem wrR_up : ∀ (l : List RIn) (a : List Int), Up a → Up (wrR a l)
  | [], _, h => h
  | x :: l, a, h => wrR_up l _ (insR_up _ _ (insR_up _ _ h))
theorem wfI_up : ∀ (l : List Fac) (a : List Int), Up a → Up (wfI a l)
  | [], _, h => h
  | x :: l, a, h => wfI_up l _ (insR_up _ _ h)
theorem wlR_up : ∀ (l : List Lnk) (a : List Int), Up a → Up (wlR a l)
  | [], _, h => h
  | x :: l, a, h => wlR_up l _ (insR_up _ _ h)
theorem wlI_up : ∀ (l : List Lnk) (a : List Int), Up a → Up (wlI a l)
  | [], _, h => h
  | x :: l, a, h => wlI_up l _ (insR_up _ _ (insR_up _ _ h))
theorem wcA_app : ∀ (l m : List Con) (a : List Int), wcA a (l ++ m) = wcA (wcA a l) m
  | [], _, _ => rfl
  | c :: l, m, a => wcA_app l m _
theorem wcR_app : ∀ (l m : List Con) (a : List Int), wcR a (l ++ m) = wcR (wcR a l) m
  | [], _, _ => rfl
  | c :: l, m, a => wcR_app l m _
theorem uiA_same : ∀ (l : List Inc) (a b : List Int), SameM a b → SameM (wcA a (consI l)) (uiA b l)
  | [], _, _, h => h
  | x :: l, a, b, h => uiA_same l _ _ (rc_mem _ _ _ (rc_mem _ _ _ h))
theorem ufA_same : ∀ (l : List Fac) (a b : List Int), SameM a b → SameM (wcA a (consF l)) (ufA b l)
  | [], _, _, h => h
  | x :: l, a, b, h => ufA_same l _ _ (rc_mem _ _ _ h)
theorem uiR_same : ∀ (l : List Inc) (a b : List Int), SameM a b → SameM (wcR a (consI l)) (uiR b l)
  | [], _, _, h => h
  | x :: l, a, b, h => uiR_same l _ _ (rr_mem _ _ _ (rr_mem _ _ _ h))
theorem ufR_same : ∀ (l : List Fac) (a b : List Int), SameM a b → SameM (wcR a (consF l)) (ufR b l)
  | [], _, _, h => h
  | x :: l, a, b, h => ufR_same l _ _ (rr_mem _ _ _ h)
theorem SameM.ins {a b : List Int} (h : SameM a b) (n : Int) : SameM (insR a n) (insI b n) := fun x => by rw [insR_mem, insI_mem, h x]
theorem wfI_same : ∀ (l : List Fac) (a b : List Int), SameM a b → SameM (wfI a l) (ufI b l)
  | [], _, _, h => h
  | x :: l, a, b, h => wfI_same l _ _ (h.ins _)
theorem wlR_same : ∀ (l : List Lnk) (a b : List Int), SameM a b → SameM (wlR a l) (ulR b l)
  | [], _, _, h => h
  | x :: l, a, b, h => wlR_same l _ _ (h.ins _)
theorem wlI_same : ∀ (l : List Lnk) (a b : List Int), SameM a b → SameM (wlI a l) (ulI b l)
  | [], _, _, h => h
  | x :: l, a, b, h => wlI_same l _ _ ((h.ins _).ins _)
theorem wrR_same : ∀ (l : List RIn) (a b : List Int), SameM a b → SameM (wrR a l) (urR b l)
  | [], _, _, h => h
  | x :: l, a, b, h => wrR_same l _ _ ((h.ins _).ins _)
/-- Marking the roles before or after the facts. -/
theorem rls_mem : ∀ (l : List Con) (a : List Int) (x : Int), x ∈ rlsI a l ↔ x ∈ a ∨ x ∈ rlsI [] l
  | [], _, _ => by simp [rlsI]
  | .mk o n k :: l, a, x => by
    simp only [rlsI]
    split
    · rw [rls_mem l (insI a _), rls_mem l (insI [] _), insI_mem, insI_mem]; simp only [List.not_mem_nil, false_or, or_assoc]
    · exact rls_mem l a x
theorem ufR_mem : ∀ (l : List Fac) (a : List Int) (x : Int), x ∈ ufR a l ↔ x ∈ a ∨ x ∈ ufR [] l
  | [], _, _ => by simp [ufR]
  | y :: l, a, x => by
    simp only [ufR]
    rw [ufR_mem l (rlsI a _), ufR_mem l (rlsI [] _), rls_mem _ a, or_assoc]
theorem urR_mem : ∀ (l : List RIn) (a : List Int) (x : Int), x ∈ urR a l ↔ x ∈ a ∨ x ∈ urR [] l
  | [], _, _ => by simp [urR]
  | y :: l, a, x => by
    simp only [urR]
    rw [urR_mem l (insI (insI a _) _), urR_mem l (insI (insI [] _) _)]; simp only [insI_mem, List.not_mem_nil, false_or, or_assoc]
theorem urf_same (r : List RIn) (f : List Fac) (a : List Int) : SameM (urR (ufR a f) r) (ufR (urR a r) f) := fun x => by
  rw [urR_mem r (ufR a f), ufR_mem f a x, ufR_mem f (urR a r), urR_mem r a x, or_right_comm]
theorem SameM.trans {a b c : List Int} (h : SameM a b) (k : SameM b c) : SameM a c := fun x => (h x).trans (k x)
theorem ulR_mono : ∀ (l : List Lnk) (a b : List Int), SameM a b → SameM (ulR a l) (ulR b l)
  | [], _, _, h => h
  | x :: l, a, b, h => ulR_mono l _ _ (fun y => by rw [insI_mem, insI_mem, h y])
theorem uiA_nd : ∀ (l : List Inc) (a : List Int), a.Nodup → (uiA a l).Nodup
  | [], _, h => h
  | x :: l, a, h => uiA_nd l _ (cnsI_nodup _ _ (cnsI_nodup _ _ h))
theorem ufA_nd : ∀ (l : List Fac) (a : List Int), a.Nodup → (ufA a l).Nodup
  | [], _, h => h
  | x :: l, a, h => ufA_nd l _ (cnsI_nodup _ _ h)
theorem uiR_nd : ∀ (l : List Inc) (a : List Int), a.Nodup → (uiR a l).Nodup
  | [], _, h => h
  | x :: l, a, h => uiR_nd l _ (rlsI_nodup _ _ (rlsI_nodup _ _ h))
theorem ufR_nd : ∀ (l : List Fac) (a : List Int), a.Nodup → (ufR a l).Nodup
  | [], _, h => h
  | x :: l, a, h => ufR_nd l _ (rlsI_nodup _ _ h)
theorem urR_nd : ∀ (l : List RIn) (a : List Int), a.Nodup → (urR a l).Nodup
  | [], _, h => h
  | x :: l, a, h => urR_nd l _ (insI_nodup (insI_nodup h))
theorem ufI_nd : ∀ (l : List Fac) (a : List Int), a.Nodup → (ufI a l).Nodup
  | [], _, h => h
  | x :: l, a, h => ufI_nd l _ (insI_nodup h)
theorem ulR_nd : ∀ (l : List Lnk) (a : List Int), a.Nodup → (ulR a l).Nodup
  | [], _, h => h
  | x :: l, a, h => ulR_nd l _ (insI_nodup h)
theorem ulI_nd : ∀ (l : List Lnk) (a : List Int), a.Nodup → (ulI a l).Nodup
  | [], _, h => h
  | x :: l, a, h => ulI_nd l _ (insI_nodup (insI_nodup h))
theorem srt_same {a b : List Int} (ha : a.Nodup) (hb : Up b) (h : SameM b a) : srt a = b :=
  Up.eq (srt_up ha) hb fun x => by
    rw [show x ∈ srt a ↔ x ∈ a from (List.mergeSort_perm _ _).mem_iff]
    exact (h x).symm
theorem kbUses_A (b : Bas) : srt (ufA (uiA [] b.incls) b.facts) = wcA [] b.cons := by
  unfold Bas.cons
  rw [wcA_app]
  exact srt_same (ufA_nd _ _ (uiA_nd _ _ List.nodup_nil)) (wcA_up _ _ (wcA_up _ _ List.Pairwise.nil)) (ufA_same _ _ _ (uiA_same _ _ _ SameM.rfl))
theorem kbUses_R (b : Bas) : srt (ulR (ufR (urR (uiR [] b.incls) b.roles) b.facts) b.links) = wlR (wrR (wcR [] b.cons) b.roles) b.links := by
  unfold Bas.cons
  rw [wcR_app]
  refine srt_same (ulR_nd _ _ (ufR_nd _ _ (urR_nd _ _ (uiR_nd _ _ List.nodup_nil)))) (wlR_up _ _ (wrR_up _ _ (wcR_up _ _ (wcR_up _ _ List.Pairwise.nil)))) ?_
  exact (wlR_same _ _ _ (wrR_same _ _ _ (ufR_same _ _ _ (uiR_same _ _ _ SameM.rfl)))).trans (ulR_mono _ _ _ (urf_same _ _ _))
theorem kbUses_I (b : Bas) : srt (ulI (ufI [] b.facts) b.links) = wlI (wfI [] b.facts) b.links :=
  srt_same (ulI_nd _ _ (ufI_nd _ _ List.nodup_nil)) (wlI_up _ _ (wfI_up _ _ List.Pairwise.nil)) (wlI_same _ _ _ (wfI_same _ _ _ SameM.rfl))
end Go.Proofs.YtcjlpklgnknpgaaGreatDoor.Pg
