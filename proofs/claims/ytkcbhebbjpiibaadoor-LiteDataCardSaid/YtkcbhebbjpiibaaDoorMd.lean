/-
  What is stated to be apart is so both ways.
-/
import Derived.Test.YtkcbhebbjpiibaaDoorLt
set_option linter.unusedVariables false
set_option linter.unusedSimpArgs false
set_option maxRecDepth 20000
set_option maxHeartbeats 1000000
namespace Go.Proofs.YtkcbhebbjpiibaaDoor.Pg
open Go
/-- Outside of what is stated apart, the two are alike or not; there they are. -/
def aSame (N M : Nat) : Prop := ∀ k, 928 ≤ k → k < 1712 → M.testBit k = N.testBit k
theorem aSame.refl (N : Nat) : aSame N N := fun _ _ _ => rfl
theorem aSame.put {N M i : Nat} (h : aSame N M) (hi : i < 928 ∨ 1712 ≤ i) : aSame N (put M i) := fun k h1 h2 => by
  rw [put_bit, h k h1 h2, decide_eq_false (by omega), Bool.or_false]
theorem aSame_fold {α : Type} {f : Nat → α → Nat} {N : Nat} : ∀ (l : List α) {M : Nat}, aSame N M → (∀ M x, x ∈ l → aSame N M → aSame N (f M x)) → aSame N (l.foldl f M)
  | [], M, h, _ => h
  | x :: l, M, h, k => aSame_fold l (k M x List.mem_cons_self h) fun M y hy => k M y (List.mem_cons_of_mem _ hy)
theorem aSame_tr {n b N M : Nat} (hr : ∀ i k, i < n → k < n → b + i * n + k < 928) (h : aSame N M) : aSame N (trJ n b M n) := by
  unfold trJ
  refine aSame_fold _ h fun M j hj hM => ?_
  unfold trI
  refine aSame_fold _ hM fun M i hi hM => ?_
  unfold trK
  refine aSame_fold _ hM fun M k hk hM => ?_
  unfold trS
  split
  · exact hM.put (.inl (hr i k (List.mem_range.1 hi) (List.mem_range.1 hk)))
  · exact hM
theorem aSame_vpass {N M : Nat} (h : aSame N M) (k : Nat) : aSame N (vpass M k).1 := by
  induction k with
  | zero => exact h
  | succ k ih =>
    rw [vpass_succ]
    unfold vstep
    split
    · exact ih.put (.inr (by omega))
    · exact ih
theorem aSame_voids {N : Nat} : ∀ (f : Nat) {M : Nat}, aSame N M → aSame N (voids f M)
  | 0, M, h => h
  | f + 1, M, h => by
    simp only [voids]
    split
    · exact aSame_voids f (aSame_vpass h 28)
    · exact aSame_vpass h 28
theorem tr28_lt {i k : Nat} (hi : i < 28) (hk : k < 28) : 0 + i * 28 + k < 928 := by omega
theorem tr12_lt {i k : Nat} (hi : i < 12) (hk : k < 12) : 784 + i * 12 + k < 928 := by omega
theorem aSame_rules (b : Bas) : aSame (stI b) (rulesN b) := by
  unfold rulesN voidN
  exact aSame_voids 29 (aSame_tr (fun i k hi hk => tr12_lt hi hk) (aSame_tr (fun i k hi hk => tr28_lt hi hk) (aSame.refl _)))
def aSym (N : Nat) : Prop := ∀ x y, x < 28 → y < 28 → apt N x y = apt N y x
theorem aSym.same {N M : Nat} (h : aSym N) (k : aSame N M) : aSym M := fun x y hx hy => by
  simp only [apt]
  rw [k _ (by omega) (by omega), k _ (by omega) (by omega)]
  exact h x y hx hy
theorem aSym.put2 {N c d : Nat} (h : aSym N) (hc : c < 28) (hd : d < 28) : aSym (put (put N (928 + c * 28 + d)) (928 + d * 28 + c)) := fun x y hx hy => by
  have := h x y hx hy
  simp only [apt] at this ⊢
  rw [put_bit, put_bit, put_bit, put_bit, this]
  have e1 : decide (928 + c * 28 + d = 928 + x * 28 + y) = decide (c = x ∧ d = y) := decide_eq_decide.2 ⟨fun _ => by omega, fun ⟨p, q⟩ => by subst p; subst q; rfl⟩
  have e2 : decide (928 + d * 28 + c = 928 + x * 28 + y) = decide (d = x ∧ c = y) := decide_eq_decide.2 ⟨fun _ => by omega, fun ⟨p, q⟩ => by subst p; subst q; rfl⟩
  have e3 : decide (928 + c * 28 + d = 928 + y * 28 + x) = decide (d = x ∧ c = y) := decide_eq_decide.2 ⟨fun _ => by omega, fun ⟨p, q⟩ => by subst p; subst q; rfl⟩
  have e4 : decide (928 + d * 28 + c = 928 + y * 28 + x) = decide (c = x ∧ d = y) := decide_eq_decide.2 ⟨fun _ => by omega, fun ⟨p, q⟩ => by subst p; subst q; rfl⟩
  rw [e1, e2, e3, e4]
  cases (N.testBit (928 + y * 28 + x)) <;> cases decide (c = x ∧ d = y) <;> cases decide (d = x ∧ c = y) <;> rfl
theorem aSym.inS {N c d : Nat} {no bot : Bool} (h : aSym N) (hc : c < 28) (hd : d < 28) : aSym (inS N c d no bot) := by
  unfold Pg.inS
  split
  · have := h.put2 hc hc
    have e : put (put N (928 + c * 28 + c)) (928 + c * 28 + c) = put N (928 + c * 28 + c) := by
      refine Nat.eq_of_testBit_eq fun i => ?_
      rw [put_bit, put_bit, Bool.or_assoc, Bool.or_self]
    rwa [e] at this
  · split
    · exact h.put2 hc hd
    · exact h.same ((aSame.refl N).put (.inl (by omega)))
theorem aSym_dg : aSym (dgB 12) := fun x y hx hy => by
  have h : aSame 0 (dgB 12) := by
    unfold dgB
    refine aSame_fold _ ?_ fun M i hi hM => hM.put (.inl (by have := List.mem_range.1 hi; omega))
    unfold dgA
    exact aSame_fold _ (aSame.refl 0) fun M i hi hM => hM.put (.inl (by have := List.mem_range.1 hi; omega))
  simp only [apt]
  rw [h _ (by omega) (by omega), h _ (by omega) (by omega)]
  simp
theorem aSym_stR {b : Bas} (hl : b.lite) : aSym (stR b) := by
  refine aSym_dg.same ?_
  unfold stR
  refine aSame_fold _ (aSame.refl _) fun M x hx hM => ?_
  obtain ⟨s, p, e1, e2, hs, hp⟩ := hl.rol x hx
  have h1 := xor_lt hs
  have h2 := xor_lt hp
  unfold rlR
  rw [e1, e2, Int.toNat_natCast, Int.toNat_natCast]
  unfold rlS
  exact (((hM.put (.inl (by omega))).put (.inl (by omega))).put (.inl (by omega))).put (.inl (by omega))
theorem aSym_fold {b : Bas} : ∀ (l : List Inc) {M : Nat}, aSym M → (∀ x ∈ l, ∃ c d : Nat, numC x.sub = c ∧ (rhsC x.sup).1 = d ∧ c < 28 ∧ d < 28) → aSym (l.foldl inR M)
  | [], M, h, _ => h
  | x :: l, M, h, k => by
    refine aSym_fold (b := b) l ?_ fun y hy => k y (List.mem_cons_of_mem _ hy)
    obtain ⟨c, d, e1, e2, hc, hd⟩ := k x List.mem_cons_self
    unfold inR
    rw [e1, e2, Int.toNat_natCast, Int.toNat_natCast]
    exact h.inS hc hd
theorem aSym_rules {b : Bas} (hl : b.lite) : aSym (rulesN b) := by
  refine aSym.same ?_ (aSame_rules b)
  unfold stI
  exact aSym_fold (b := b) _ (aSym_stR hl) hl.inc
theorem confl_symm {N c d : Nat} (h : aSym N) : confl N c d = confl N d c := by
  have one : ∀ {c d : Nat}, confl N c d = true → confl N d c = true := fun {c d} q => by
    unfold confl at q
    rw [List.any_eq_true] at q
    obtain ⟨x, hx, q⟩ := q
    rw [List.any_eq_true] at q
    obtain ⟨y, hy, q⟩ := q
    simp only [Bool.and_eq_true] at q
    have hx' := List.mem_range.1 hx
    have hy' := List.mem_range.1 hy
    exact any_hit hy' (any_hit hx' (by simp only [Bool.and_eq_true]; exact ⟨⟨q.1.2, q.1.1⟩, by rw [h y x hy' hx']; exact q.2⟩))
  rw [Bool.eq_iff_iff]
  exact ⟨one, one⟩
theorem implR_dual {N c d : Nat} (h : aSym N) : implR N c d true false = implR N d c true false := by
  unfold implR
  rw [confl_symm (c := c) (d := d) h]
  simp only [Bool.not_false, Bool.true_and, if_true]
  cases emp N c <;> cases emp N d <;> rfl
end Go.Proofs.YtkcbhebbjpiibaaDoor.Pg
