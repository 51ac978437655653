/-
  The closure of the program and the reference's are one: what is stated.
-/
import Derived.Test.YtkcbhebbjpiibaaDoorOe
import Derived.Test.YtkcbhebbjpiibaaDoorOg
import Derived.Test.YtkcbhebbjpiibaaDoorMc
set_option linter.unusedVariables false
set_option linter.unusedSimpArgs false
set_option linter.defProp false
set_option maxRecDepth 20000
namespace Go.Proofs.YtkcbhebbjpiibaaDoor.Pg
open Go
section
section
section
/-! ### Matrices and edges -/
abbrev Eds := List (Nat × Nat)
def orL (f : Mx) (L : Eds) : Mx := fun r c => f r c || L.any fun e => decide (e.1 = r) && decide (e.2 = c)
theorem orL_iff {f : Mx} {L : Eds} {r c : Nat} : orL f L r c = true ↔ f r c = true ∨ (r, c) ∈ L := by
  unfold orL
  rw [Bool.or_eq_true, List.any_eq_true]
  refine or_congr Iff.rfl ⟨?_, fun h => ⟨_, h, by simp⟩⟩
  rintro ⟨⟨x, y⟩, h, e⟩
  simp only [Bool.and_eq_true, decide_eq_true_eq] at e
  obtain ⟨rfl, rfl⟩ := e; exact h
theorem orL_nil (f : Mx) : orL f [] = f := by funext r c; simp [orL]
theorem orL_app (f : Mx) (L M : Eds) : orL (orL f L) M = orL f (L ++ M) := by funext r c; simp only [orL, List.any_append, Bool.or_assoc]
theorem upd2_orL (f : Mx) (i k : Nat) : upd2 f i k true = orL f [(i, k)] := by
  funext r c
  rw [upd2_at]
  simp only [orL, List.any_cons, List.any_nil, Bool.or_false]
  by_cases h : r = i ∧ c = k
  · obtain ⟨rfl, rfl⟩ := h; simp
  · rw [if_neg h]
    have : (decide (i = r) && decide (k = c)) = false := by
      rw [Bool.eq_false_iff]; intro q
      simp only [Bool.and_eq_true, decide_eq_true_eq] at q
      exact h ⟨q.1.symm, q.2.symm⟩
    rw [this, Bool.or_false]
theorem fold_orL {α : Type} {g : Mx → α → Mx} {es : α → Eds} (h : ∀ f x, g f x = orL f (es x)) : ∀ (l : List α) (f : Mx), l.foldl g f = orL f (l.flatMap es)
  | [], f => by simp [orL_nil]
  | x :: l, f => by rw [List.foldl_cons, h, fold_orL h l, orL_app, List.flatMap_cons]
/-! ### The reference's -/
def roE (x : RIn) : Eds := [(x.sub.toNat, x.sup.toNat), (x.sub.toNat ^^^ 1, x.sup.toNat ^^^ 1)]
theorem rolB_eq (l : List RIn) : rolB l = orL (idm true) (l.flatMap roE) :=
  fold_orL (fun f x => by unfold stepB roE; rw [upd2_orL, upd2_orL, orL_app]; rfl) l _
def inU (b : Bas) (x : Inc) : Eds := if x.sup.op = 2 then [] else if x.sup.op = 3 then [] else [(idN b x.sub, idN b x.sup)]
def inA (b : Bas) (x : Inc) : Eds := if x.sup.op = 2 then [(idN b x.sub, idN b x.sub)] else if x.sup.op = 3 then [(idN b x.sub, idN b (x.sup.args.headD default)), (idN b (x.sup.args.headD default), idN b x.sub)] else []
theorem incS_eq (b : Bas) : ∀ (l : List Inc) (U A : Mx), l.foldl (stepI b) (U, A) = (orL U (l.flatMap (inU b)), orL A (l.flatMap (inA b)))
  | [], U, A => by simp [orL_nil]
  | x :: l, U, A => by
    have e : stepI b (U, A) x = (orL U (inU b x), orL A (inA b x)) := by
      unfold stepI inU inA
      by_cases h2 : x.sup.op = 2
      · simp only [if_pos h2, upd2_orL, orL_nil]
      · by_cases h3 : x.sup.op = 3
        · simp only [if_neg h2, if_pos h3, upd2_orL, orL_nil, orL_app]; rfl
        · simp only [if_neg h2, if_neg h3, upd2_orL, orL_nil]
    rw [List.foldl_cons, e, incS_eq b l, orL_app, orL_app, List.flatMap_cons, List.flatMap_cons]
theorem rowU_eq (c n : Nat) (B U : Mx) (s : Nat) : ∀ (k r x : Nat), rowU c n B U s k r x = (U r x || (decide (r = c + s) && decide (c ≤ x) && decide (x < c + k) && B s (x - c)))
  | 0, r, x => by
    have : (decide (c ≤ x) && decide (x < c + 0)) = false := by
      rw [Bool.eq_false_iff]; intro q; simp only [Bool.and_eq_true, decide_eq_true_eq] at q; omega
    unfold rowU; simp only [List.range_zero, List.foldl_nil]
    rw [Bool.and_assoc (decide (r = c + s)), this]; simp
  | k + 1, r, x => by
    rw [rowU_succ]
    unfold stepU
    rw [upd2_at, rowU_eq c n B U s k r x]
    by_cases h : r = c + s ∧ x = c + k
    · obtain ⟨rfl, rfl⟩ := h
      rw [if_pos ⟨rfl, rfl⟩, rowU_eq c n B U s k]
      have e : c + k - c = k := by omega
      simp only [e, decide_eq_false (by omega : ¬ c + k < c + k), decide_eq_true (by omega : c + k < c + (k + 1)), decide_true, Bool.and_true, Bool.and_false, Bool.false_and, Bool.true_and, Bool.or_false, decide_eq_true (by omega : c ≤ c + k)]
    · rw [if_neg h]
      congr 1
      by_cases hr : r = c + s
      · have hx : x ≠ c + k := fun q => h ⟨hr, q⟩
        rw [show decide (x < c + (k + 1)) = decide (x < c + k) from decide_eq_decide.2 (by omega)]
      · rw [decide_eq_false hr]; simp
theorem allU_eq (c n : Nat) (B U : Mx) : ∀ (k r x : Nat), allU c n B U k r x = (U r x || (decide (c ≤ r) && decide (r < c + k) && decide (c ≤ x) && decide (x < c + n) && B (r - c) (x - c)))
  | 0, r, x => by
    have : (decide (c ≤ r) && decide (r < c + 0)) = false := by
      rw [Bool.eq_false_iff]; intro q; simp only [Bool.and_eq_true, decide_eq_true_eq] at q; omega
    unfold allU; simp only [List.range_zero, List.foldl_nil]
    rw [this]; simp
  | k + 1, r, x => by
    rw [allU_succ, rowU_eq, allU_eq c n B U k r x, Bool.or_assoc]
    congr 1
    by_cases hr : r = c + k
    · subst hr
      have e : c + k - c = k := by omega
      rw [e, decide_eq_false (by omega : ¬ c + k < c + k), decide_eq_true (by omega : c + k < c + (k + 1)), decide_eq_true (by omega : c ≤ c + k)]; simp
    · rw [decide_eq_false hr, show decide (r < c + (k + 1)) = decide (r < c + k) from decide_eq_decide.2 (by omega)]; simp
/-! ### The program's -/
structure StB (N : Nat) (f g a : Mx) : Prop where
  f : BM 28 0 N f
  g : BM 12 784 N g
  a : BM 28 928 N a
  e : ∀ k, 1712 ≤ k → N.testBit k = false
theorem BM.out {n b N p : Nat} {f : Mx} (h : BM n b N f) (hp : p < b ∨ b + n * n ≤ p) : BM n b (Pg.put N p) f := fun i k hi hk => by
  rw [put_bit, h i k hi hk, decide_eq_false, Bool.or_false]
  have : (i + 1) * n ≤ n * n := Nat.mul_le_mul_right n (by omega)
  rw [Nat.add_mul] at this
  omega
theorem StB.pf {N : Nat} {f g a : Mx} (h : StB N f g a) {i k : Nat} (hi : i < 28) (hk : k < 28) : StB (put N (i * 28 + k)) (orL f [(i, k)]) g a := by
  refine ⟨?_, h.g.out (by omega), h.a.out (by omega), fun x hx => by rw [put_bit, h.e x hx, decide_eq_false (by omega)]; rfl⟩
  have := h.f.put hi hk
  rw [Nat.zero_add, upd2_orL] at this; exact this
theorem StB.pg {N : Nat} {f g a : Mx} (h : StB N f g a) {i k : Nat} (hi : i < 12) (hk : k < 12) : StB (put N (784 + i * 12 + k)) f (orL g [(i, k)]) a := by
  refine ⟨h.f.out (by omega), ?_, h.a.out (by omega), fun x hx => by rw [put_bit, h.e x hx, decide_eq_false (by omega)]; rfl⟩
  have := h.g.put hi hk
  rw [upd2_orL] at this; exact this
theorem StB.pa {N : Nat} {f g a : Mx} (h : StB N f g a) {i k : Nat} (hi : i < 28) (hk : k < 28) : StB (put N (928 + i * 28 + k)) f g (orL a [(i, k)]) := by
  refine ⟨h.f.out (by omega), h.g.out (by omega), ?_, fun x hx => by rw [put_bit, h.e x hx, decide_eq_false (by omega)]; rfl⟩
  have := h.a.put hi hk
  rw [upd2_orL] at this; exact this
theorem StB.congr {N : Nat} {f g a f' g' a' : Mx} (h : StB N f g a) (e1 : ∀ i k, i < 28 → k < 28 → f i k = f' i k) (e2 : ∀ i k, i < 12 → k < 12 → g i k = g' i k) (e3 : ∀ i k, i < 28 → k < 28 → a i k = a' i k) : StB N f' g' a' := ⟨h.f.congr e1, h.g.congr e2, h.a.congr e3, h.e⟩
def dgM (k : Nat) : Mx := fun i x => decide (i < k) && decide (i = x)
theorem dgM_succ (k : Nat) : orL (dgM k) [(k, k)] = dgM (k + 1) := by
  funext r c
  simp only [orL, List.any_cons, List.any_nil, Bool.or_false, dgM]
  by_cases h : r = k
  · subst h; simp
  · rw [show decide (r < k + 1) = decide (r < k) from decide_eq_decide.2 (by omega), decide_eq_false (fun q => h q.symm : ¬ k = r)]; simp
theorem st_dgA : ∀ k, k ≤ 28 → StB (dgA k) (dgM k) (fun _ _ => false) (fun _ _ => false)
  | 0, _ => ⟨fun i k _ _ => by simp [dgA, dgM], fun i k _ _ => by simp [dgA], fun i k _ _ => by simp [dgA], fun k _ => by simp [dgA]⟩
  | k + 1, h => by rw [dgA_succ, ← dgM_succ k]; exact (st_dgA k (by omega)).pf (i := k) (k := k) (by omega) (by omega)
theorem st_dgB : ∀ k, k ≤ 12 → StB (dgB k) (dgM 28) (dgM k) (fun _ _ => false)
  | 0, _ => by
    have := st_dgA 28 (Nat.le_refl _)
    refine this.congr (fun _ _ _ _ => rfl) (fun i k _ _ => by simp [dgM]) (fun _ _ _ _ => rfl)
  | k + 1, h => by rw [dgB_succ, ← dgM_succ k]; exact (st_dgB k (by omega)).pg (i := k) (k := k) (by omega) (by omega)
theorem st_dg : StB (dgB 12) (idm true) (idm true) (idm false) := (st_dgB 12 (Nat.le_refl _)).congr (fun i k hi _ => by unfold dgM idm; rw [decide_eq_true hi]) (fun i k hi _ => by unfold dgM idm; rw [decide_eq_true hi]) (fun _ _ _ _ => rfl)
def roF (x : RIn) : Eds := [(16 + x.sub.toNat, 16 + x.sup.toNat), (16 + (x.sub.toNat ^^^ 1), 16 + (x.sup.toNat ^^^ 1))]
def inF (x : Inc) : Eds := if (rhsC x.sup).2.2 then [] else if (rhsC x.sup).2.1 then [] else [((numC x.sub).toNat, (rhsC x.sup).1.toNat)]
def inG (x : Inc) : Eds := if (rhsC x.sup).2.2 then [((numC x.sub).toNat, (numC x.sub).toNat)] else if (rhsC x.sup).2.1 then [((numC x.sub).toNat, (rhsC x.sup).1.toNat), ((rhsC x.sup).1.toNat, (numC x.sub).toNat)] else []
theorem st_roles : ∀ (l : List RIn) (N : Nat) (f g a : Mx), (∀ x ∈ l, x.sub.toNat < 12 ∧ x.sup.toNat < 12) → StB N f g a → StB (l.foldl rlR N) (orL f (l.flatMap roF)) (orL g (l.flatMap roE)) a
  | [], N, f, g, a, _, h => by simpa [orL_nil] using h
  | x :: l, N, f, g, a, hl, h => by
    obtain ⟨h1, h2⟩ := hl x List.mem_cons_self
    have h3 := xor_lt h1
    have h4 := xor_lt h2
    have := (((h.pg h1 h2).pg h3 h4).pf (i := 16 + x.sub.toNat) (k := 16 + x.sup.toNat) (by omega) (by omega)).pf (i := 16 + (x.sub.toNat ^^^ 1)) (k := 16 + (x.sup.toNat ^^^ 1)) (by omega) (by omega)
    rw [orL_app, orL_app] at this
    have := st_roles l _ _ _ _ (fun y hy => hl y (List.mem_cons_of_mem _ hy)) this
    rw [List.foldl_cons, List.flatMap_cons, List.flatMap_cons, ← orL_app, ← orL_app]
    exact this
theorem st_incls : ∀ (l : List Inc) (N : Nat) (f g a : Mx), (∀ x ∈ l, (numC x.sub).toNat < 28 ∧ (rhsC x.sup).1.toNat < 28) → StB N f g a → StB (l.foldl inR N) (orL f (l.flatMap inF)) g (orL a (l.flatMap inG))
  | [], N, f, g, a, _, h => by simpa [orL_nil] using h
  | x :: l, N, f, g, a, hl, h => by
    obtain ⟨h1, h2⟩ := hl x List.mem_cons_self
    have hs : StB (inR N x) (orL f (inF x)) g (orL a (inG x)) := by
      unfold inR inS inF inG
      by_cases c1 : (rhsC x.sup).2.2 = true
      · simp only [if_pos c1, orL_nil]; exact h.pa h1 h1
      · by_cases c2 : (rhsC x.sup).2.1 = true
        · simp only [if_neg c1, if_pos c2, orL_nil]
          have := (h.pa h1 h2).pa h2 h1
          rw [orL_app] at this; exact this
        · simp only [if_neg c1, if_neg c2, orL_nil]; exact h.pf h1 h2
    have := st_incls l _ _ _ _ (fun y hy => hl y (List.mem_cons_of_mem _ hy)) hs
    rw [List.foldl_cons, List.flatMap_cons, List.flatMap_cons, ← orL_app, ← orL_app]
    exact this
def pF (b : Bas) : Mx := orL (orL (idm true) (b.roles.flatMap roF)) (b.incls.flatMap inF)
def pG (b : Bas) : Mx := orL (idm true) (b.roles.flatMap roE)
def pA (b : Bas) : Mx := orL (idm false) (b.incls.flatMap inG)
theorem st_I {b : Bas} (h : b.lite) : StB (stI b) (pF b) (pG b) (pA b) := by
  unfold stI stR
  refine st_incls _ _ _ _ _ (fun x hx => ?_) (st_roles _ _ _ _ _ (fun x hx => ?_) st_dg)
  · obtain ⟨c, d, e1, e2, h1, h2⟩ := h.inc x hx
    rw [e1, e2]; exact ⟨by omega, by omega⟩
  · obtain ⟨s, p, e1, e2, h1, h2⟩ := h.rol x hx
    rw [e1, e2]; exact ⟨by omega, by omega⟩
/-- The matrices made transitive. -/
def clN (b : Bas) : Nat := trJ 12 784 (trJ 28 0 (stI b) 28) 12
theorem clN_ok {b : Bas} (h : b.lite) : StB (clN b) (clK 28 (pF b) 28) (clK 12 (pG b) 12) (pA b) := by
  have h0 := st_I h
  have o1 := trJ_out 28 0 (stI b)
  have o2 := trJ_out 12 784 (trJ 28 0 (stI b) 28)
  have f1 := trJ_BM 28 (Nat.le_refl _) h0.f
  have i28 : ∀ i k, i < 28 → k < 28 → 0 + i * 28 + k < 784 := fun i k hi hk => by omega
  refine ⟨fun i k hi hk => ?_, ?_, fun i k hi hk => ?_, fun k hk => ?_⟩
  · unfold clN; rw [o2 _ (.inl (by omega))]; exact f1 i k hi hk
  · refine trJ_BM 12 (Nat.le_refl _) (fun i k hi hk => ?_)
    rw [o1 _ (.inr (by omega))]; exact h0.g i k hi hk
  · unfold clN; rw [o2 _ (.inr (by omega)), o1 _ (.inr (by omega))]; exact h0.a i k hi hk
  · unfold clN; rw [o2 _ (.inr (by omega)), o1 _ (.inr (by omega))]; exact h0.e k hk
end

/-! ### The closure of the program and the reference's are one: what follows. -/
section
set_option linter.unusedSectionVars false
/-- The program's number of the reference's. -/
def phi (b : Bas) (i : Nat) : Nat := if i < b.kc then i else 16 + (i - b.kc)
section
variable {b : Bas} (h2 : b.few2)
include h2
theorem phi_lt {i : Nat} (hi : i < b.kz) : phi b i < 28 := by
  have := h2.c; have := h2.r
  unfold phi; unfold Bas.kz at hi
  split <;> omega
theorem phi_inj {i k : Nat} (hi : i < b.kz) (hk : k < b.kz) (e : phi b i = phi b k) : i = k := by
  have := h2.c; have := h2.r
  unfold phi at e; unfold Bas.kz at hi hk
  split at e <;> split at e <;> omega
theorem phi_role {s : Nat} : phi b (b.kc + s) = 16 + s := by
  unfold phi; rw [if_neg (by omega)]; omega
theorem phi_ge {i : Nat} (hi : i < b.kz) : 16 ≤ phi b i ↔ b.kc ≤ i := by
  have := h2.c; have := h2.r
  unfold phi; unfold Bas.kz at hi
  split <;> omega
end
theorem numC_phi {b : Bas} {c : Con} (h : basC c = true) (hs : shaped b.nms.cs.length b.nms.rs.length c = true) : (numC c).toNat = phi b (idN b c) := by
  have hop := basC_op h
  have hn := shaped_n hs
  obtain ⟨op, n, l⟩ := c
  have hs' := hs
  rw [shaped_mk] at hs'
  obtain ⟨⟨-, h0, h1, h2, -⟩, -⟩ := hs'
  simp only [Con.op, Con.n] at hop hn
  unfold numC idN phi
  rw [if_pos h]
  rcases hop with rfl | rfl
  · have := h1 rfl
    have e : atN b.kc (Con.mk 0 n l) = n := by simp [atN, Con.op, Con.n]
    rw [e]; simp only [basN, if_true]; rw [if_pos (by show n.toNat < b.nms.cs.length; omega)]
  · have := h2 (by decide) rfl
    have e : atN b.kc (Con.mk 6 n l) = b.nms.cs.length + n := by simp [atN, Con.op, Con.n]
    have e2 : basN (Con.mk 6 n l) = 16 + n := by simp [basN]
    rw [e, e2, if_neg (by show ¬ _ < b.nms.cs.length; omega)]
    show _ = 16 + (_ - b.nms.cs.length); omega
/-- An inclusion's edges, numbered either way. -/
theorem inF_phi {b : Bas} (hR : basR b = true) (hf : fitR b = true) {x : Inc} (hx : x ∈ b.incls) : inF x = (inU b x).map (fun e => (phi b e.1, phi b e.2)) ∧ inG x = (inA b x).map (fun e => (phi b e.1, phi b e.2)) ∧ (∀ e ∈ inU b x, e.1 < b.kz ∧ e.2 < b.kz) ∧ ∀ e ∈ inA b x, e.1 < b.kz ∧ e.2 < b.kz := by
  obtain ⟨⟨hc1, hc2⟩, hcase⟩ := incl_cases hR hf hx
  have e1 := numC_phi hc1 hc2
  have l1 := (idN_ok hc1 hc2).2
  rcases hcase with e | ⟨e, a, ea, ha1, ha2⟩ | ⟨n2, n3, ha1, ha2⟩
  · have er : rhsC x.sup = (0, false, true) := by unfold rhsC; rw [if_pos e]
    unfold inF inG inU inA
    rw [er, e1]
    simp only [if_pos e, if_true, List.map_nil, List.map_cons, List.not_mem_nil, false_imp_iff, implies_true, true_and, List.mem_singleton, forall_eq]
    exact ⟨l1, l1⟩
  · have er : rhsC x.sup = (numC a, true, false) := by
      revert ea e
      generalize x.sup = c
      obtain ⟨op, n, l⟩ := c
      simp only [Con.op, Con.args]
      intro e ea; subst e; subst ea
      simp [rhsC, Con.op]
    have n2 : ¬ x.sup.op = 2 := by omega
    have e2 := numC_phi ha1 ha2
    have l2 := (idN_ok ha1 ha2).2
    unfold inF inG inU inA
    rw [er, e1, e2]
    simp only [if_neg n2, if_pos e, ea, List.headD_cons, Bool.false_eq_true, if_false, if_true, List.map_nil, List.map_cons, List.not_mem_nil, false_imp_iff, implies_true, true_and, List.mem_cons, or_false, forall_eq_or_imp, forall_eq]
    exact ⟨⟨l1, l2⟩, l2, l1⟩
  · have er : rhsC x.sup = (numC x.sup, false, false) := by
      revert n2 n3 ha1
      generalize x.sup = c
      obtain ⟨op, n, l⟩ := c
      simp only [Con.op]
      intro n2 n3 ha1
      cases l with
      | nil => simp [rhsC, Con.op, n2]
      | cons a l => simp [rhsC, Con.op, n2, n3]
    have e2 := numC_phi ha1 ha2
    have l2 := (idN_ok ha1 ha2).2
    unfold inF inG inU inA
    rw [er, e1, e2]
    simp only [if_neg n2, if_neg n3, Bool.false_eq_true, if_false, List.map_nil, List.map_cons, List.not_mem_nil, false_imp_iff, implies_true, and_true, true_and, List.mem_singleton, forall_eq]
    exact ⟨l1, l2⟩
theorem pth_transfer {n m : Nat} {f g : Mx} {p : Nat → Nat} (fwd : ∀ i k, Stp n f i k → Pth (Stp m g) (p i) (p k)) (bwd : ∀ i y, i < n → Stp m g (p i) y → ∃ k, k < n ∧ y = p k ∧ Pth (Stp n f) i k) (inj : ∀ i k, i < n → k < n → p i = p k → i = k) {i k : Nat} (hi : i < n) (hk : k < n) : Pth (Stp n f) i k ↔ Pth (Stp m g) (p i) (p k) := by
  constructor
  · intro h
    clear hi hk
    induction h with
    | one q => exact fwd _ _ q
    | cat _ _ i1 i2 => exact .cat i1 i2
  · intro h
    have : ∀ a c, Pth (Stp m g) a c → ∀ i, i < n → a = p i → ∃ k, k < n ∧ c = p k ∧ Pth (Stp n f) i k := by
      intro a c q
      induction q with
      | one q => intro i hi e; subst e; exact bwd i _ hi q
      | cat _ _ i1 i2 =>
        intro i hi e
        obtain ⟨k, hk, e1, p1⟩ := i1 i hi e
        obtain ⟨l, hl, e2, p2⟩ := i2 k hk e1
        exact ⟨l, hl, e2, .cat p1 p2⟩
    obtain ⟨k', hk', e, q⟩ := this _ _ h i hi rfl
    rw [inj k k' hk hk' e]; exact q
theorem idm_iff {i k : Nat} : idm true i k = true ↔ i = k := by unfold idm; simp
theorem idm_no {i k : Nat} : idm false i k = false := by unfold idm; simp
section
variable {b : Bas} (hR : basR b = true) (hf : fitR b = true)
include hR
theorem roE_lt {e : Nat × Nat} (he : e ∈ b.roles.flatMap roE) : e.1 < b.kr ∧ e.2 < b.kr := by
  have h2 := basR_few2 hR
  obtain ⟨x, hx, he⟩ := List.mem_flatMap.1 he
  obtain ⟨h3, h4⟩ := basR_roles hR x hx
  obtain ⟨s, e1, ls⟩ := rolOK_kr h3
  obtain ⟨p, e2, lp⟩ := rolOK_kr h4
  have ls1 := xor_even h2.r h2.e ls
  have lp1 := xor_even h2.r h2.e lp
  unfold roE at he
  rw [e1, e2] at he
  simp only [Int.toNat_natCast, List.mem_cons, List.not_mem_nil, or_false] at he
  rcases he with rfl | rfl
  · exact ⟨ls, lp⟩
  · exact ⟨ls1, lp1⟩
theorem roF_mem {s p : Nat} : (16 + s, 16 + p) ∈ b.roles.flatMap roF ↔ (s, p) ∈ b.roles.flatMap roE := by
  simp only [List.mem_flatMap, roF, roE, List.mem_cons, List.not_mem_nil, or_false, Prod.mk.injEq]
  constructor
  · rintro ⟨x, hx, (⟨e1, e2⟩ | ⟨e1, e2⟩)⟩
    · exact ⟨x, hx, .inl ⟨by omega, by omega⟩⟩
    · exact ⟨x, hx, .inr ⟨by omega, by omega⟩⟩
  · rintro ⟨x, hx, (⟨e1, e2⟩ | ⟨e1, e2⟩)⟩
    · exact ⟨x, hx, .inl ⟨by omega, by omega⟩⟩
    · exact ⟨x, hx, .inr ⟨by omega, by omega⟩⟩
theorem roF_ge {e : Nat × Nat} (he : e ∈ b.roles.flatMap roF) : ∃ s p, e = (16 + s, 16 + p) := by
  obtain ⟨x, hx, he⟩ := List.mem_flatMap.1 he
  unfold roF at he
  simp only [List.mem_cons, List.not_mem_nil, or_false] at he
  rcases he with rfl | rfl <;> exact ⟨_, _, rfl⟩
/-- The roles' closures. -/
theorem OB_iff {s p : Nat} (hs : s < b.kr) (hp : p < b.kr) : OB b s p = true ↔ Pth (Stp b.kr (pG b)) s p := by
  unfold OB; rw [clK_iff _ _ hs hp, rolB_eq]; rfl
theorem rol_iff {s p : Nat} (hs : s < b.kr) (hp : p < b.kr) : clK 12 (pG b) 12 s p = true ↔ OB b s p = true := by
  have h2 := basR_few2 hR
  have hr := h2.r
  rw [OB_iff hR hs hp, clK_iff _ _ (by omega) (by omega)]
  symm
  refine pth_transfer (p := id) (fun i k q => .one ⟨by have := q.1; simp only [id]; omega, by have := q.2.1; simp only [id]; omega, q.2.2⟩) (fun i y hi q => ?_) (fun _ _ _ _ e => e) hs hp
  obtain ⟨-, -, q3⟩ := q
  rcases orL_iff.1 q3 with e | e
  · rw [idm_iff] at e
    subst e
    exact ⟨i, hi, rfl, .one ⟨hi, hi, q3⟩⟩
  · have := roE_lt hR e
    exact ⟨y, this.2, rfl, .one ⟨hi, this.2, q3⟩⟩
include hf
/-- The concepts' closures. -/
theorem OU_iff {i k : Nat} (hi : i < b.kz) (hk : k < b.kz) : clK 28 (pF b) 28 (phi b i) (phi b k) = true ↔ OU b i k = true := by
  have h2 := basR_few2 hR
  unfold OU
  rw [clK_iff _ _ hi hk, clK_iff _ _ (phi_lt h2 hi) (phi_lt h2 hk)]
  have eU : (OI b).1 = orL (allU b.kc b.kr (OB b) (idm true) b.kr) (b.incls.flatMap (inU b)) := by unfold OI incS; rw [incS_eq]
  rw [eU]
  have pf_id : ∀ {x}, x < 28 → Pth (Stp 28 (pF b)) x x := fun hx => .one ⟨hx, hx, orL_iff.2 (.inl (orL_iff.2 (.inl (idm_iff.2 rfl))))⟩
  have role_step : ∀ s p, s < b.kr → p < b.kr → (s, p) ∈ b.roles.flatMap roE → Stp 28 (pF b) (16 + s) (16 + p) := fun s p hs hp e => ⟨by have := h2.r; omega, by have := h2.r; omega, orL_iff.2 (.inl (orL_iff.2 (.inr ((roF_mem hR).2 e))))⟩
  have role_path : ∀ {s p}, Pth (Stp b.kr (pG b)) s p → Pth (Stp 28 (pF b)) (16 + s) (16 + p) := by
    intro s p q
    induction q with
    | one q =>
      obtain ⟨q1, q2, q3⟩ := q
      rcases orL_iff.1 q3 with e | e
      · rw [idm_iff] at e; subst e; exact pf_id (by have := h2.r; omega)
      · exact .one (role_step _ _ q1 q2 e)
    | cat _ _ i1 i2 => exact .cat i1 i2
  symm
  refine pth_transfer (fun i k q => ?_) (fun i y hi q => ?_) (fun _ _ => phi_inj h2) hi hk
  · obtain ⟨q1, q2, q3⟩ := q
    rcases orL_iff.1 q3 with e | e
    · rw [allU_eq, Bool.or_eq_true] at e
      rcases e with e | e
      · rw [idm_iff] at e; subst e; exact pf_id (phi_lt h2 q1)
      · simp only [Bool.and_eq_true, decide_eq_true_eq] at e
        obtain ⟨⟨⟨⟨a1, a2⟩, a3⟩, a4⟩, a5⟩ := e
        have := role_path ((OB_iff hR (by omega) (by omega)).1 a5)
        rw [← phi_role h2, ← phi_role h2, show b.kc + (i - b.kc) = i from by omega, show b.kc + (k - b.kc) = k from by omega] at this
        exact this
    · obtain ⟨x, hx, he⟩ := List.mem_flatMap.1 e
      obtain ⟨eF, -, hlt, -⟩ := inF_phi hR hf hx
      refine .one ⟨phi_lt h2 q1, phi_lt h2 q2, orL_iff.2 (.inr (List.mem_flatMap.2 ⟨x, hx, ?_⟩))⟩
      rw [eF]; exact List.mem_map.2 ⟨(i, k), he, rfl⟩
  · obtain ⟨q1, q2, q3⟩ := q
    rcases orL_iff.1 q3 with e | e
    · rcases orL_iff.1 e with e | e
      · rw [idm_iff] at e
        exact ⟨i, hi, e.symm, .one ⟨hi, hi, orL_iff.2 (.inl (by rw [allU_eq, idm_iff.2 rfl]; rfl))⟩⟩
      · obtain ⟨s, p, ee⟩ := roF_ge hR e
        simp only [Prod.mk.injEq] at ee
        obtain ⟨e1, rfl⟩ := ee
        rw [e1] at e
        have em := (roF_mem hR).1 e
        obtain ⟨ls, lp⟩ := roE_lt hR em
        simp only at ls lp
        have his : i = b.kc + s := phi_inj h2 hi (by unfold Bas.kz; omega) (by rw [e1, phi_role h2])
        subst his
        refine ⟨b.kc + p, by unfold Bas.kz; omega, (phi_role h2).symm, .one ⟨hi, by unfold Bas.kz; omega, orL_iff.2 (.inl ?_)⟩⟩
        rw [allU_eq, Bool.or_eq_true]
        refine .inr ?_
        simp only [Bool.and_eq_true, decide_eq_true_eq]
        refine ⟨⟨⟨⟨by omega, by omega⟩, by omega⟩, by omega⟩, ?_⟩
        rw [show b.kc + s - b.kc = s from by omega, show b.kc + p - b.kc = p from by omega]
        exact (OB_iff hR ls lp).2 (.one ⟨ls, lp, orL_iff.2 (.inr em)⟩)
    · obtain ⟨x, hx, he⟩ := List.mem_flatMap.1 e
      obtain ⟨eF, -, hlt, -⟩ := inF_phi hR hf hx
      rw [eF] at he
      obtain ⟨⟨u, v⟩, hm, ee⟩ := List.mem_map.1 he
      simp only [Prod.mk.injEq] at ee
      obtain ⟨e1, e2⟩ := ee
      obtain ⟨lu, lv⟩ := hlt _ hm
      simp only at lu lv
      have := phi_inj h2 lu hi e1
      subst this
      exact ⟨v, lv, e2.symm, .one ⟨lu, lv, orL_iff.2 (.inr (List.mem_flatMap.2 ⟨x, hx, hm⟩))⟩⟩
/-- What is not numbered by the reference leads to itself alone. -/
theorem pF_out {x y : Nat} (hx : ∀ i, i < b.kz → phi b i ≠ x) (h : Pth (Stp 28 (pF b)) x y) : y = x := by
  have h2 := basR_few2 hR
  have : ∀ u v, Pth (Stp 28 (pF b)) u v → u = x → v = x := by
    intro u v q
    induction q with
    | one q =>
      intro e
      subst e
      obtain ⟨q1, q2, q3⟩ := q
      rcases orL_iff.1 q3 with e | e
      · rcases orL_iff.1 e with e | e
        · exact (idm_iff.1 e).symm
        · exfalso
          obtain ⟨s, p, ee⟩ := roF_ge hR e
          simp only [Prod.mk.injEq] at ee
          obtain ⟨rfl, rfl⟩ := ee
          have := (roE_lt hR ((roF_mem hR).1 e)).1
          exact hx (b.kc + s) (by unfold Bas.kz; simp only at this; omega) (phi_role h2)
      · exfalso
        obtain ⟨z, hz, he⟩ := List.mem_flatMap.1 e
        obtain ⟨eF, -, hlt, -⟩ := inF_phi hR hf hz
        rw [eF] at he
        obtain ⟨⟨u, v⟩, hm, ee⟩ := List.mem_map.1 he
        simp only [Prod.mk.injEq] at ee
        exact hx u (hlt _ hm).1 ee.1
    | cat _ _ i1 i2 => intro e; exact i2 (i1 e)
  exact this x y h rfl
theorem OA_iff {i k : Nat} (hi : i < b.kz) (hk : k < b.kz) : pA b (phi b i) (phi b k) = true ↔ OA b i k = true := by
  have h2 := basR_few2 hR
  have eA : OA b = orL (idm false) (b.incls.flatMap (inA b)) := by unfold OA OI incS; rw [incS_eq]
  rw [eA]
  unfold pA
  rw [orL_iff, orL_iff, idm_no, idm_no]
  simp only [Bool.false_eq_true, false_or, List.mem_flatMap]
  constructor
  · rintro ⟨x, hx, he⟩
    obtain ⟨-, eG, -, hlt⟩ := inF_phi hR hf hx
    rw [eG] at he
    obtain ⟨⟨u, v⟩, hm, ee⟩ := List.mem_map.1 he
    simp only [Prod.mk.injEq] at ee
    obtain ⟨lu, lv⟩ := hlt _ hm
    have := phi_inj h2 lu hi ee.1
    have := phi_inj h2 lv hk ee.2
    subst_vars
    exact ⟨x, hx, hm⟩
  · rintro ⟨x, hx, he⟩
    obtain ⟨-, eG, -, hlt⟩ := inF_phi hR hf hx
    exact ⟨x, hx, by rw [eG]; exact List.mem_map.2 ⟨(i, k), he, rfl⟩⟩
theorem pA_in {x y : Nat} (h : pA b x y = true) : (∃ i, i < b.kz ∧ x = phi b i) ∧ ∃ k, k < b.kz ∧ y = phi b k := by
  unfold pA at h
  rw [orL_iff, idm_no] at h
  simp only [Bool.false_eq_true, false_or, List.mem_flatMap] at h
  obtain ⟨z, hz, he⟩ := h
  obtain ⟨-, eG, -, hlt⟩ := inF_phi hR hf hz
  rw [eG] at he
  obtain ⟨⟨u, v⟩, hm, ee⟩ := List.mem_map.1 he
  simp only [Prod.mk.injEq] at ee
  obtain ⟨lu, lv⟩ := hlt _ hm
  exact ⟨⟨u, lu, ee.1.symm⟩, v, lv, ee.2.symm⟩
end
end
end

/-! ### What is empty is the same to both. -/
section
set_option linter.unusedSectionVars false
/-! ### The least that is closed -/
theorem vstG_mem (V : (Nat → Bool) → Nat → Bool) (s : (Nat → Bool) × Bool) (i : Nat) : vstG V s i = s ∨ (V s.1 i = true ∧ vstG V s i = (upd s.1 i true, true)) := by
  unfold vstG
  split
  · rename_i q; rw [Bool.and_eq_true] at q; exact .inr ⟨q.2, rfl⟩
  · exact .inl rfl
theorem vpsG_no (V : (Nat → Bool) → Nat → Bool) (E : Nat → Bool) : ∀ k, (vpsG V E k).2 = false → vpsG V E k = (E, false) ∧ ∀ i, i < k → V E i = true → E i = true
  | 0, _ => ⟨rfl, fun i hi => by omega⟩
  | k + 1, h => by
    rw [vpsG_succ] at h
    have hk : (vpsG V E k).2 = false := by
      rcases vstG_mem V (vpsG V E k) k with e | ⟨-, e⟩
      · rw [e] at h; exact h
      · rw [e] at h; cases h
    obtain ⟨i1, i2⟩ := vpsG_no V E k hk
    rw [vpsG_succ, i1]
    rw [i1] at h
    unfold vstG at h ⊢
    split at h
    · cases h
    · rename_i q
      rw [if_neg q]
      refine ⟨rfl, fun i hi hv => ?_⟩
      by_cases e : i = k
      · subst e
        simp only [Bool.and_eq_true, Bool.not_eq_true', not_and, Bool.not_eq_true] at q
        cases he : E i with
        | true => rfl
        | false => rw [q he] at hv; cases hv
      · exact i2 i (by omega) hv
theorem vdsG_closed (V : (Nat → Bool) → Nat → Bool) (n : Nat) : ∀ (f : Nat) (E : Nat → Bool), vfrG n E < f → ∀ i, i < n → V (vdsG V n f E) i = true → vdsG V n f E i = true
  | 0, E, h => by omega
  | f + 1, E, h => by
    intro i hi
    rw [vdsG]
    split
    · rename_i q
      have := (vpsG_free V n E n (Nat.le_refl _)).2 q
      exact vdsG_closed V n f _ (by omega) i hi
    · rename_i q
      simp only [Bool.not_eq_true] at q
      obtain ⟨e, hc⟩ := vpsG_no V E n q
      rw [e]; exact hc i hi
theorem vdG_closed (V : (Nat → Bool) → Nat → Bool) (n : Nat) {i : Nat} (hi : i < n) (h : V (vdG V n) i = true) : vdG V n i = true :=
  vdsG_closed V n (n + 1) _ (by have := vfrG_le n (fun _ => false); omega) i hi h
def MonoV (n : Nat) (V : (Nat → Bool) → Nat → Bool) : Prop := ∀ E E' : Nat → Bool, (∀ i, i < n → E i = true → E' i = true) → ∀ i, i < n → V E i = true → V E' i = true
theorem vpsG_least {V : (Nat → Bool) → Nat → Bool} {n : Nat} (hm : MonoV n V) {S : Nat → Bool} (hS : ∀ i, i < n → V S i = true → S i = true) {E : Nat → Bool} (hE : ∀ i, i < n → E i = true → S i = true) : ∀ k, k ≤ n → ∀ i, i < n → (vpsG V E k).1 i = true → S i = true
  | 0, _, i, hi, h => hE i hi h
  | k + 1, hk, i, hi, h => by
    have ih := vpsG_least hm hS hE k (by omega)
    rw [vpsG_succ] at h
    rcases vstG_mem V (vpsG V E k) k with e | ⟨hv, e⟩
    · rw [e] at h; exact ih i hi h
    · rw [e] at h
      simp only [upd] at h
      split at h
      · rename_i e; subst e; exact hS i hi (hm _ _ ih i hi hv)
      · exact ih i hi h
theorem vdsG_least {V : (Nat → Bool) → Nat → Bool} {n : Nat} (hm : MonoV n V) {S : Nat → Bool} (hS : ∀ i, i < n → V S i = true → S i = true) : ∀ (f : Nat) {E : Nat → Bool}, (∀ i, i < n → E i = true → S i = true) → ∀ i, i < n → vdsG V n f E i = true → S i = true
  | 0, E, hE, i, hi, h => hE i hi h
  | f + 1, E, hE, i, hi, h => by
    rw [vdsG] at h
    have hp := vpsG_least hm hS hE n (Nat.le_refl _)
    split at h
    · exact vdsG_least hm hS f hp i hi h
    · exact hp i hi h
theorem vdG_least {V : (Nat → Bool) → Nat → Bool} {n : Nat} (hm : MonoV n V) {S : Nat → Bool} (hS : ∀ i, i < n → V S i = true → S i = true) {i : Nat} (hi : i < n) (h : vdG V n i = true) : S i = true :=
  vdsG_least hm hS _ (fun _ _ q => by cases q) i hi h
/-! ### The same of the program's bits -/
def Low (N M : Nat) : Prop := ∀ k, k < 1712 → M.testBit k = N.testBit k
def deadS (N : Nat) (S : Nat → Bool) (c : Nat) : Bool := confl N c c || (List.range 28).any fun d => rch N c d && (S d || (decide (16 ≤ d) && S (inv d)))
theorem dead_S (N c : Nat) : dead N c = deadS N (emp N) c := rfl
theorem anyC {l : List Nat} {p q : Nat → Bool} (h : ∀ x ∈ l, p x = q x) : l.any p = l.any q := by
  induction l with
  | nil => rfl
  | cons x l ih => rw [List.any_cons, List.any_cons, h x List.mem_cons_self, ih fun y hy => h y (List.mem_cons_of_mem _ hy)]
theorem confl_low {N M : Nat} (h : Low N M) {c d : Nat} (hc : c < 28) (hd : d < 28) : confl M c d = confl N c d := by
  unfold confl
  refine anyC fun x hx => anyC fun y hy => ?_
  rw [List.mem_range] at hx hy
  unfold rch apt
  rw [h _ (by omega), h _ (by omega), h _ (by omega)]
theorem deadS_low {N M : Nat} (h : Low N M) (S : Nat → Bool) {c : Nat} (hc : c < 28) : deadS M S c = deadS N S c := by
  unfold deadS
  rw [confl_low h hc hc]
  congr 1
  refine anyC fun x hx => ?_
  rw [List.mem_range] at hx
  unfold rch
  rw [h _ (by omega)]
theorem inv_in {d : Nat} (h : 16 ≤ d) (hd : d < 28) : inv d < 28 ∧ 16 ≤ inv d := by
  have := xor_lt (s := d - 16) (by omega)
  unfold inv; omega
theorem deadS_mono (N : Nat) : MonoV 28 (deadS N) := fun E E' h i hi q => by
  unfold deadS at q ⊢
  rw [Bool.or_eq_true] at q ⊢
  refine q.imp id fun q => ?_
  rw [List.any_eq_true] at q ⊢
  obtain ⟨d, hd, e⟩ := q
  rw [List.mem_range] at hd
  refine ⟨d, List.mem_range.2 hd, ?_⟩
  simp only [Bool.and_eq_true, Bool.or_eq_true, decide_eq_true_eq] at e ⊢
  exact ⟨e.1, e.2.imp (h d hd) fun g => ⟨g.1, h _ (inv_in g.1 hd).1 g.2⟩⟩
theorem Low.refl {N : Nat} : Low N N := fun _ _ => rfl
theorem vstep_mem (s : Nat × Bool) (c : Nat) : vstep s c = s ∨ (dead s.1 c = true ∧ vstep s c = (put s.1 (1712 + c), true)) := by
  unfold vstep
  split
  · rename_i q; rw [Bool.and_eq_true] at q; exact .inr ⟨q.2, rfl⟩
  · exact .inl rfl
theorem vpass_low (N : Nat) : ∀ k, Low N (vpass N k).1
  | 0 => Low.refl
  | k + 1 => by
    rw [vpass_succ]
    rcases vstep_mem (vpass N k) k with e | ⟨-, e⟩
    · rw [e]; exact vpass_low N k
    · rw [e]; intro x hx
      simp only
      rw [put_bit, decide_eq_false (by omega), Bool.or_false]; exact vpass_low N k x hx
theorem Low.trans {N M K : Nat} (h : Low N M) (g : Low M K) : Low N K := fun k hk => (g k hk).trans (h k hk)
theorem voids_low : ∀ (f N : Nat), Low N (voids f N)
  | 0, N => Low.refl
  | f + 1, N => by
    rw [voids]; split
    · exact (vpass_low N 28).trans (voids_low f _)
    · exact vpass_low N 28
theorem vpass_no (N : Nat) : ∀ k, (vpass N k).2 = false → vpass N k = (N, false) ∧ ∀ i, i < k → dead N i = true → emp N i = true
  | 0, _ => ⟨rfl, fun i hi => by omega⟩
  | k + 1, h => by
    rw [vpass_succ] at h
    have hk : (vpass N k).2 = false := by
      rcases vstep_mem (vpass N k) k with e | ⟨-, e⟩
      · rw [e] at h; exact h
      · rw [e] at h; cases h
    obtain ⟨i1, i2⟩ := vpass_no N k hk
    rw [vpass_succ, i1]
    rw [i1] at h
    unfold vstep at h ⊢
    split at h
    · cases h
    · rename_i q
      rw [if_neg q]
      refine ⟨rfl, fun i hi hv => ?_⟩
      by_cases e : i = k
      · subst e
        simp only [Bool.and_eq_true, Bool.not_eq_true', not_and, Bool.not_eq_true] at q
        cases he : emp N i with
        | true => rfl
        | false => rw [q he] at hv; cases hv
      · exact i2 i (by omega) hv
theorem voids_closed : ∀ (f N : Nat), vfree N < f → ∀ i, i < 28 → dead (voids f N) i = true → emp (voids f N) i = true
  | 0, N, h => by omega
  | f + 1, N, h => by
    intro i hi
    rw [voids]
    split
    · rename_i q
      have := (vpass_free N 28 (Nat.le_refl _)).2 q
      exact voids_closed f _ (by omega) i hi
    · rename_i q
      simp only [Bool.not_eq_true] at q
      obtain ⟨e, hc⟩ := vpass_no N 28 q
      rw [e]; exact hc i hi
theorem vpass_least {N0 : Nat} {S : Nat → Bool} (hS : ∀ i, i < 28 → deadS N0 S i = true → S i = true) {N : Nat} (hl : Low N0 N) (hE : ∀ i, i < 28 → emp N i = true → S i = true) : ∀ k, k ≤ 28 → ∀ i, i < 28 → emp (vpass N k).1 i = true → S i = true
  | 0, _, i, hi, h => hE i hi h
  | k + 1, hk, i, hi, h => by
    have ih := vpass_least hS hl hE k (by omega)
    rw [vpass_succ] at h
    rcases vstep_mem (vpass N k) k with e | ⟨hv, e⟩
    · rw [e] at h; exact ih i hi h
    · rw [e] at h
      simp only [emp, put_bit, Bool.or_eq_true, decide_eq_true_eq] at h
      rcases h with h | h
      · exact ih i hi h
      · have : i = k := by omega
        subst this
        rw [dead_S, deadS_low (hl.trans (vpass_low N i)) _ hi] at hv
        exact hS i hi (deadS_mono N0 _ _ ih i hi hv)
theorem voids_least {N0 : Nat} {S : Nat → Bool} (hS : ∀ i, i < 28 → deadS N0 S i = true → S i = true) : ∀ (f : Nat) {N : Nat}, Low N0 N → (∀ i, i < 28 → emp N i = true → S i = true) → ∀ i, i < 28 → emp (voids f N) i = true → S i = true
  | 0, N, hl, hE, i, hi, h => hE i hi h
  | f + 1, N, hl, hE, i, hi, h => by
    rw [voids] at h
    have hp := vpass_least hS hl hE 28 (Nat.le_refl _)
    split at h
    · exact voids_least hS f (hl.trans (vpass_low N 28)) hp i hi h
    · exact hp i hi h
/-! ### Both -/
section
variable {b : Bas} (hR : basR b = true) (hf : fitR b = true)
include hR
theorem rulesN_low : Low (clN b) (rulesN b) := by have := voids_low 29 (clN b); exact this
theorem rch_eq {x y : Nat} (hx : x < 28) (hy : y < 28) : rch (rulesN b) x y = clK 28 (pF b) 28 x y := by
  have := (clN_ok (basR_lite hR)).f x y hx hy
  rw [Nat.zero_add] at this
  rw [← this]
  exact rulesN_low hR _ (by omega)
theorem apt_eq {x y : Nat} (hx : x < 28) (hy : y < 28) : apt (rulesN b) x y = pA b x y := by
  rw [← (clN_ok (basR_lite hR)).a x y hx hy]
  exact rulesN_low hR _ (by omega)
theorem rol_eq {s p : Nat} (hs : s < b.kr) (hp : p < b.kr) : rol (rulesN b) s p = OB b s p := by
  have h2 := (basR_few2 hR).r
  have : rol (rulesN b) s p = clK 12 (pG b) 12 s p := by
    rw [← (clN_ok (basR_lite hR)).g s p (by omega) (by omega)]
    exact rulesN_low hR _ (by omega)
  rw [this, Bool.eq_iff_iff, rol_iff hR hs hp]
include hf
theorem rch_phi {i k : Nat} (hi : i < b.kz) (hk : k < b.kz) : rch (rulesN b) (phi b i) (phi b k) = OU b i k := by
  have h2 := basR_few2 hR
  rw [rch_eq hR (phi_lt h2 hi) (phi_lt h2 hk), Bool.eq_iff_iff, OU_iff hR hf hi hk]
theorem rch_to {i y : Nat} (hi : i < b.kz) (hy : y < 28) (h : rch (rulesN b) (phi b i) y = true) : ∃ k, k < b.kz ∧ y = phi b k := by
  have h2 := basR_few2 hR
  by_cases q : ∃ k, k < b.kz ∧ phi b k = y
  · obtain ⟨k, hk, e⟩ := q; exact ⟨k, hk, e.symm⟩
  · exfalso
    -- a path that ends outside began outside
    rw [rch_eq hR (phi_lt h2 hi) hy, clK_iff _ _ (phi_lt h2 hi) hy] at h
    have : ∀ u v, Pth (Stp 28 (pF b)) u v → (∃ k, k < b.kz ∧ u = phi b k) → ∃ k, k < b.kz ∧ v = phi b k := by
      intro u v p
      induction p with
      | one p =>
        rintro ⟨k, hk, rfl⟩
        obtain ⟨-, -, q3⟩ := p
        rcases orL_iff.1 q3 with e | e
        · rcases orL_iff.1 e with e | e
          · exact ⟨k, hk, (idm_iff.1 e).symm⟩
          · obtain ⟨s, r, ee⟩ := roF_ge hR e
            simp only [Prod.mk.injEq] at ee
            obtain ⟨e1, rfl⟩ := ee
            rw [e1] at e
            have := (roE_lt hR ((roF_mem hR).1 e)).2
            exact ⟨b.kc + r, by unfold Bas.kz; simp only at this; omega, (phi_role h2).symm⟩
        · obtain ⟨z, hz, he⟩ := List.mem_flatMap.1 e
          obtain ⟨eF, -, hlt, -⟩ := inF_phi hR hf hz
          rw [eF] at he
          obtain ⟨⟨u, v⟩, hm, ee⟩ := List.mem_map.1 he
          simp only [Prod.mk.injEq] at ee
          exact ⟨v, (hlt _ hm).2, ee.2.symm⟩
      | cat _ _ i1 i2 => intro e; exact i2 (i1 e)
    obtain ⟨k, hk, e⟩ := this _ _ h ⟨i, hi, rfl⟩
    exact q ⟨k, hk, e.symm⟩
theorem confl_phi {c d : Nat} (hc : c < b.kz) (hd : d < b.kz) (E : Nat → Bool) : confl (rulesN b) (phi b c) (phi b d) = clash (ruOf b 0 (OB b) (OU b) (OA b) E) (OU b c) (OU b d) := by
  have h2 := basR_few2 hR
  rw [Bool.eq_iff_iff]
  unfold confl clash
  simp only [List.any_eq_true, List.mem_range, Bool.and_eq_true]
  have hz : (ruOf b 0 (OB b) (OU b) (OA b) E).sz = b.kz := rfl
  have hA : (ruOf b 0 (OB b) (OU b) (OA b) E).A = OA b := rfl
  rw [hz, hA]
  constructor
  · rintro ⟨x, hx, y, hy, ⟨e1, e2⟩, e3⟩
    obtain ⟨u, hu, rfl⟩ := rch_to hR hf hc hx e1
    obtain ⟨v, hv, rfl⟩ := rch_to hR hf hd hy e2
    rw [rch_phi hR hf hc hu] at e1
    rw [rch_phi hR hf hd hv] at e2
    rw [apt_eq hR hx hy, OA_iff hR hf hu hv] at e3
    exact ⟨u, hu, v, hv, ⟨e1, e2⟩, e3⟩
  · rintro ⟨u, hu, v, hv, ⟨e1, e2⟩, e3⟩
    refine ⟨phi b u, phi_lt h2 hu, phi b v, phi_lt h2 hv, ⟨?_, ?_⟩, ?_⟩
    · rw [rch_phi hR hf hc hu]; exact e1
    · rw [rch_phi hR hf hd hv]; exact e2
    · rw [apt_eq hR (phi_lt h2 hu) (phi_lt h2 hv), OA_iff hR hf hu hv]; exact e3
theorem OV_iff {E : Nat → Bool} {i : Nat} (hi : i < b.kz) : OV b E i = true ↔ confl (rulesN b) (phi b i) (phi b i) = true ∨ (∃ k, k < b.kz ∧ OU b i k = true ∧ E k = true) ∨ (b.kc ≤ i ∧ E (b.kc + ((i - b.kc) ^^^ 1)) = true) := by
  unfold OV voidR
  rw [Bool.or_eq_true, Bool.or_eq_true, List.any_eq_true, confl_phi hR hf hi hi E]
  simp only [Bool.and_eq_true, decide_eq_true_eq, List.mem_range]
  rfl
theorem OU_refl {i : Nat} (hi : i < b.kz) : OU b i i = true := by
  rw [← OU_iff hR hf hi hi]
  have h2 := basR_few2 hR
  exact (clK_iff _ _ (phi_lt h2 hi) (phi_lt h2 hi)).2 (.one ⟨phi_lt h2 hi, phi_lt h2 hi, orL_iff.2 (.inl (orL_iff.2 (.inl (idm_iff.2 rfl))))⟩)
theorem inv_phi {i : Nat} (hi : i < b.kz) (h : b.kc ≤ i) : inv (phi b i) = phi b (b.kc + ((i - b.kc) ^^^ 1)) ∧ b.kc + ((i - b.kc) ^^^ 1) < b.kz := by
  have h2 := basR_few2 hR
  have := xor_even h2.r h2.e (s := i - b.kc) (by unfold Bas.kz at hi; omega)
  refine ⟨?_, by unfold Bas.kz; omega⟩
  rw [phi_role h2]
  unfold inv phi
  rw [if_neg (by omega), show 16 + (i - b.kc) - 16 = i - b.kc from by omega]
theorem OV_mono : MonoV b.kz (OV b) := fun E E' h i hi q => by
  rw [OV_iff hR hf hi] at q ⊢
  rcases q with q | ⟨k, hk, q1, q2⟩ | ⟨q1, q2⟩
  · exact .inl q
  · exact .inr (.inl ⟨k, hk, q1, h k hk q2⟩)
  · exact .inr (.inr ⟨q1, h _ (inv_phi hR hf hi q1).2 q2⟩)
/-- What is empty, numbered either way. -/
theorem emp_phi {i : Nat} (hi : i < b.kz) : emp (rulesN b) (phi b i) = OE b i := by
  have h2 := basR_few2 hR
  have hlow := rulesN_low hR
  have hclosed : ∀ c, c < 28 → deadS (clN b) (emp (rulesN b)) c = true → emp (rulesN b) c = true := fun c hc q => by
    rw [← deadS_low hlow _ hc] at q
    exact voids_closed 29 (clN b) (by have := vfree_le (clN b); omega) c hc q
  have cl0 : ∀ x y, x < 28 → y < 28 → rch (clN b) x y = rch (rulesN b) x y := fun x y hx hy => (hlow _ (by omega)).symm
  rw [Bool.eq_iff_iff]
  constructor
  · intro h
    let S : Nat → Bool := fun c => (List.range b.kz).any fun i => decide (c = phi b i) && OE b i
    have S_iff : ∀ {c}, S c = true ↔ ∃ i, i < b.kz ∧ c = phi b i ∧ OE b i = true := fun {c} => by
      show ((List.range b.kz).any fun i => decide (c = phi b i) && OE b i) = true ↔ _
      rw [List.any_eq_true]; simp only [List.mem_range, Bool.and_eq_true, decide_eq_true_eq]
    have closedR : ∀ i, i < b.kz → OV b (OE b) i = true → OE b i = true := fun i hi q => vdG_closed (OV b) b.kz hi q
    have hS : ∀ c, c < 28 → deadS (clN b) S c = true → S c = true := by
      intro c hc q
      unfold deadS at q
      rw [Bool.or_eq_true, List.any_eq_true] at q
      -- what is dead is numbered
      by_cases hin : ∃ i, i < b.kz ∧ c = phi b i
      · obtain ⟨i, hi, rfl⟩ := hin
        refine S_iff.2 ⟨i, hi, rfl, closedR i hi ((OV_iff hR hf hi).2 ?_)⟩
        rcases q with q | ⟨d, hd, q⟩
        · rw [← confl_low hlow hc hc] at q; exact .inl q
        · rw [List.mem_range] at hd
          rw [Bool.and_eq_true, Bool.or_eq_true, Bool.and_eq_true, decide_eq_true_eq] at q
          obtain ⟨q1, q2⟩ := q
          rw [cl0 _ _ hc hd] at q1
          obtain ⟨k, hk, rfl⟩ := rch_to hR hf hi hd q1
          rw [rch_phi hR hf hi hk] at q1
          refine .inr (.inl ⟨k, hk, q1, ?_⟩)
          rcases q2 with q2 | ⟨q2, q3⟩
          · obtain ⟨l, hl, e, ho⟩ := S_iff.1 q2
            rw [phi_inj h2 hk hl e]; exact ho
          · rw [phi_ge h2 hk] at q2
            obtain ⟨e1, l1⟩ := inv_phi hR hf hk q2
            obtain ⟨l, hl, e, ho⟩ := S_iff.1 q3
            rw [e1] at e
            have := phi_inj h2 l1 hl e
            refine closedR k hk ((OV_iff hR hf hk).2 (.inr (.inr ⟨q2, ?_⟩)))
            rw [this]; exact ho
      · exfalso
        have hout : ∀ i, i < b.kz → phi b i ≠ c := fun i hi e => hin ⟨i, hi, e.symm⟩
        have self : ∀ y, y < 28 → rch (clN b) c y = true → y = c := fun y hy e => by
          rw [cl0 _ _ hc hy, rch_eq hR hc hy, clK_iff _ _ hc hy] at e
          exact pF_out hR hf hout e
        rcases q with q | ⟨d, hd, q⟩
        · unfold confl at q
          simp only [List.any_eq_true, List.mem_range, Bool.and_eq_true] at q
          obtain ⟨x, hx, y, hy, ⟨e1, e2⟩, e3⟩ := q
          have := self x hx e1
          subst this
          have e4 : pA b x y = true := by rw [← apt_eq hR hx hy, ← e3]; exact hlow _ (by omega)
          obtain ⟨⟨i, hi, e⟩, -⟩ := pA_in hR hf e4
          exact hout i hi e.symm
        · rw [List.mem_range] at hd
          rw [Bool.and_eq_true, Bool.or_eq_true, Bool.and_eq_true, decide_eq_true_eq] at q
          obtain ⟨q1, q2⟩ := q
          have := self d hd q1
          subst this
          rcases q2 with q2 | ⟨q2, q3⟩
          · obtain ⟨l, hl, e, -⟩ := S_iff.1 q2
            exact hout l hl e.symm
          · obtain ⟨l, hl, e, -⟩ := S_iff.1 q3
            -- the inverse would be numbered
            have hge := (inv_in q2 hd).2
            have hkl : b.kc ≤ l := (phi_ge h2 hl).1 (by rw [← e]; exact hge)
            obtain ⟨e1, l1⟩ := inv_phi hR hf hl hkl
            have : inv (inv d) = d := by
              have : ∀ d : Nat, d < 28 → 16 ≤ d → inv (inv d) = d := by decide
              exact this d hd q2
            rw [e, e1] at this
            exact hout _ l1 this
    obtain ⟨k, hk, e, ho⟩ := S_iff.1 (voids_least hS 29 Low.refl (fun i hi q => by
      have e0 := (clN_ok (basR_lite hR)).e (1712 + i) (by omega)
      exact absurd (q.symm.trans e0) (by decide)) (phi b i) (phi_lt h2 hi) h)
    rw [phi_inj h2 hi hk e]; exact ho
  · intro h
    refine vdG_least (S := fun i => emp (rulesN b) (phi b i)) (OV_mono hR hf) (fun i hi q => ?_) hi h
    refine hclosed _ (phi_lt h2 hi) ?_
    unfold deadS
    rw [Bool.or_eq_true, List.any_eq_true]
    rcases (OV_iff hR hf hi).1 q with q | ⟨k, hk, q1, q2⟩ | ⟨q1, q2⟩
    · left; rw [← confl_low hlow (phi_lt h2 hi) (phi_lt h2 hi)]; exact q
    · refine .inr ⟨phi b k, List.mem_range.2 (phi_lt h2 hk), ?_⟩
      rw [cl0 _ _ (phi_lt h2 hi) (phi_lt h2 hk), rch_phi hR hf hi hk, q1]
      have q3 : emp (rulesN b) (phi b k) = true := q2
      rw [q3]; rfl
    · refine .inr ⟨phi b i, List.mem_range.2 (phi_lt h2 hi), ?_⟩
      rw [cl0 _ _ (phi_lt h2 hi) (phi_lt h2 hi), rch_phi hR hf hi hi, OU_refl hR hf hi, decide_eq_true ((phi_ge h2 hi).2 q1), (inv_phi hR hf hi q1).1]
      have q3 : emp (rulesN b) (phi b (b.kc + ((i - b.kc) ^^^ 1))) = true := q2
      rw [q3]; simp
end
end
end

/-! ### What LiteRules compares is the same. -/
section
set_option linter.unusedSectionVars false
theorem impE_fault (b : Bas) (c d : Con) : impE b c d = faultE b [c] [d] := by
  unfold impE faultE refE
  rw [basR_eq]
  simp only [List.cons_append, List.nil_append, List.all_cons, List.all_nil, Bool.and_true]
  cases basV b <;> cases conOK b.nms c <;> cases conOK b.nms d <;> cases fitR b <;> cases basC c <;> cases supC d <;> simp
theorem refE_askE (b : Bas) : refE b = askE b := by
  unfold refE askE; rw [basR_eq]
/-- What no error means. -/
theorem fault1 {b : Bas} {c d : Con} (h : faultE b [c] [d] = 0) : basR b = true ∧ fitR b = true ∧ (basC c = true ∧ shaped b.nms.cs.length b.nms.rs.length c = true) ∧ supC d = true ∧ shaped b.nms.cs.length b.nms.rs.length d = true := by
  unfold faultE refE at h
  simp only [List.cons_append, List.nil_append, List.all_cons, List.all_nil, Bool.and_true] at h
  cases h1 : basR b <;> cases h2 : conOK b.nms c <;> cases h3 : conOK b.nms d <;> cases h4 : fitR b <;> cases h5 : basC c <;> cases h6 : supC d <;> simp [h1, h2, h3, h4, h5, h6] at h
  exact ⟨rfl, rfl, ⟨rfl, conOK_shaped h2⟩, rfl, conOK_shaped h3⟩
abbrev RuB (b : Bas) (q : Nat) : Ru := ruOf b q (OB b) (OU b) (OA b) (OE b)
theorem sup_at {b : Bas} {d : Con} {q : Nat} (hn : namesOK b.nms = true) (hs : supC d = true) (h : shaped b.nms.cs.length b.nms.rs.length d = true) : supAt (RuB b q).nc (RuB b q).sz d (idN b (supK d)) := by
  rcases sup_cases h hs with e | ⟨e, a, ea, ha1, ha2⟩ | ⟨n2, n3, ha1, ha2⟩
  · exact .inl e
  · have eK : supK d = a := by unfold supK; rw [if_pos e, ea]; rfl
    refine .inr ?_
    rw [eK]
    exact ⟨(idN_ok ha1 ha2).1, (idN_ok ha1 ha2).2, shaped_small hn ha2, fun _ => ⟨a, ea⟩⟩
  · have eK : supK d = d := by unfold supK; rw [if_neg n3]
    refine .inr ?_
    rw [eK]
    exact ⟨(idN_ok ha1 ha2).1, (idN_ok ha1 ha2).2, shaped_small hn ha2, fun q => absurd q n3⟩
section
variable {b : Bas} {q q' : Nat} {B U A : Mx} {E : Nat → Bool}
theorem ruOf_E : (ruOf b q B U A E).E = E := rfl
theorem ruOf_U : (ruOf b q B U A E).U = U := rfl
theorem ruOf_B : (ruOf b q B U A E).B = B := rfl
theorem ruOf_clash {p r : Nat → Bool} : clash (ruOf b q B U A E) p r = clash (ruOf b q' B U A E) p r := rfl
end
theorem impl_abs {b : Bas} {c d : Con} {N : Nat} {R : Ru} {E0 : Nat → Bool} {U0 : Mx} {CL : (Nat → Bool) → (Nat → Bool) → Bool} (hE : R.E = E0) (hU : R.U = U0) (hC : ∀ p r, clash R p r = CL p r)
    (f1 : ∀ {x : Nat}, x < b.kz → emp N (phi b x) = E0 x) (f2 : ∀ {x y : Nat}, x < b.kz → y < b.kz → confl N (phi b x) (phi b y) = CL (U0 x) (U0 y)) (f3 : ∀ {x y : Nat}, x < b.kz → y < b.kz → rch N (phi b x) (phi b y) = U0 x y)
    (hc : basC c = true ∧ shaped b.nms.cs.length b.nms.rs.length c = true) (hd : supC d = true) (hd2 : shaped b.nms.cs.length b.nms.rs.length d = true) :
    implR N (numC c).toNat (rhsC d).1.toNat (rhsC d).2.1 (rhsC d).2.2 = impRef R (idN b c) (idN b (supK d)) d.op := by
  have e1 := numC_phi hc.1 hc.2
  have l1 := (idN_ok hc.1 hc.2).2
  unfold implR impRef
  rw [hE, hU, hC, e1, f1 l1]
  congr 1
  rcases sup_cases hd2 hd with e | ⟨e, a, ea, ha1, ha2⟩ | ⟨n2, n3, ha1, ha2⟩
  · have er : rhsC d = (0, false, true) := by unfold rhsC; rw [if_pos e]
    rw [er, decide_eq_true e]; rfl
  · have er : rhsC d = (numC a, true, false) := by
      revert ea e
      generalize d = c
      obtain ⟨op, n, l⟩ := c
      simp only [Con.op, Con.args]
      intro e ea; subst e; subst ea
      simp [rhsC, Con.op]
    have eK : supK d = a := by unfold supK; rw [if_pos e, ea]; rfl
    have e2 := numC_phi ha1 ha2
    have l2 := (idN_ok ha1 ha2).2
    rw [er, eK, e]
    simp only [e2, if_true]
    rw [f1 l2, f2 l1 l2]; rfl
  · have er : rhsC d = (numC d, false, false) := by
      revert n2 n3 ha1
      generalize d = c
      obtain ⟨op, n, l⟩ := c
      simp only [Con.op]
      intro n2 n3 ha1
      cases l with
      | nil => simp [rhsC, Con.op, n2]
      | cons a l => simp [rhsC, Con.op, n2, n3]
    have eK : supK d = d := by unfold supK; rw [if_neg n3]
    have e2 := numC_phi ha1 ha2
    have l2 := (idN_ok ha1 ha2).2
    rw [er, eK, decide_eq_false n2, if_neg n3]
    simp only [e2, Bool.false_eq_true, if_false]
    rw [f3 l1 l2]
theorem implR_ref {b : Bas} {c d : Con} (q : Nat) (hR : basR b = true) (hf : fitR b = true) (hc : basC c = true ∧ shaped b.nms.cs.length b.nms.rs.length c = true) (hd : supC d = true) (hd2 : shaped b.nms.cs.length b.nms.rs.length d = true) : impV b c d = impRef (RuB b q) (idN b c) (idN b (supK d)) d.op :=
  impl_abs (N := rulesN b) (R := RuB b q) (E0 := OE b) (U0 := OU b) (CL := clash (ruOf b 0 (OB b) (OU b) (OA b) (OE b))) ruOf_E ruOf_U (fun _ _ => ruOf_clash) (fun hx => emp_phi hR hf hx) (fun hx hy => confl_phi hR hf hx hy (OE b)) (fun hx hy => rch_phi hR hf hx hy) hc hd hd2
theorem filt_congr {p q : Nat → Bool} {k : Nat} (h : ∀ i, i < k → p i = q i) : filt p k = filt q k := by
  unfold filt
  exact List.filter_congr fun i hi => h i (List.mem_range.1 hi)
def undF (b : Bas) (r s : Nat) : Bool := OE b (b.kc + r) || OB b r s
theorem aboF_eq {b : Bas} (hR : basR b = true) (hf : fitR b = true) {r s : Nat} (hr : r < b.kr) (hs : s < b.kr) : aboF b r s = undF b r s := by
  have h2 := basR_few2 hR
  unfold aboF undF
  rw [rol_eq hR hr hs, ← phi_role h2, emp_phi hR hf (by unfold Bas.kz; omega), Bool.or_comm]
theorem emC_eq {b : Bas} (hR : basR b = true) (hf : fitR b = true) : emC b = filt (OE b) b.kc := by
  unfold emC
  refine filt_congr fun i hi => ?_
  have hi' : i < b.nms.cs.length := hi
  rw [← emp_phi hR hf (by unfold Bas.kz Bas.kc; omega)]
  unfold phi; rw [if_pos hi]
theorem emR_eq {b : Bas} (hR : basR b = true) (hf : fitR b = true) : emR b = filt (fun s => OE b (b.kc + s)) b.kr := by
  have h2 := basR_few2 hR
  unfold emR
  refine filt_congr fun i hi => ?_
  have hi' : i < b.kr := hi
  rw [← emp_phi hR hf (by unfold Bas.kz; omega), phi_role h2]
end
end Go.Proofs.YtkcbhebbjpiibaaDoor.Pg
