/-
  The pairs of facts and links: what decides consistency, without the program.
-/
import Derived.Test.YtkcbhebbjpiibaaDoorLv
set_option linter.unusedVariables false
set_option linter.unusedSimpArgs false
set_option linter.defProp false
namespace Go.Proofs.YtkcbhebbjpiibaaDoor.Pg
open Go
/-! ### What the data say of an individual -/
abbrev Dat := Sum Fac Lnk
def sg : Dat → List (Nat × Nat)
  | .inl f => [(f.ind.toNat, f.con.n.toNat)]
  | .inr l => [(l.fr.toNat, 16 + 2 * l.role.toNat), (l.to.toNat, 16 + (2 * l.role.toNat + 1))]
def stS (S : List (Nat × Nat)) (i : Nat) : List Nat := (S.filter fun p => p.1 == i).map (·.2)
def sd (x : Dat) (i : Nat) : List Nat := stS (sg x) i
def Bas.dat (b : Bas) : List Dat := b.facts.map .inl ++ b.links.map .inr
def stD (D : List Dat) (i : Nat) : List Nat := D.flatMap fun x => sd x i
theorem stD_eq (D : List Dat) (i : Nat) : stD D i = stS (D.flatMap sg) i := by
  unfold stD stS sd stS; rw [List.filter_flatMap, List.map_flatMap]
def sndA (N : Nat) (pre : List Nat) : List Nat → Bool
  | [] => true
  | c :: r => !emp N c && pre.all (fun d => !confl N c d) && sndA N (pre ++ [c]) r
def sndD (N n : Nat) (D : List Dat) : Bool := (List.range n).all fun i => sndA N [] (stD D i)
def soundB (b : Bas) : Bool := sndD (rulesN b) b.nms.is.length b.dat
theorem sndA_iff (N : Nat) : ∀ (l pre : List Nat), sndA N pre l = true ↔ (∀ c ∈ l, emp N c = false) ∧ (∀ d ∈ pre, ∀ c ∈ l, confl N c d = false) ∧ l.Pairwise (fun d c => confl N c d = false)
  | [], pre => by simp [sndA]
  | c :: r, pre => by
    have q1 : (pre.all (fun d => !confl N c d)) = true ↔ ∀ d ∈ pre, confl N c d = false := by rw [List.all_eq_true]; simp only [Bool.not_eq_true']
    simp only [sndA, Bool.and_eq_true, sndA_iff N r, List.pairwise_cons, List.mem_cons, List.mem_append, List.not_mem_nil, or_false, q1, Bool.not_eq_true']
    constructor
    · rintro ⟨⟨a1, a2⟩, b1, b2, b3⟩
      refine ⟨?_, ?_, fun y hy => b2 c (.inr rfl) y hy, b3⟩
      · rintro x (rfl | hx)
        · exact a1
        · exact b1 x hx
      · rintro d hd x (rfl | hx)
        · exact a2 d hd
        · exact b2 d (.inl hd) x hx
    · rintro ⟨a1, a2, a3, a4⟩
      refine ⟨⟨a1 c (.inl rfl), fun d hd => a2 d hd c (.inl rfl)⟩, fun x hx => a1 x (.inr hx), ?_, a4⟩
      rintro d (hd | rfl) x hx
      · exact a2 d hd x (.inr hx)
      · exact a3 x hx
def Q1 (N i : Nat) (x : Dat) : Prop := (∀ c ∈ sd x i, emp N c = false) ∧ (sd x i).Pairwise (fun d c => confl N c d = false)
def Q2 (N i : Nat) (x y : Dat) : Prop := ∀ d ∈ sd x i, ∀ c ∈ sd y i, confl N c d = false
theorem sndD_iff (N n : Nat) (D : List Dat) : sndD N n D = true ↔ ∀ i, i < n → (∀ x ∈ D, Q1 N i x) ∧ D.Pairwise (Q2 N i) := by
  unfold sndD
  rw [List.all_eq_true]
  constructor
  · intro h i hi
    have := (sndA_iff N _ _).1 (h i (List.mem_range.2 hi))
    obtain ⟨h1, -, h3⟩ := this
    unfold stD at h1 h3
    rw [List.pairwise_flatMap] at h3
    exact ⟨fun x hx => ⟨fun c hc => h1 c (List.mem_flatMap.2 ⟨x, hx, hc⟩), h3.1 x hx⟩, h3.2⟩
  · intro h i hi
    obtain ⟨h1, h2⟩ := h i (List.mem_range.1 hi)
    refine (sndA_iff N _ _).2 ⟨fun c hc => ?_, fun d hd => (List.not_mem_nil hd).elim, ?_⟩
    · obtain ⟨x, hx, hc⟩ := List.mem_flatMap.1 hc
      exact (h1 x hx).1 c hc
    · unfold stD
      rw [List.pairwise_flatMap]
      exact ⟨fun x hx => (h1 x hx).2, h2⟩
def pick {α : Type} (D : List α) (p q : Nat) : List α := (D[p]?).toList ++ (if p = q then [] else (D[q]?).toList)
theorem pairs_law (N n : Nat) (D : List Dat) : sndD N n D = (List.range D.length).all fun p => (List.range (D.length - p)).all fun q => sndD N n (pick D p (p + q)) := by
  rw [Bool.eq_iff_iff, sndD_iff, List.all_eq_true]
  constructor
  · intro h p hp
    rw [List.all_eq_true]
    intro q hq
    rw [List.mem_range] at hp hq
    rw [sndD_iff]
    intro i hi
    obtain ⟨h1, h2⟩ := h i hi
    have e1 : D[p]? = some D[p] := List.getElem?_eq_getElem hp
    have e2 : D[p + q]? = some (D[p + q]'(by omega)) := List.getElem?_eq_getElem (by omega)
    unfold pick
    rw [e1, e2]
    by_cases hz : p = p + q
    · rw [if_pos hz]
      simp only [Option.toList, List.append_nil, List.mem_cons, List.not_mem_nil, or_false, forall_eq, List.pairwise_singleton, and_true]
      exact h1 _ (List.getElem_mem hp)
    · rw [if_neg hz]
      simp only [Option.toList, List.cons_append, List.nil_append, List.mem_cons, List.not_mem_nil, or_false, forall_eq_or_imp, forall_eq, List.pairwise_cons, List.Pairwise.nil, and_true, false_imp_iff, implies_true]
      exact ⟨⟨h1 _ (List.getElem_mem hp), h1 _ (List.getElem_mem _)⟩, List.pairwise_iff_getElem.1 h2 p (p + q) hp (by omega) (by omega)⟩
  · intro h i hi
    have key : ∀ p q, (hp : p < D.length) → (hq : q < D.length - p) → sndD N n (pick D p (p + q)) = true := fun p q hp hq => List.all_eq_true.1 (h p (List.mem_range.2 hp)) q (List.mem_range.2 hq)
    refine ⟨fun x hx => ?_, List.pairwise_iff_getElem.2 fun p q hp hq hpq => ?_⟩
    · obtain ⟨p, hp, rfl⟩ := List.getElem_of_mem hx
      have := (sndD_iff N n _).1 (key p 0 hp (by omega)) i hi
      refine this.1 _ ?_
      unfold pick
      rw [List.getElem?_eq_getElem hp]
      simp
    · have := (sndD_iff N n _).1 (key p (q - p) hp (by omega)) i hi
      rw [show p + (q - p) = q from by omega] at this
      have h2 := this.2
      unfold pick at h2
      rw [List.getElem?_eq_getElem hp, List.getElem?_eq_getElem hq, if_neg (by omega)] at h2
      simp only [Option.toList, List.cons_append, List.nil_append, List.pairwise_cons, List.mem_cons, List.not_mem_nil, or_false, forall_eq] at h2
      exact h2.1
/-! ### Some axioms of a knowledge base -/
def hasN (l : List Nat) (n : Nat) : Bool := l.any fun x => decide (x = n)
def keepF {α : Type} (f : Nat → Bool) : List α → List α
  | [] => []
  | x :: r => (if f 0 then [x] else []) ++ keepF (fun k => f (k + 1)) r
theorem keepF_no {α : Type} : ∀ (f : Nat → Bool) (l : List α), (∀ k, f k = false) → keepF f l = []
  | f, [], _ => rfl
  | f, x :: r, h => by rw [keepF, h 0, keepF_no (fun k => f (k + 1)) r (fun k => h (k + 1))]; rfl
theorem keepF_all {α : Type} : ∀ (f : Nat → Bool) (l : List α), (∀ k, k < l.length → f k = true) → keepF f l = l
  | f, [], _ => rfl
  | f, x :: r, h => by
    rw [keepF, h 0 (by simp), keepF_all (fun k => f (k + 1)) r (fun k hk => h (k + 1) (by simp; exact hk))]; rfl
theorem keepF_one {α : Type} : ∀ (f : Nat → Bool) (l : List α) (p : Nat), (∀ k, f k = decide (k = p)) → keepF f l = (l[p]?).toList
  | f, [], p, h => by simp [keepF]
  | f, x :: r, 0, h => by
    rw [keepF, h 0, keepF_no (fun k => f (k + 1)) r (fun k => by simp [h (k + 1)])]; rfl
  | f, x :: r, p + 1, h => by
    rw [keepF, h 0, keepF_one (fun k => f (k + 1)) r p (fun k => by rw [h (k + 1)]; exact decide_eq_decide.2 (by omega))]; simp
theorem keepF_two {α : Type} : ∀ (f : Nat → Bool) (l : List α) (p q : Nat), p < q → (∀ k, f k = (decide (k = p) || decide (k = q))) → keepF f l = (l[p]?).toList ++ (l[q]?).toList
  | f, [], p, q, _, h => by simp [keepF]
  | f, x :: r, 0, 0, hpq, h => by omega
  | f, x :: r, 0, q + 1, hpq, h => by
    rw [keepF, h 0, keepF_one (fun k => f (k + 1)) r q (fun k => by
      rw [h (k + 1), decide_eq_false (by omega : ¬ k + 1 = 0), Bool.false_or]; exact decide_eq_decide.2 (by omega))]; simp
  | f, x :: r, p + 1, 0, hpq, h => by omega
  | f, x :: r, p + 1, q + 1, hpq, h => by
    rw [keepF, h 0, keepF_two (fun k => f (k + 1)) r p q (by omega) (fun k => by
      rw [h (k + 1)]; congr 1 <;> exact decide_eq_decide.2 (by omega))]; simp
theorem keepF_append {α : Type} : ∀ (f : Nat → Bool) (l r : List α), keepF f (l ++ r) = keepF f l ++ keepF (fun k => f (l.length + k)) r
  | f, [], r => by simp [keepF]
  | f, x :: l, r => by
    rw [List.cons_append, keepF, keepF, keepF_append (fun k => f (k + 1)) l r, List.append_assoc]
    congr 3
    funext k; congr 1; simp only [List.length_cons]; omega
theorem keepF_map {α β : Type} (g : α → β) : ∀ (f : Nat → Bool) (l : List α), keepF f (l.map g) = (keepF f l).map g
  | f, [] => rfl
  | f, x :: l => by
    rw [List.map_cons, keepF, keepF, keepF_map g (fun k => f (k + 1)) l, List.map_append]
    cases f 0 <;> rfl
theorem keepF_sub {α : Type} : ∀ (f : Nat → Bool) (l : List α), (keepF f l).Sublist l
  | f, [] => List.Sublist.refl _
  | f, x :: l => by
    rw [keepF]
    cases f 0 with
    | true => exact List.Sublist.cons_cons x (keepF_sub _ l)
    | false => exact List.Sublist.cons x (keepF_sub _ l)
theorem keepF_take {α : Type} (f : Nat → Bool) (l : List α) (k : Nat) {x : α} {r : List α} (h : l.drop k = x :: r) : keepF f (l.take (k + 1)) = keepF f (l.take k) ++ (if f k then [x] else []) := by
  have hk : k < l.length := by
    rcases Nat.lt_or_ge k l.length with q | q
    · exact q
    · rw [List.drop_eq_nil_of_le q] at h; cases h
  have e : l.take (k + 1) = l.take k ++ [x] := by
    rw [List.take_succ_eq_append_getElem hk]
    congr 2
    rw [List.drop_eq_getElem_cons hk] at h
    exact (List.cons.inj h).1
  rw [e, keepF_append, List.length_take_of_le (by omega)]
  simp [keepF]
def onl (b : Bas) (l : List Nat) : Bas where
  nms := b.nms
  incls := keepF (hasN l) b.incls
  roles := keepF (fun k => hasN l (b.incls.length + k)) b.roles
  facts := keepF (fun k => hasN l (b.incls.length + b.roles.length + k)) b.facts
  links := keepF (fun k => hasN l (b.incls.length + b.roles.length + b.facts.length + k)) b.links
theorem onl_dat (b : Bas) (l : List Nat) : (onl b l).dat = keepF (fun k => hasN l (b.incls.length + b.roles.length + k)) b.dat := by
  unfold Bas.dat onl
  rw [keepF_append, keepF_map, keepF_map, List.length_map]
  simp only
  congr 3
  funext k; congr 1; omega
theorem onl_ok {b : Bas} (h : b.ok) (l : List Nat) : (onl b l).ok := by
  refine ⟨h.nms, h.short, ?_, ?_, ?_, ?_, fun x hx => h.incls x ((keepF_sub _ _).mem hx), fun x hx => h.roles x ((keepF_sub _ _).mem hx), fun x hx => h.facts x ((keepF_sub _ _).mem hx), fun x hx => h.links x ((keepF_sub _ _).mem hx)⟩
  · exact Nat.lt_of_le_of_lt (keepF_sub _ _).length_le h.li
  · exact Nat.lt_of_le_of_lt (keepF_sub _ _).length_le h.lr
  · exact Nat.lt_of_le_of_lt (keepF_sub _ _).length_le h.lf
  · exact Nat.lt_of_le_of_lt (keepF_sub _ _).length_le h.ll
theorem onl_few {b : Bas} (h : b.few) (l : List Nat) : (onl b l).few := ⟨fun x hx => h.1 x ((keepF_sub _ _).mem hx), fun x hx => h.2 x ((keepF_sub _ _).mem hx)⟩
theorem consI_sub {l r : List Inc} (h : l.Sublist r) : (consI l).Sublist (consI r) := by
  induction h with
  | slnil => exact List.Sublist.refl _
  | cons x _ ih => exact List.Sublist.cons _ (List.Sublist.cons _ ih)
  | cons_cons x _ ih => exact List.Sublist.cons_cons _ (List.Sublist.cons_cons _ ih)
theorem consF_sub {l r : List Fac} (h : l.Sublist r) : (consF l).Sublist (consF r) := by
  induction h with
  | slnil => exact List.Sublist.refl _
  | cons x _ ih => exact List.Sublist.cons _ ih
  | cons_cons x _ ih => exact List.Sublist.cons_cons _ ih
theorem sumN_sub {l r : List Con} (h : l.Sublist r) : sumN l ≤ sumN r := by
  induction h with
  | slnil => exact Nat.le_refl _
  | cons x _ ih => simp only [sumN]; omega
  | cons_cons x _ ih => simp only [sumN]; omega
theorem all_sub {α : Type} {p : α → Bool} {l r : List α} (h : l.Sublist r) (hr : r.all p = true) : l.all p = true :=
  List.all_eq_true.2 fun x hx => List.all_eq_true.1 hr x (h.mem hx)
theorem onl_basR {b : Bas} (h : basR b = true) (l : List Nat) : basR (onl b l) = true := by
  have hc : (onl b l).cons.Sublist b.cons := List.Sublist.append (consI_sub (keepF_sub _ _)) (consF_sub (keepF_sub _ _))
  have hn : (onl b l).count ≤ b.count := by
    have h1 := (keepF_sub (hasN l) b.incls).length_le
    have h2 := (keepF_sub (fun k => hasN l (b.incls.length + k)) b.roles).length_le
    have h3 := (keepF_sub (fun k => hasN l (b.incls.length + b.roles.length + k)) b.facts).length_le
    have h4 := (keepF_sub (fun k => hasN l (b.incls.length + b.roles.length + b.facts.length + k)) b.links).length_le
    unfold Bas.count onl; simp only; omega
  unfold basR at h ⊢
  simp only [Bool.and_eq_true, decide_eq_true_eq] at h ⊢
  obtain ⟨⟨h1, h2⟩, h3, h4, h5, h6, h7⟩ := h
  exact ⟨⟨h1, by omega⟩, all_sub hc h3, all_sub (keepF_sub _ _) h4, all_sub (keepF_sub _ _) h5, all_sub (keepF_sub _ _) h6, by have := sumN_sub hc; omega⟩
theorem onl_askE {b : Bas} (h : askE b = 0) (l : List Nat) : askE (onl b l) = 0 := by
  obtain ⟨h1, h2⟩ := askE_basR h
  have g1 : basV (onl b l) = true := by rw [← basR_eq]; exact onl_basR h1 l
  have g2 : fitR (onl b l) = true := by
    unfold fitR at h2 ⊢
    rw [Bool.and_eq_true] at h2 ⊢
    exact ⟨all_sub (keepF_sub _ _) h2.1, all_sub (keepF_sub _ _) h2.2⟩
  unfold askE; rw [g1, g2]; rfl
/-- The rules, and two of the data. -/
def partL (r x y : Nat) : List Nat := List.range r ++ [x] ++ (if y = x then [] else [y])
theorem hasN_part (r x y k : Nat) : hasN (partL r x y) k = (decide (k < r) || decide (k = x) || decide (k = y)) := by
  unfold hasN partL
  rw [Bool.eq_iff_iff, List.any_eq_true]
  simp only [List.mem_append, List.mem_range, List.mem_cons, List.not_mem_nil, or_false, Bool.or_eq_true, decide_eq_true_eq]
  constructor
  · rintro ⟨a, (h | h) | h, rfl⟩
    · exact .inl (.inl h)
    · exact .inl (.inr h)
    · split at h
      · simp at h
      · simp at h; exact .inr h
  · rintro ((h | h) | h)
    · exact ⟨k, .inl (.inl h), rfl⟩
    · exact ⟨k, .inl (.inr h), rfl⟩
    · by_cases e : y = x
      · exact ⟨k, .inl (.inr (h.trans e)), rfl⟩
      · exact ⟨k, .inr (by rw [if_neg e]; simp; exact h), rfl⟩
theorem onl_part (b : Bas) (p q : Nat) : let r := b.incls.length + b.roles.length
    (onl b (partL r (r + p) (r + (p + q)))).incls = b.incls ∧ (onl b (partL r (r + p) (r + (p + q)))).roles = b.roles ∧ (onl b (partL r (r + p) (r + (p + q)))).dat = pick b.dat p (p + q) := by
  intro r
  refine ⟨keepF_all _ _ fun k hk => ?_, keepF_all _ _ fun k hk => ?_, ?_⟩
  · rw [hasN_part, decide_eq_true (by show k < b.incls.length + b.roles.length; omega)]; rfl
  · rw [hasN_part, decide_eq_true (by show _ < b.incls.length + b.roles.length; omega)]; rfl
  · rw [onl_dat]
    unfold pick
    by_cases hq : p = p + q
    · rw [if_pos hq, List.append_nil]
      refine keepF_one _ _ _ fun k => ?_
      rw [hasN_part, decide_eq_false (by show ¬ r + k < r; omega), Bool.false_or, ← hq, Bool.or_self]
      exact decide_eq_decide.2 (by show r + k = r + p ↔ _; omega)
    · rw [if_neg hq]
      refine keepF_two _ _ _ _ (by omega) fun k => ?_
      rw [hasN_part, decide_eq_false (by show ¬ r + k < r; omega), Bool.false_or]
      congr 1
      · exact decide_eq_decide.2 (by show r + k = r + p ↔ _; omega)
      · exact decide_eq_decide.2 (by show r + k = r + (p + q) ↔ _; omega)
theorem rulesN_part {b c : Bas} (h1 : c.incls = b.incls) (h2 : c.roles = b.roles) : rulesN c = rulesN b := by
  unfold rulesN stI stR; rw [h1, h2]
theorem soundB_pairs (b : Bas) : soundB b = (List.range b.dat.length).all fun p => (List.range (b.dat.length - p)).all fun q =>
    soundB (onl b (partL (b.incls.length + b.roles.length) (b.incls.length + b.roles.length + p) (b.incls.length + b.roles.length + (p + q)))) := by
  have key : ∀ p q, soundB (onl b (partL (b.incls.length + b.roles.length) (b.incls.length + b.roles.length + p) (b.incls.length + b.roles.length + (p + q)))) = sndD (rulesN b) b.nms.is.length (pick b.dat p (p + q)) := fun p q => by
    obtain ⟨e1, e2, e3⟩ := onl_part b p q
    have e4 : ∀ l, (onl b l).nms = b.nms := fun _ => rfl
    unfold soundB
    rw [rulesN_part e1 e2, e3, e4]
  simp only [key]
  exact pairs_law _ _ _
end Go.Proofs.YtkcbhebbjpiibaaDoor.Pg
