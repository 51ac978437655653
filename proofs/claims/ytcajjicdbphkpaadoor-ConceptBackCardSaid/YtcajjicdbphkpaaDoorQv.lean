/-
  The program's reader and the document's read the same.
-/
import Derived.Test.YtcajjicdbphkpaaDoorQu
set_option linter.unusedVariables false
set_option linter.unusedSimpArgs false
set_option maxRecDepth 100000
set_option maxHeartbeats 8000000
namespace Go.Proofs.YtcajjicdbphkpaaDoor.Pg
open Go
def refN (n : Nms) : Option (Bool × List UInt8 × Bool) → Int
  | none => 0
  | some (role, t, inv) => lateN n role inv (ofL t)
def refU (n : Nms) : Option (Bool × List UInt8 × Bool) → Bool
  | none => false
  | some (role, t, _) => decide (lateF n role (ofL t) < 0)
mutual
def PT.con (n : Nms) : PT → Con
  | .mk op ref l => .mk op (refN n ref) (PT.conL n l)
def PT.conL (n : Nms) : List PT → List Con
  | [] => []
  | t :: l => t.con n :: PT.conL n l
end
mutual
def PT.unk (n : Nms) : PT → Bool
  | .mk _ ref l => refU n ref || PT.unkL n l
def PT.unkL (n : Nms) : List PT → Bool
  | [] => false
  | t :: l => t.unk n || PT.unkL n l
end
mutual
def PT.nodes : PT → Nat
  | .mk _ _ l => 1 + PT.nodesL l
def PT.nodesL : List PT → Nat
  | [] => 0
  | t :: l => t.nodes + PT.nodesL l
end
mutual
def PT.sm : PT → Prop
  | .mk op _ l => 0 ≤ op ∧ op ≤ 7 ∧ l.length ≤ 2 ∧ PT.smL l
def PT.smL : List PT → Prop
  | [] => True
  | t :: l => t.sm ∧ PT.smL l
end
mutual
theorem IT.con_nodes {v : Nat → Int} : ∀ t : IT, (t.con v).nodes = t.shape.nodes
  | .mk i op ref l => by simp only [IT.con, IT.shape, Con.nodes, PT.nodes, IT.cons_nodes l]
theorem IT.cons_nodes {v : Nat → Int} : ∀ l : List IT, Con.nodesL (IT.cons v l) = PT.nodesL (IT.shapes l)
  | [] => rfl
  | t :: l => by simp only [IT.cons, IT.shapes, Con.nodesL, PT.nodesL, IT.con_nodes t, IT.cons_nodes l]
end
theorem IT.shapes_len : ∀ l : List IT, (IT.shapes l).length = l.length
  | [] => rfl
  | t :: l => by simp only [IT.shapes, List.length_cons, IT.shapes_len l]
mutual
theorem IT.con_ok {v : Nat → Int} (hv : ∀ i, R64 (v i)) : ∀ t : IT, t.shape.sm → (t.con v).ok
  | .mk i op ref l, h => by
    simp only [IT.shape, PT.sm, IT.shapes_len] at h
    refine ⟨by unfold R64; omega, hv i, by rw [IT.cons_len]; omega, IT.cons_ok hv l h.2.2.2⟩
theorem IT.cons_ok {v : Nat → Int} (hv : ∀ i, R64 (v i)) : ∀ l : List IT, PT.smL (IT.shapes l) → Con.oks (IT.cons v l)
  | [], _ => True.intro
  | t :: l, h => by
    simp only [IT.shapes, PT.smL] at h
    exact ⟨IT.con_ok hv t h.1, IT.cons_ok hv l h.2⟩
end
mutual
theorem IT.con_eqv {v v' : Nat → Int} : ∀ t : IT, (∀ i ∈ t.ids, v' i = v i) → t.con v' = t.con v
  | .mk i op ref l, h => by
    simp only [IT.ids, List.mem_cons] at h
    simp only [IT.con, h i (.inl rfl), IT.cons_eqv l fun k hk => h k (.inr hk)]
theorem IT.cons_eqv {v v' : Nat → Int} : ∀ l : List IT, (∀ i ∈ IT.idsL l, v' i = v i) → IT.cons v' l = IT.cons v l
  | [], _ => rfl
  | t :: l, h => by
    simp only [IT.idsL, List.mem_append] at h
    simp only [IT.cons, IT.con_eqv t fun k hk => h k (.inl hk), IT.cons_eqv l fun k hk => h k (.inr hk)]
end
theorem finS_append {n : Nms} : ∀ (a b : List (Nat × Bool × List UInt8 × Bool)) (s : FS), finS n (a ++ b) s = finS n b (finS n a s)
  | [], b, s => rfl
  | (i, role, t, inv) :: a, b, s => by simp only [List.cons_append, finS, finS_append a b]
theorem finS_R {n : Nms} (h1 : n.cs.length ≤ 1000000) (h2 : n.rs.length ≤ 1000000) : ∀ (a : List (Nat × Bool × List UInt8 × Bool)) (s : FS), (∀ i, R64 (s.v i)) → ∀ i, R64 ((finS n a s).v i)
  | [], s, h => h
  | (i, role, t, inv) :: a, s, h => by
    simp only [finS]
    refine finS_R h1 h2 a _ ?_
    split
    · exact h
    · intro k
      simp only [updV]
      split
      · unfold lateN R64
        have a1 := findS_lt n.rs (ofL t); have a2 := findS_lt n.cs (ofL t)
        have a3 := findS_ge n.rs (ofL t); have a4 := findS_ge n.cs (ofL t)
        split
        · split <;> omega
        · omega
      · exact h k
mutual
theorem IT.fin {n : Nms} : ∀ (t : IT) (s : FS), t.ids.Nodup → (∀ i ∈ t.ids, s.v i = 0) → (finS n t.items s).bad = (s.bad || t.shape.unk n) ∧ (∀ i, i ∉ t.ids → (finS n t.items s).v i = s.v i) ∧ (t.shape.unk n = false → t.con (finS n t.items s).v = t.shape.con n)
  | .mk i op ref l, s, hd, hv => by
    simp only [IT.ids, List.nodup_cons] at hd
    simp only [IT.ids, List.mem_cons] at hv
    simp only [IT.items, finS_append]
    cases ref with
    | none =>
      simp only [finS]
      obtain ⟨k1, k2, k3⟩ := IT.finL (n := n) l s hd.2 fun k hk => hv k (.inr hk)
      refine ⟨?_, fun k hk => k2 k fun q => hk (by simp only [IT.ids, List.mem_cons]; exact .inr q), fun hu => ?_⟩
      · simp only [IT.shape, PT.unk, refU, Bool.false_or, k1]
      · simp only [IT.shape, PT.unk, refU, Bool.false_or] at hu
        simp only [IT.con, IT.shape, PT.con, refN, k3 hu, k2 i hd.1, hv i (.inl rfl)]
    | some x =>
      obtain ⟨role, t, inv⟩ := x
      simp only [finS]
      by_cases hneg : lateF n role (ofL t) < 0
      · rw [if_pos hneg]
        obtain ⟨k1, k2, k3⟩ := IT.finL (n := n) l ⟨s.v, true⟩ hd.2 fun k hk => hv k (.inr hk)
        refine ⟨?_, fun k hk => k2 k fun q => hk (by simp only [IT.ids, List.mem_cons]; exact .inr q), fun hu => ?_⟩
        · simp only [IT.shape, PT.unk, refU, k1, decide_eq_true hneg, Bool.true_or, Bool.or_true]
        · simp only [IT.shape, PT.unk, refU, decide_eq_true hneg, Bool.true_or] at hu; cases hu
      · rw [if_neg hneg]
        have hne : ∀ k ∈ IT.idsL l, k ≠ i := fun k hk e => hd.1 (e ▸ hk)
        obtain ⟨k1, k2, k3⟩ := IT.finL (n := n) l ⟨updV s.v i (lateN n role inv (ofL t)), s.bad⟩ hd.2 fun k hk => by simp only [updV, if_neg (hne k hk)]; exact hv k (.inr hk)
        refine ⟨?_, fun k hk => ?_, fun hu => ?_⟩
        · simp only [IT.shape, PT.unk, refU, k1, decide_eq_false hneg, Bool.false_or]
        · simp only [IT.ids, List.mem_cons, not_or] at hk
          rw [k2 k hk.2]; simp only [updV, if_neg hk.1]
        · simp only [IT.shape, PT.unk, refU, decide_eq_false hneg, Bool.false_or] at hu
          simp only [IT.con, IT.shape, PT.con, refN, k3 hu, k2 i hd.1, updV, if_true]
theorem IT.finL {n : Nms} : ∀ (l : List IT) (s : FS), (IT.idsL l).Nodup → (∀ i ∈ IT.idsL l, s.v i = 0) → (finS n (IT.itemsL l) s).bad = (s.bad || PT.unkL n (IT.shapes l)) ∧ (∀ i, i ∉ IT.idsL l → (finS n (IT.itemsL l) s).v i = s.v i) ∧ (PT.unkL n (IT.shapes l) = false → IT.cons (finS n (IT.itemsL l) s).v l = PT.conL n (IT.shapes l))
  | [], s, _, _ => ⟨by simp [IT.itemsL, finS, IT.shapes, PT.unkL], fun _ _ => rfl, fun _ => rfl⟩
  | t :: l, s, hd, hv => by
    simp only [IT.idsL, List.nodup_append] at hd
    obtain ⟨d1, d2, d3⟩ := hd
    simp only [IT.idsL, List.mem_append] at hv
    simp only [IT.itemsL, finS_append]
    obtain ⟨k1, k2, k3⟩ := IT.fin (n := n) t s d1 fun k hk => hv k (.inl hk)
    obtain ⟨m1, m2, m3⟩ := IT.finL (n := n) l (finS n t.items s) d2 fun k hk => by rw [k2 k fun q => d3 k q k hk rfl]; exact hv k (.inr hk)
    refine ⟨?_, fun k hk => ?_, fun hu => ?_⟩
    · simp only [IT.shapes, PT.unkL, m1, k1, Bool.or_assoc]
    · simp only [IT.idsL, List.mem_append, not_or] at hk
      rw [m2 k hk.2, k2 k hk.1]
    · simp only [IT.shapes, PT.unkL, Bool.or_eq_false_iff] at hu
      simp only [IT.cons, IT.shapes, PT.conL, m3 hu.2]
      rw [← k3 hu.1]
      congr 1
      exact IT.con_eqv t fun k hk => m2 k fun q => d3 k hk k q rfl
end
theorem pT_size : ∀ (f : Nat) {ts r : List (List UInt8)} {T : PT}, pT f ts = some (T, r) → T.nodes + r.length ≤ ts.length ∧ T.sm
  | 0, ts, r, T, h => by simp [pT] at h
  | f + 1, [], r, T, h => by simp [pT] at h
  | f + 1, t :: r0, r, T, h => by
    have ih := @pT_size f
    simp only [pT] at h
    repeat' split at h
    all_goals try (cases h; done)
    all_goals try (simp only [Option.some.injEq, Prod.mk.injEq] at h; obtain ⟨rfl, rfl⟩ := h; simp [PT.nodes, PT.nodesL, PT.sm, PT.smL]; omega)
    all_goals first
      | (obtain ⟨⟨T', r'⟩, h1, h2⟩ := Option.map_eq_some_iff.1 h
         simp only [Prod.mk.injEq] at h2
         obtain ⟨rfl, rfl⟩ := h2
         obtain ⟨a1, a2⟩ := ih h1
         have hq : ∃ k, r0.length = k ∧ T'.nodes + r'.length ≤ k := by
           first
             | exact ⟨_, rfl, a1⟩
             | exact ⟨_, rfl, Nat.le_trans a1 (by have := (roleP_len (by assumption)).1; omega)⟩
         obtain ⟨_, rfl, a1⟩ := hq
         refine ⟨by simp only [PT.nodes, PT.nodesL, List.length_cons]; omega, by simp only [PT.sm, PT.smL, a2, and_true, List.length_cons, List.length_nil]; first | omega | (split <;> omega)⟩)
      | (simp only [Option.some.injEq, Prod.mk.injEq] at h
         obtain ⟨rfl, rfl⟩ := h
         first
           | (rename_i q1 _ _ _ _ _ _ q2 _ _
              obtain ⟨a1, a2⟩ := ih q1
              obtain ⟨b1, b2⟩ := ih q2
              simp only [List.length_cons] at a1 b1
              refine ⟨by simp only [PT.nodes, PT.nodesL, List.length_cons]; omega, by simp only [PT.sm, PT.smL, a2, b2, and_true, List.length_cons, List.length_nil]; first | omega | (split <;> omega)⟩)
           | (rename_i q1 _ _ _ _ _ _ q2 _ _ _
              obtain ⟨a1, a2⟩ := ih q1
              obtain ⟨b1, b2⟩ := ih q2
              simp only [List.length_cons] at a1 b1
              refine ⟨by simp only [PT.nodes, PT.nodesL, List.length_cons]; omega, by simp only [PT.sm, PT.smL, a2, b2, and_true, List.length_cons, List.length_nil]; first | omega | (split <;> omega)⟩))
/-! ### The document's reader -/
theorem take_bad {s : RS} {t : List UInt8} (h : s.bad = true) : (take s t).bad = true := by unfold take; split <;> simp [h]
theorem wordR_bad {s : RS} (h : s.bad = true) : (wordR s).2.bad = true := by
  unfold wordR; split
  · split <;> simp [h]
  · rfl
theorem rcF_bad {n : Nms} : ∀ (f : Nat) {s : RS}, s.bad = true → (rcF n f s).2.bad = true
  | 0, s, h => rfl
  | f + 1, s, h => by rw [rcF, if_pos (by rw [h]; rfl)]
theorem indexR_bad {l : List ByteArray} {s : RS} (h : (wordR s).2.bad = true) : (indexR l s).2.bad = true := by
  unfold indexR; split <;> exact h
theorem indexR_P (l : List ByteArray) (t : List UInt8) (r : List (List UInt8)) (w : Bool) : if wordK t then indexR l ⟨t :: r, false, w⟩ = (if findS l (ofL t) < 0 then 0 else findS l (ofL t), ⟨r, false, w || decide (findS l (ofL t) < 0)⟩) else (indexR l ⟨t :: r, false, w⟩).2.bad = true := by
  by_cases h : wordK t = true
  · rw [if_pos h]
    have e : wordR ⟨t :: r, false, w⟩ = (t, ⟨r, false, w⟩) := by simp only [wordR, h, if_true]
    unfold indexR
    rw [e]
    by_cases q : findS l (ofL t) < 0
    · simp only [if_pos q, decide_eq_true q, Bool.or_true]
    · simp only [if_neg q, decide_eq_false q, Bool.or_false]
  · rw [if_neg h]
    refine indexR_bad ?_
    simp only [wordR, if_neg h]
theorem roleR_P (n : Nms) (r : List (List UInt8)) (w : Bool) : match roleP r with
    | none => (roleR n ⟨r, false, w⟩).2.bad = true
    | some (s, inv, r1) => (roleR n ⟨r, false, w⟩).2 = ⟨r1, false, w || decide (lateF n true (ofL s) < 0)⟩ ∧ (¬ lateF n true (ofL s) < 0 → (roleR n ⟨r, false, w⟩).1 = lateN n true inv (ofL s)) := by
  cases r with
  | nil =>
    simp only [roleP]
    unfold roleR
    have : (indexR n.rs ⟨[], false, w⟩).2.bad = true := indexR_bad rfl
    split
    · exact take_bad this
    · exact this
  | cons t r =>
    have h := indexR_P n.rs t r w
    by_cases hw : wordK t = true
    · rw [if_pos hw] at h
      simp only [roleP, hw, if_true]
      unfold roleR
      rw [h]
      cases r with
      | nil =>
        rw [if_neg (by simp [sees])]
        exact ⟨rfl, fun q => by simp only [lateN, lateF, if_true] at q ⊢; simp [if_neg q]⟩
      | cons x r2 =>
        by_cases hx : x = [45]
        · subst hx
          simp only [if_true]
          have e1 : sees ⟨[45] :: r2, false, w || decide (findS n.rs (ofL t) < 0)⟩ [45] = true := by simp [sees]
          rw [if_pos e1]
          refine ⟨?_, fun q => ?_⟩
          · unfold take; rw [if_pos e1]; rfl
          · simp only [lateN, lateF, if_true] at q ⊢; simp [if_neg q]
        · simp only [if_neg hx]
          have e1 : sees ⟨x :: r2, false, w || decide (findS n.rs (ofL t) < 0)⟩ [45] = false := by simp [sees, hx]
          rw [e1]
          exact ⟨rfl, fun q => by simp only [lateN, lateF, if_true] at q ⊢; simp [if_neg q]⟩
    · rw [if_neg hw] at h
      simp only [roleP, if_neg hw]
      unfold roleR
      split
      · exact take_bad h
      · exact h
def rcQ (n : Nms) (w : Bool) (x : Con × RS) : Option (PT × List (List UInt8)) → Prop
  | none => x.2.bad = true
  | some (T, r) => x.2 = ⟨r, false, w || T.unk n⟩ ∧ (T.unk n = false → x.1 = T.con n)
theorem rc_pT (n : Nms) : ∀ (f : Nat) (ts : List (List UInt8)) (w : Bool), ts.length ≤ f → rcQ n w (rcF n f ⟨ts, false, w⟩) (pT (f + 1) ts)
  | 0, [], w, h => by simp only [pT]; rfl
  | 0, t :: r, w, h => by simp at h
  | f + 1, [], w, h => by simp only [pT, rcQ, rcF, List.isEmpty_nil, Bool.or_true, if_true]
  | f + 1, t :: r, w, h => by
    have ih := rc_pT n f
    have hr : r.length ≤ f := by simp only [List.length_cons] at h; omega
    have hs : ∀ t', sees ⟨t :: r, false, w⟩ t' = decide (t = t') := fun t' => by simp [sees]
    have tk : ∀ t', t = t' → take ⟨t :: r, false, w⟩ t' = ⟨r, false, w⟩ := fun t' e => by unfold take; rw [hs, decide_eq_true e]; rfl
    have h0 : ((RS.mk (t :: r) false w).bad || (RS.mk (t :: r) false w).ts.isEmpty) = false := rfl
    rw [pT, rcF, h0]
    simp only [Bool.false_eq_true, if_false, hs, decide_eq_true_eq]
    by_cases k1 : t = tTop
    · simp only [if_pos k1, tk _ k1, rcQ, PT.unk, PT.unkL, refU, PT.con, PT.conL, refN, Bool.or_false, implies_true, and_self]
    simp only [if_neg k1]
    by_cases k2 : t = tBot
    · simp only [if_pos k2, tk _ k2, rcQ, PT.unk, PT.unkL, refU, PT.con, PT.conL, refN, Bool.or_false, implies_true, and_self]
    simp only [if_neg k2]
    by_cases k3 : t = tNot
    · simp only [if_pos k3, tk _ k3]
      have q := ih r w hr
      cases hp : pT (f + 1) r with
      | none => rw [hp] at q; exact q
      | some x =>
        obtain ⟨T, r1⟩ := x
        rw [hp] at q
        refine ⟨?_, fun hu => ?_⟩
        · simp only [PT.unk, PT.unkL, refU, Bool.or_false, Bool.false_or]; exact q.1
        · simp only [PT.unk, PT.unkL, refU, Bool.or_false, Bool.false_or] at hu
          simp only [PT.con, PT.conL, refN, q.2 hu]
    simp only [if_neg k3]
    by_cases k4 : t = [40]
    · have n1 : ¬ t = tSome := fun e => by rw [k4] at e; cases e
      have n2 : ¬ t = tAll := fun e => by rw [k4] at e; cases e
      simp only [if_pos k4, if_neg n1, if_neg n2, tk _ k4]
      have q := ih r w hr
      cases hp : pT (f + 1) r with
      | none =>
        rw [hp] at q
        have q : (rcF n f ⟨r, false, w⟩).2.bad = true := q
        simp only [rcQ]
        split
        · exact take_bad (rcF_bad f (take_bad q))
        · exact take_bad (rcF_bad f (take_bad q))
      | some x =>
        obtain ⟨T, r1⟩ := x
        rw [hp] at q
        obtain ⟨q1, q2⟩ := q
        rw [q1]
        have hl1 := (pT_size _ hp).1
        cases r1 with
        | nil =>
          have e : sees ⟨[], false, w || T.unk n⟩ tOr = false := rfl
          have e2 : sees ⟨[], false, w || T.unk n⟩ tAnd = false := rfl
          simp only [e, Bool.false_eq_true, if_false, rcQ]
          refine take_bad (rcF_bad f ?_)
          unfold take; rw [e2]; rfl
        | cons o r2 =>
          have hs2 : ∀ t', sees ⟨o :: r2, false, w || T.unk n⟩ t' = decide (o = t') := fun t' => by simp [sees]
          have tk2 : ∀ t', o = t' → take ⟨o :: r2, false, w || T.unk n⟩ t' = ⟨r2, false, w || T.unk n⟩ := fun t' e => by unfold take; rw [hs2, decide_eq_true e]; rfl
          have hr2 : r2.length ≤ f := by simp only [List.length_cons] at hl1; omega
          have q' := ih r2 (w || T.unk n) hr2
          simp only [hs2, decide_eq_true_eq]
          by_cases ho : o = tOr
          · have na : ¬ o = tAnd := fun e => by rw [ho] at e; cases e
            simp only [if_pos ho, ho, or_true, if_true, show ¬ tOr = tAnd from by decide, if_false]
            subst ho
            rw [tk2 _ rfl]
            cases hp2 : pT (f + 1) r2 with
            | none => rw [hp2] at q'; exact take_bad q'
            | some x =>
              obtain ⟨T2, r3⟩ := x
              rw [hp2] at q'
              obtain ⟨p1, p2⟩ := q'
              simp only
              rw [p1]
              cases r3 with
              | nil => rfl
              | cons e r4 =>
                by_cases he : e = [41]
                · subst he
                  simp only [if_true]
                  refine ⟨?_, fun hu => ?_⟩
                  · simp only [take, sees, List.head?_cons, decide_true, if_true, List.tail_cons, PT.unk, PT.unkL, refU, Bool.or_false, Bool.false_or, Bool.or_assoc]
                  · simp only [PT.unk, PT.unkL, refU, Bool.or_false, Bool.false_or, Bool.or_eq_false_iff] at hu
                    simp only [PT.con, PT.conL, refN, q2 hu.1, p2 hu.2]
                · simp only [if_neg he, rcQ]
                  simp only [take, sees, List.head?_cons, Option.some.injEq, he, decide_false, Bool.false_eq_true, if_false]
          · simp only [ho, or_false, if_false]
            by_cases ha : o = tAnd
            · simp only [if_pos ha]
              rw [tk2 _ ha]
              cases hp2 : pT (f + 1) r2 with
              | none => rw [hp2] at q'; exact take_bad q'
              | some x =>
                obtain ⟨T2, r3⟩ := x
                rw [hp2] at q'
                obtain ⟨p1, p2⟩ := q'
                simp only
                rw [p1]
                cases r3 with
                | nil => rfl
                | cons e r4 =>
                  by_cases he : e = [41]
                  · subst he
                    simp only [if_true]
                    refine ⟨?_, fun hu => ?_⟩
                    · simp only [take, sees, List.head?_cons, decide_true, if_true, List.tail_cons, PT.unk, PT.unkL, refU, Bool.or_false, Bool.false_or, Bool.or_assoc]
                    · simp only [PT.unk, PT.unkL, refU, Bool.or_false, Bool.false_or, Bool.or_eq_false_iff] at hu
                      simp only [PT.con, PT.conL, refN, q2 hu.1, p2 hu.2]
                  · simp only [if_neg he, rcQ]
                    simp only [take, sees, List.head?_cons, Option.some.injEq, he, decide_false, Bool.false_eq_true, if_false]
            · simp only [if_neg ha, rcQ]
              refine take_bad (rcF_bad f ?_)
              unfold take; rw [hs2, decide_eq_false ha]; rfl
    simp only [if_neg k4]
    by_cases k5 : t = tSome ∨ t = tAll
    · simp only [if_pos k5]
      have R := roleR_P n r w
      have T5 : ∀ (op : Int) (tt : List UInt8), t = tt → (if t = tAll then 7 else 6) = op → rcQ n w (.mk op (roleR n (take ⟨t :: r, false, w⟩ tt)).1 [(rcF n f (roleR n (take ⟨t :: r, false, w⟩ tt)).2).1], (rcF n f (roleR n (take ⟨t :: r, false, w⟩ tt)).2).2)
          (match roleP r with | none => none | some (s, inv, r1) => (pT (f + 1) r1).map fun x => (.mk (if t = tAll then 7 else 6) (some (true, s, inv)) [x.1], x.2)) := by
        intro op tt e1 e2
        rw [tk _ e1, e2]
        cases hR : roleP r with
        | none => rw [hR] at R; exact rcF_bad f R
        | some x =>
          obtain ⟨s, inv, r1⟩ := x
          rw [hR] at R
          simp only at R ⊢
          rw [R.1]
          have hl := (roleP_len hR).1
          have q := ih r1 (w || decide (lateF n true (ofL s) < 0)) (by omega)
          cases hp : pT (f + 1) r1 with
          | none => rw [hp] at q; exact q
          | some x =>
            obtain ⟨T, r2⟩ := x
            rw [hp] at q
            refine ⟨?_, fun hu => ?_⟩
            · simp only [PT.unk, PT.unkL, refU, Bool.or_false, ← Bool.or_assoc]; exact q.1
            · simp only [PT.unk, PT.unkL, refU, Bool.or_false, Bool.or_eq_false_iff, decide_eq_false_iff_not] at hu
              simp only [PT.con, PT.conL, refN, q.2 hu.2, R.2 hu.1]
      by_cases k6 : t = tSome
      · simp only [if_pos k6]
        exact T5 6 tSome k6 (if_neg (fun e => by rw [k6] at e; cases e))
      · have k7 : t = tAll := k5.resolve_left k6
        simp only [if_neg k6]
        rw [if_pos k7]
        have := T5 7 tAll k7 (if_pos k7)
        revert this
        simp only [if_pos k7]
        cases roleP r <;> exact id
    · simp only [if_neg k5]
      have n1 : ¬ t = tSome := fun e => k5 (.inl e)
      have n2 : ¬ t = tAll := fun e => k5 (.inr e)
      simp only [if_neg n1, if_neg n2]
      have hI := indexR_P n.cs t r w
      by_cases hw : wordK t = true
      · rw [if_pos hw] at hI
        simp only [if_pos hw]
        rw [hI]
        refine ⟨?_, fun hu => ?_⟩
        · simp only [PT.unk, PT.unkL, refU, Bool.or_false, lateF, Bool.false_eq_true, if_false]
        · simp only [PT.unk, PT.unkL, refU, Bool.or_false, lateF, Bool.false_eq_true, if_false, decide_eq_false_iff_not] at hu
          simp only [if_neg hu, PT.con, PT.conL, refN, lateN, Bool.false_eq_true, if_false]
      · rw [if_neg hw] at hI
        simp only [if_neg hw]
        exact hI
/-- What the document's Parse answers, by the tree of the tokens. -/
theorem rParT_eq (n : Nms) (ts : List (List UInt8)) : rParT n ts = match pT (ts.length + 1) ts with
    | none => (nilC, 11)
    | some (T, r) => if r.isEmpty = false then (nilC, 11) else if (T.unk n || !conOK n (T.con n)) = true then (nilC, 10) else (T.con n, 0) := by
  have q := rc_pT n ts.length ts false (Nat.le_refl _)
  unfold rParT
  cases hp : pT (ts.length + 1) ts with
  | none =>
    rw [hp] at q
    have q : (rcF n ts.length ⟨ts, false, false⟩).2.bad = true := q
    simp only [q, Bool.true_or, if_true]
  | some x =>
    obtain ⟨T, r⟩ := x
    rw [hp] at q
    obtain ⟨q1, q2⟩ := q
    simp only [q1, Bool.false_or, Bool.not_eq_true']
    by_cases hr : r.isEmpty = false
    · simp only [if_pos hr]
    · simp only [if_neg hr]
      cases hu : T.unk n with
      | true => simp only [Bool.true_or, if_true]
      | false => simp only [q2 hu, Bool.false_or]
end Go.Proofs.YtcajjicdbphkpaaDoor.Pg
