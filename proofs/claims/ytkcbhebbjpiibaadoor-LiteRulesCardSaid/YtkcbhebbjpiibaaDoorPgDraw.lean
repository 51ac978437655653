/-
  Pg, part 7b: a region whose order is open.
-/
import Derived.Test.YtkcbhebbjpiibaaDoorPgStep
import Derived.Deep.LoopGhost
set_option linter.unusedVariables false
set_option linter.unusedSimpArgs false
namespace Go.Proofs.YtkcbhebbjpiibaaDoor.Pg
open Go

def ayielded (ops : Array Oper) (fr : Fr) (j : Nat) : Option Bool :=
  match (ops[j]?).bind (·.dst) with
  | some d => if d < fr.n then match fr.get d with
      | .v (.bool b) => some b
      | _ => none
    else none
  | none => none
def gknown (ops : Array Oper) (fr : Fr) (j : Nat) : Bool :=
  match (ops[j]?).bind (·.dst) with
  | some d => (fr.get d).known
  | none => true
def awanted (ops : Array Oper) (fr : Fr) (o : Oper) : Option Bool :=
  match o.guard with
  | none => some true
  | some (j, want) => if gknown ops fr j then some (ayielded ops fr j == some want) else none
theorem yielded_V {ops : Array Oper} {μ : Mu} {w : World} {fr : Fr} {a : Act} (f : FrRel μ w fr a) {j : Nat} (hk : gknown ops fr j = true) : yielded ops a.tmps j = ayielded ops fr j := by
  unfold gknown at hk
  revert hk
  unfold yielded ayielded
  cases hd : (ops[j]?).bind (·.dst) with
  | none => intro _; rfl
  | some d =>
    intro hk
    simp only at hk
    simp only [Option.bind_some]
    have hs := f.size
    have hv := f.val d
    rw [Array.getD_eq_getD_getElem?] at hv
    by_cases hlt : d < fr.n
    · rw [if_pos hlt]
      have hlt' : d < a.tmps.size := by rw [hs]; exact hlt
      rw [Array.getElem?_eq_getElem hlt'] at hv ⊢
      simp only [Option.getD_some] at hv
      revert hv
      generalize a.tmps[d] = u
      intro hv
      cases hx : fr.get d with
      | any => rw [hx] at hk; simp [AV.known] at hk
      | v x =>
        rw [hx] at hv; simp only [V] at hv; obtain ⟨_, rfl⟩ := hv
        cases u <;> rfl
      | sl tok n cs => rw [hx] at hv; obtain ⟨A, c, rfl, _⟩ := sl_open' hv; rfl
      | ptr o off => rw [hx] at hv; simp only [V] at hv; obtain ⟨_, _, rfl⟩ := hv; rfl
      | arr o off n => rw [hx] at hv; simp only [V] at hv; obtain ⟨_, _, _, rfl, _⟩ := hv; rfl
      | cptr cs => rw [hx] at hv; simp only [V] at hv; obtain ⟨_, _, rfl, _⟩ := hv; rfl
      | mp o => rw [hx] at hv; simp only [V] at hv; obtain ⟨_, _, rfl⟩ := hv; rfl
      | fn g p q => rw [hx] at hv; simp only [V] at hv; obtain ⟨_, _, rfl, _⟩ := hv; rfl
      | ifc t y => rw [hx] at hv; simp only [V] at hv; obtain ⟨_, rfl, _⟩ := hv; rfl
      | agg cs => rw [hx] at hv; simp only [V] at hv; obtain ⟨_, rfl, _⟩ := hv; rfl
      | tup cs => rw [hx] at hv; simp only [V] at hv; obtain ⟨_, rfl, _⟩ := hv; rfl
    · rw [if_neg hlt]
      rw [Array.getElem?_eq_none (by rw [hs]; exact Nat.le_of_not_lt hlt)]
theorem wanted_V {ops : Array Oper} {μ : Mu} {w : World} {fr : Fr} {a : Act} (f : FrRel μ w fr a) {o : Oper} {b : Bool} (hw : awanted ops fr o = some b) : Region.wanted o (yielded ops a.tmps) = b := by
  unfold awanted at hw
  unfold Region.wanted
  split at hw
  · rename_i hg; rw [hg]; cases hw; rfl
  · rename_i j want hg
    rw [hg]
    split at hw
    · rename_i hk
      cases hw
      simp only [yielded_V f hk]
    · cases hw

def aops (P : Program) (G : Nat → Option (List AV)) (call : FuncId → List AV → AH → Option (AOut × AH)) (ops : Array Oper) : List Nat → Fr → AH → Option (Option AV × Fr × AH)
  | [], fr, h => some (none, fr, h)
  | i :: l, fr, h => match ops[i]? with
    | none => aops P G call ops l fr h
    | some o => match awanted ops fr o with
      | some true => match astep P G call fr h o with
        | some (.ret x, h) => match fr.put o.dst x with
          | some fr => aops P G call ops l fr h
          | none => none
        | some (.pan x, h) => some (some x, fr, h)
        | none => none
      | some false => match fr.put o.dst (.v undef) with
        | some fr => aops P G call ops l fr h
        | none => none
      | none => none

/-! ### Open orders: what is asked of the region -/
def ancMask (acc : List Nat) (o : Oper) : Nat := o.after.toList.foldl (fun m e => if Region.binds .any e then m ||| 2 ^ e.on ||| acc.getD e.on 0 else m) 0
/-- What must come before each operation. -/
def ancs (ops : Array Oper) : Nat → List Nat
  | 0 => []
  | n + 1 => ancs ops n ++ [ancMask (ancs ops n) ((ops[n]?).getD default)]
def anc (ops : Array Oper) (i : Nat) : Nat := (ancs ops ops.size).getD i 0
def dstOf (ops : Array Oper) (i : Nat) : Option Tmp := (ops[i]?).bind (·.dst)
def kindAt (ops : Array Oper) (i : Nat) : Kind := ((ops[i]?).map kindOf).getD .p
def pairStatic (ops : Array Oper) (l : List Nat) (i j : Nat) : Bool :=
  let ai := l.getD i 0
  let aj := l.getD j 0
  (i == j || dstOf ops i == none || dstOf ops i != dstOf ops j) &&
  (match ops[i]?, dstOf ops j with
    | some o, some d => !(o.looksAt ops).contains d || ai.testBit j || aj.testBit i
    | _, _ => true) &&
  (!(kindAt ops i == .e && (kindAt ops j == .e || kindAt ops j == .a) && decide (i < j)) || aj.testBit i) &&
  decide (ai < 2 ^ i)
def staticOk (ops : Array Oper) : Bool :=
  let l := ancs ops ops.size
  (List.range ops.size).all fun i => (List.range ops.size).all fun j => pairStatic ops l i j
structure Ent where
  ex : Bool
  x : AV
  fb : Fr
  hb : AH
  ha : AH
def atrace (P : Program) (G : Nat → Option (List AV)) (call : FuncId → List AV → AH → Option (AOut × AH)) (ops : Array Oper) : Nat → Nat → Fr → AH → Option (List Ent × Fr × AH)
  | 0, _, fr, h => some ([], fr, h)
  | m + 1, i, fr, h => match ops[i]? with
    | none => none
    | some o => match (match awanted ops fr o with
        | some true => match astep P G call fr h o with
          | some (.ret x, h') => some (true, x, h')
          | _ => none
        | some false => some (false, .v undef, h)
        | none => none : Option (Bool × AV × AH)) with
      | none => none
      | some (ex, x, h') => match fr.put o.dst x with
        | none => none
        | some fr' => match atrace P G call ops m (i + 1) fr' h' with
          | none => none
          | some (es, fr2, h2) => some (⟨ex, x, fr, h, h'⟩ :: es, fr2, h2)
def ltouch (G : Nat → Option (List AV)) (fr : Fr) (o : Oper) : Option Nat :=
  match o.op with
  | .load _ a => match aev G fr a with
    | some (.ptr o _) => some o
    | _ => none
  | .lookup _ m _ _ => match aev G fr m with
    | some (.mp o) => some o
    | _ => none
  | .call c => match c.args.toList with
    | [x] => match aev G fr x with
      | some (.mp o) => some o
      | _ => none
    | _ => none
  | _ => none
mutual
def AV.beq : AV → AV → Bool
  | .v x, .v y => vbeq x y
  | .ptr a b, .ptr c d => a == c && b == d
  | .arr a b e, .arr c d f => a == c && b == d && e == f
  | .cptr a, .cptr b => AV.beqs a b
  | .sl .nil n a, .sl .nil m b => n == m && AV.beqs a b
  | .sl .none n a, .sl .none m b => n == m && AV.beqs a b
  | .sl (.own t k s) n a, .sl (.own t' k' s') m b => t == t' && k == k' && s == s' && n == m && AV.beqs a b
  | .mp a, .mp b => a == b
  | .fn f a b, .fn g c d => decide (f = g) && AV.beqs a c && AV.beqs b d
  | .ifc t x, .ifc u y => t == u && AV.beq x y
  | .agg a, .agg b => AV.beqs a b
  | .tup a, .tup b => AV.beqs a b
  | .any, .any => true
  | _, _ => false
def AV.beqs : List AV → List AV → Bool
  | [], [] => true
  | x :: xs, y :: ys => AV.beq x y && AV.beqs xs ys
  | _, _ => false
def vbeq : Value → Value → Bool
  | .bool a, .bool b => a == b
  | .int k a, .int l b => decide (k = l) && decide (a = b)
  | .string a, .string b => decide (a = b)
  | .pointer none, .pointer none => true
  | .nilFunc, .nilFunc => true
  | .nilIface, .nilIface => true
  | .map none, .map none => true
  | .tuple a, .tuple b => a.isEmpty && b.isEmpty
  | _, _ => false
end
theorem vbeq_eq {x y : Value} (h : vbeq x y = true) : x = y := by
  unfold vbeq at h
  split at h <;> simp_all
mutual
theorem AV.beq_eq : ∀ (x y : AV), AV.beq x y = true → x = y
  | .v x, y, h => by cases y <;> simp [AV.beq] at h; rw [vbeq_eq h]
  | .ptr a b, y, h => by cases y <;> simp [AV.beq] at h; rw [h.1, h.2]
  | .arr a b e, y, h => by cases y <;> simp [AV.beq] at h; rw [h.1.1, h.1.2, h.2]
  | .cptr a, y, h => by cases y <;> simp [AV.beq] at h; rw [AV.beqs_eq _ _ h]
  | .sl .nil n a, y, h => by
    cases y <;> try (simp [AV.beq] at h; done)
    rename_i t m b
    cases t <;> simp [AV.beq] at h; rw [h.1, AV.beqs_eq _ _ h.2]
  | .sl .none n a, y, h => by
    cases y <;> try (simp [AV.beq] at h; done)
    rename_i t m b
    cases t <;> simp [AV.beq] at h; rw [h.1, AV.beqs_eq _ _ h.2]
  | .sl (.own t k s) n a, y, h => by
    cases y <;> try (simp [AV.beq] at h; done)
    rename_i t m b
    cases t <;> simp [AV.beq] at h; rw [h.1.1.1.1, h.1.1.1.2, h.1.1.2, h.1.2, AV.beqs_eq _ _ h.2]
  | .mp a, y, h => by cases y <;> simp [AV.beq] at h; rw [h]
  | .fn f a b, y, h => by cases y <;> simp [AV.beq] at h; rw [h.1.1, AV.beqs_eq _ _ h.1.2, AV.beqs_eq _ _ h.2]
  | .ifc t x, y, h => by cases y <;> simp [AV.beq] at h; rw [h.1, AV.beq_eq _ _ h.2]
  | .agg a, y, h => by cases y <;> simp [AV.beq] at h; rw [AV.beqs_eq _ _ h]
  | .tup a, y, h => by cases y <;> simp [AV.beq] at h; rw [AV.beqs_eq _ _ h]
  | .any, y, h => by cases y <;> simp [AV.beq] at h; rfl
theorem AV.beqs_eq : ∀ (x y : List AV), AV.beqs x y = true → x = y
  | [], y, h => by cases y <;> simp [AV.beqs] at h; rfl
  | x :: xs, y, h => by cases y <;> simp [AV.beqs] at h; rw [AV.beq_eq _ _ h.1, AV.beqs_eq _ _ h.2]
end
def mbeq : List (Value × AV) → List (Value × AV) → Bool
  | [], [] => true
  | (k, x) :: xs, (l, y) :: ys => vbeq k l && AV.beq x y && mbeq xs ys
  | _, _ => false
theorem mbeq_eq : ∀ (x y : List (Value × AV)), mbeq x y = true → x = y
  | [], y, h => by cases y <;> simp [mbeq] at h; rfl
  | (k, x) :: xs, y, h => by
    cases y with
    | nil => simp [mbeq] at h
    | cons p ys =>
      obtain ⟨l, y⟩ := p
      simp [mbeq] at h
      rw [vbeq_eq h.1.1, AV.beq_eq _ _ h.1.2, mbeq_eq _ _ h.2]
def obeq : Option AObj → Option AObj → Bool
  | none, none => true
  | some (.cells e a), some (.cells f b) => e == f && AV.beqs a b
  | some (.map a), some (.map b) => mbeq a b
  | some .dead, some .dead => true
  | _, _ => false
theorem obeq_eq {x y : Option AObj} (h : obeq x y = true) : x = y := by
  unfold obeq at h
  split at h
  · rfl
  · simp at h; rw [h.1, AV.beqs_eq _ _ h.2]
  · rw [mbeq_eq _ _ h]
  · rfl
  · cases h
def pairDyn (G : Nat → Option (List AV)) (ops : Array Oper) (l : List Nat) (es : List Ent) (i j : Nat) : Bool :=
  match ops[i]?, es[i]?, es[j]? with
  | some o, some ei, some ej =>
    if kindAt ops j == .e && ei.ex && ej.ex && !(l.getD i 0).testBit j && !(l.getD j 0).testBit i then
      (match kindOf o with
        | .l => match ltouch G ei.fb o with
          | some ob => obeq (ej.hb.get ob) (ej.ha.get ob)
          | none => true
        | .a => (decide (ei.ha.next = ei.hb.next) || obeq (ej.hb.get ei.hb.next) (ej.ha.get ei.hb.next)) && (decide (ei.ha.tnext = ei.hb.tnext) || ej.hb.tok ei.hb.tnext == ej.ha.tok ei.hb.tnext)
        | _ => true)
    else true
  | _, _, _ => true
def soloDyn (G : Nat → Option (List AV)) (ops : Array Oper) (es : List Ent) (i : Nat) : Bool :=
  match ops[i]?, es[i]? with
  | some o, some ei => decide (ei.hb.next ≤ ei.ha.next) && decide (ei.hb.tnext ≤ ei.ha.tnext) && (match kindOf o with
    | .l => match ltouch G ei.fb o with
      | some ob => decide (ob < ei.hb.next)
      | none => true
    | _ => true)
  | _, _ => true
def hasE (ops : Array Oper) : Bool := (List.range ops.size).any fun j => kindAt ops j == .e
def dynOk (G : Nat → Option (List AV)) (ops : Array Oper) (es : List Ent) : Bool :=
  let l := ancs ops ops.size
  (List.range ops.size).all fun i => soloDyn G ops es i && (List.range ops.size).all fun j => pairDyn G ops l es i j
def adraw (P : Program) (G : Nat → Option (List AV)) (call : FuncId → List AV → AH → Option (AOut × AH)) (ops : Array Oper) (fr : Fr) (h : AH) : Option (Fr × AH) :=
  match atrace P G call ops ops.size 0 fr h with
  | some (es, fr', h') => if staticOk ops && dynOk G ops es then some (fr', h') else none
  | none => none

/-! ### What the checks say -/
theorem mask_bit (acc : List Nat) : ∀ (l : List Edge) (m j : Nat), (l.foldl (fun m e => if Region.binds .any e then m ||| 2 ^ e.on ||| acc.getD e.on 0 else m) m).testBit j = true →
    m.testBit j = true ∨ ∃ e ∈ l, Region.binds .any e = true ∧ (j = e.on ∨ (acc.getD e.on 0).testBit j = true)
  | [], m, j, h => .inl h
  | e :: l, m, j, h => by
    simp only [List.foldl_cons] at h
    rcases mask_bit acc l _ j h with h | ⟨e', he, hb, hj⟩
    · by_cases hb : Region.binds .any e = true
      · rw [if_pos hb] at h
        simp only [Nat.testBit_or, Nat.testBit_two_pow, Bool.or_eq_true, decide_eq_true_eq] at h
        rcases h with (h | h) | h
        · exact .inl h
        · exact .inr ⟨e, by simp, hb, .inl h.symm⟩
        · exact .inr ⟨e, by simp, hb, .inr h⟩
      · rw [if_neg hb] at h; exact .inl h
    · exact .inr ⟨e', by simp [he], hb, hj⟩
theorem ancs_length (ops : Array Oper) : ∀ n, (ancs ops n).length = n
  | 0 => rfl
  | n + 1 => by simp [ancs, ancs_length ops n]
theorem ancs_stable (ops : Array Oper) {i : Nat} : ∀ {n m : Nat}, i < n → n ≤ m → (ancs ops m).getD i 0 = (ancs ops n).getD i 0
  | n, 0, h, hm => by omega
  | n, m + 1, h, hm => by
    by_cases hnm : n = m + 1
    · rw [hnm]
    · rw [← ancs_stable ops h (show n ≤ m by omega)]
      simp only [ancs, List.getD_eq_getElem?_getD]
      rw [List.getElem?_append_left (by rw [ancs_length]; omega)]
/-- What is closed under the edges holds of whatever must come before. -/
theorem anc_closed {ops : Array Oper} {S : Nat → Prop} (hS : ∀ i o, S i → ops[i]? = some o → ∀ e ∈ o.after.toList, Region.binds .any e = true → S e.on) :
    ∀ n i, i < n → n ≤ ops.size → S i → ∀ j, ((ancs ops n).getD i 0).testBit j = true → S j
  | 0, i, hi, _, _, _, _ => by omega
  | n + 1, i, hi, hn, hs, j, hj => by
    by_cases h : i < n
    · rw [ancs_stable ops h (Nat.le_succ n)] at hj
      exact anc_closed hS n i h (by omega) hs j hj
    · have : i = n := by omega
      subst this
      simp only [ancs, List.getD_eq_getElem?_getD] at hj
      rw [List.getElem?_append_right (by rw [ancs_length]; omega), ancs_length, Nat.sub_self] at hj
      simp only [List.getElem?_cons_zero, Option.getD_some] at hj
      have ho : ops[i]? = some ops[i] := Array.getElem?_eq_getElem (by omega)
      rw [ho] at hj
      simp only [Option.getD_some, ancMask] at hj
      rcases mask_bit _ _ _ _ hj with h0 | ⟨e, he, hb, hj⟩
      · simp at h0
      · have hse := hS i _ hs ho e he hb
        rcases hj with rfl | hj
        · exact hse
        · by_cases hlt : e.on < i
          · exact anc_closed hS i e.on hlt (by omega) hse j hj
          · rw [List.getD_eq_getElem?_getD, List.getElem?_eq_none (by rw [ancs_length]; omega)] at hj; simp at hj
/-- The same for an operation whose edges are met. -/
theorem anc_closed' {ops : Array Oper} {S : Nat → Prop} (hS : ∀ i o, S i → ops[i]? = some o → ∀ e ∈ o.after.toList, Region.binds .any e = true → S e.on) {i : Nat} {o : Oper} (ho : ops[i]? = some o)
    (hi : ∀ e ∈ o.after.toList, Region.binds .any e = true → S e.on) {j : Nat} (hj : (anc ops i).testBit j = true) : S j := by
  have hlt : i < ops.size := (Array.getElem?_eq_some_iff.1 ho).1
  unfold anc at hj
  rw [ancs_stable ops (Nat.lt_succ_self i) (by omega)] at hj
  simp only [ancs, List.getD_eq_getElem?_getD] at hj
  rw [List.getElem?_append_right (by rw [ancs_length]; omega), ancs_length, Nat.sub_self] at hj
  simp only [List.getElem?_cons_zero, Option.getD_some, ho, ancMask] at hj
  rcases mask_bit _ _ _ _ hj with h0 | ⟨e, he, hb, hj⟩
  · simp at h0
  · have hse := hi e he hb
    rcases hj with rfl | hj
    · exact hse
    · by_cases hl : e.on < i
      · exact anc_closed hS i e.on hl (by omega) hse j hj
      · rw [List.getD_eq_getElem?_getD, List.getElem?_eq_none (by rw [ancs_length]; omega)] at hj; simp at hj

structure Static (ops : Array Oper) : Prop where
  dst : ∀ i j d, i < ops.size → j < ops.size → dstOf ops i = some d → dstOf ops j = some d → i = j
  looks : ∀ i j o d, j < ops.size → ops[i]? = some o → dstOf ops j = some d → d ∈ o.looksAt ops → (anc ops i).testBit j = true ∨ (anc ops j).testBit i = true
  chain : ∀ i j, i < j → j < ops.size → kindAt ops i = .e → kindAt ops j = .e ∨ kindAt ops j = .a → (anc ops j).testBit i = true
  below : ∀ i j, i < ops.size → (anc ops i).testBit j = true → j < i
theorem static_of {ops : Array Oper} (h : staticOk ops = true) : Static ops := by
  have H : ∀ i j, i < ops.size → j < ops.size → pairStatic ops (ancs ops ops.size) i j = true := fun i j hi hj => by
    unfold staticOk at h
    simp only [List.all_eq_true, List.mem_range] at h
    exact h i hi j hj
  simp only [pairStatic, Bool.and_eq_true] at H
  refine ⟨fun i j d hi hj h1 h2 => ?_, fun i j o d hj ho h1 h2 => ?_, fun i j hij hj h1 h2 => ?_, fun i j hi hb => ?_⟩
  · have := (H i j hi hj).1.1.1
    rw [h1, h2] at this
    simpa using this
  · have hi : i < ops.size := (Array.getElem?_eq_some_iff.1 ho).1
    have := (H i j hi hj).1.1.2
    rw [ho, h1] at this
    have hc : (o.looksAt ops).contains d = true := by simpa using h2
    simp only [hc, Bool.not_true, Bool.false_or, Bool.or_eq_true] at this
    exact this
  · have := (H i j (by omega) hj).1.2
    rw [h1] at this
    rcases h2 with h2 | h2 <;> (rw [h2] at this; simp [hij] at this; exact this)
  · have := (H i i hi hi).2
    have hlt : anc ops i < 2 ^ i := of_decide_eq_true this
    rcases Nat.lt_or_ge j i with q | q
    · exact q
    · have : anc ops i < 2 ^ j := Nat.lt_of_lt_of_le hlt (Nat.pow_le_pow_right (by omega) q)
      rw [Nat.testBit_lt_two_pow this] at hb
      cases hb

/-- A run in the text's order, step by step. -/
structure Tr (P : Program) (G : Nat → Option (List AV)) (call : FuncId → List AV → AH → Option (AOut × AH)) (ops : Array Oper) (s m : Nat) (F : Nat → Fr) (H : Nat → AH) (X : Nat → AV) (EX : Nat → Bool) (es : List Ent) : Prop where
  ent : ∀ i, i < m → es[i]? = some ⟨EX i, X i, F i, H i, H (i + 1)⟩
  wants : ∀ i, i < m → ∃ o, ops[s + i]? = some o ∧ awanted ops (F i) o = some (EX i)
  step : ∀ i o, i < m → ops[s + i]? = some o → EX i = true → astep P G call (F i) (H i) o = some (.ret (X i), H (i + 1))
  skip : ∀ i, i < m → EX i = false → X i = .v undef ∧ H (i + 1) = H i
  put : ∀ i o, i < m → ops[s + i]? = some o → (F i).put o.dst (X i) = some (F (i + 1))
theorem trace_tr {P : Program} {G : Nat → Option (List AV)} {call : FuncId → List AV → AH → Option (AOut × AH)} {ops : Array Oper} : ∀ (m s : Nat) {fr fr' : Fr} {h h' : AH} {es : List Ent}, atrace P G call ops m s fr h = some (es, fr', h') →
    ∃ F H X EX, Tr P G call ops s m F H X EX es ∧ F 0 = fr ∧ H 0 = h ∧ F m = fr' ∧ H m = h'
  | 0, s, fr, fr', h, h', es, e => by
    simp only [atrace, Option.some.injEq, Prod.mk.injEq] at e
    obtain ⟨rfl, rfl, rfl⟩ := e
    exact ⟨fun _ => fr, fun _ => h, fun _ => .v undef, fun _ => false, ⟨fun i hi => by omega, fun i hi => by omega, fun i o hi => by omega, fun i hi => by omega, fun i o hi => by omega⟩, rfl, rfl, rfl, rfl⟩
  | m + 1, s, fr, fr', h, h', es, e => by
    simp only [atrace] at e
    cases ho : ops[s]? with
    | none => rw [ho] at e; simp at e
    | some o =>
      rw [ho] at e
      simp only at e
      split at e
      · cases e
      · rename_i ex x h1 hr
        split at e
        · cases e
        · rename_i fr1 hp
          split at e
          · cases e
          · rename_i es' fr2 h2 ht
            simp only [Option.some.injEq, Prod.mk.injEq] at e
            obtain ⟨rfl, rfl, rfl⟩ := e
            obtain ⟨F, H, X, EX, tr, hF, hH, hFm, hHm⟩ := trace_tr m (s + 1) ht
            refine ⟨fun i => if i = 0 then fr else F (i - 1), fun i => if i = 0 then h else H (i - 1), fun i => if i = 0 then x else X (i - 1), fun i => if i = 0 then ex else EX (i - 1), ?_, rfl, rfl, by simp [hFm], by simp [hHm]⟩
            have hex : awanted ops fr o = some ex ∧ (ex = true → astep P G call fr h o = some (.ret x, h1)) ∧ (ex = false → x = .v undef ∧ h1 = h) := by
              split at hr
              · rename_i hw
                split at hr
                · rename_i y h3 hs
                  simp only [Option.some.injEq, Prod.mk.injEq] at hr
                  obtain ⟨rfl, rfl, rfl⟩ := hr
                  exact ⟨hw, fun _ => hs, fun q => (by cases q)⟩
                · cases hr
              · rename_i hw
                simp only [Option.some.injEq, Prod.mk.injEq] at hr
                obtain ⟨rfl, rfl, rfl⟩ := hr
                exact ⟨hw, fun q => (by cases q), fun _ => ⟨rfl, rfl⟩⟩
              · cases hr
            refine ⟨fun i hi => ?_, fun i hi => ?_, fun i o' hi ho' hq => ?_, fun i hi hq => ?_, fun i o' hi ho' => ?_⟩
            all_goals rcases Nat.eq_zero_or_pos i with rfl | hpos
            · simp [hH]
            · obtain ⟨j, rfl⟩ : ∃ j, i = j + 1 := ⟨i - 1, by omega⟩
              have := tr.ent j (by omega)
              simpa using this
            · exact ⟨o, by simpa using ho, by simpa using hex.1⟩
            · obtain ⟨j, rfl⟩ : ∃ j, i = j + 1 := ⟨i - 1, by omega⟩
              obtain ⟨o2, h3, h4⟩ := tr.wants j (by omega)
              exact ⟨o2, by rw [← h3]; congr 1; omega, by simpa using h4⟩
            · rw [Nat.add_zero, ho] at ho'; cases ho'
              have := hex.2.1 (by simpa using hq)
              simpa [hH] using this
            · obtain ⟨j, rfl⟩ : ∃ j, i = j + 1 := ⟨i - 1, by omega⟩
              have := tr.step j o' (by omega) (by rw [← ho']; congr 1; omega) (by simpa using hq)
              simpa using this
            · have := hex.2.2 (by simpa using hq)
              simpa [hH] using this
            · obtain ⟨j, rfl⟩ : ∃ j, i = j + 1 := ⟨i - 1, by omega⟩
              have := tr.skip j (by omega) (by simpa using hq)
              simpa using this
            · rw [Nat.add_zero, ho] at ho'; cases ho'
              simpa [hF] using hp
            · obtain ⟨j, rfl⟩ : ∃ j, i = j + 1 := ⟨i - 1, by omega⟩
              have := tr.put j o' (by omega) (by rw [← ho']; congr 1; omega)
              simpa using this
end Go.Proofs.YtkcbhebbjpiibaaDoor.Pg
