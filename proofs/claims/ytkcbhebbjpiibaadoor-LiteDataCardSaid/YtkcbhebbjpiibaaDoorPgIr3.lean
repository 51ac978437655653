/-
  Pg, part 12: statements and functions in the plainer form.
-/
import Derived.Test.YtkcbhebbjpiibaaDoorPgIr
import Derived.Scope
set_option linter.unusedVariables false
set_option linter.unusedSimpArgs false
set_option linter.unusedSectionVars false
namespace Go.Proofs.YtkcbhebbjpiibaaDoor.Pg
open Go

structure IOp where
  d : Option Nat
  g : Option (Nat × Bool)
  tx : Option X
  i : I
abbrev oA (d : Nat) (i : I) : IOp := ⟨some d, none, none, i⟩
abbrev oL (d s : Nat) (row : Option Nat) : IOp := ⟨some d, none, some (.r s), .load row (.r s)⟩
abbrev oN (i : I) : IOp := ⟨none, none, none, i⟩
abbrev oT (d t : Nat) (i : I) : IOp := ⟨some d, none, some (.r t), i⟩
abbrev oG (d g : Nat) (b : Bool) (i : I) : IOp := ⟨some d, some (g, b), none, i⟩
abbrev kM (n : Nat) : I := .mov (.r n)
abbrev kI (n : Int) : X := .k (.v (.int .i64 n))
abbrev kB (b : Bool) : X := .k (.v (.bool b))
inductive IR where
  | bad
  | skip
  | exit (id : Nat)
  | ret
  | reg (l : List IOp)
  | draw (l : List IOp) (pairs : List (Nat × Nat))
  | seq (a b : IR)
  | cond (x : X) (a b : IR)
  | block (id : Nat) (a : IR)
  | loop (a : IR)

def outK (K1 K2 : AV → AH → Prop) : AOut → AH → Prop
  | .ret x, h => K1 x h
  | .pan x, h => K2 x h
@[simp] theorem outK_ret (K1 K2 : AV → AH → Prop) (x : AV) (h : AH) : outK K1 K2 (.ret x) h = K1 x h := rfl
@[simp] theorem outK_pan (K1 K2 : AV → AH → Prop) (x : AV) (h : AH) : outK K1 K2 (.pan x) h = K2 x h := rfl
def gq (fr : Fr) (g : Option (Nat × Bool)) (A B : Prop) : Prop :=
  match g with
  | none => A
  | some (t, want) => t < fr.n ∧ match fr.get t with
    | .v (.bool c) => if want then wb c A B else wb c B A
    | .v (.tuple _) => B
    | _ => False
def wput (fr : Fr) (d : Option Nat) (x : AV) (K : Fr → Prop) : Prop :=
  match d with
  | none => K fr
  | some d => d < fr.n ∧ K (fr.set d x)
def wops (P : Program) (G : Nat → Option (List AV)) : List IOp → Fr → AH → (Option AV → Fr → AH → Prop) → Prop
  | [], fr, h, Q => Q none fr h
  | o :: r, fr, h, Q => gq fr o.g (istep P G fr h o.i (outK (fun x h' => wput fr o.d x fun fr' => wops P G r fr' h' Q) fun x h' => Q (some x) fr h')) (wput fr o.d (.v undef) fun fr' => wops P G r fr' h Q)
structure DEnt where
  ex : Bool
  touch : Option Nat
  hb : AH
  ha : AH
def idstep (P : Program) (G : Nat → Option (List AV)) (fr : Fr) (h : AH) (i : I) (K : AV → AH → Prop) : Prop :=
  match i with
  | .call f xs => wv (X.evs G fr xs) fun xs => ∃ x h', CALL P G f xs h (fun o k => o = .ret x ∧ k = h') ∧ K x h'
  | .callv f xs => wv (f.ev G fr) fun f => wv (X.evs G fr xs) fun xs => match f with
    | .fn (.func g) first cap => hasBody P g = true ∧ ∃ x h', CALL P G g (first ++ xs ++ cap) h (fun o k => o = .ret x ∧ k = h') ∧ K x h'
    | _ => False
  | i => istep P G fr h i (outK K fun _ _ => False)
def touchX (G : Nat → Option (List AV)) (fr : Fr) (x : Option X) : Option Nat :=
  match x.bind (X.ev G fr) with
  | some (.ptr o _) | some (.mp o) => some o
  | _ => none
def wdraw (P : Program) (G : Nat → Option (List AV)) : List IOp → Fr → AH → List DEnt → (Fr → AH → List DEnt → Prop) → Prop
  | [], fr, h, es, Q => Q fr h es
  | o :: r, fr, h, es, Q => gq fr o.g (idstep P G fr h o.i fun x h' => wput fr o.d x fun fr' => wdraw P G r fr' h' (es ++ [⟨true, touchX G fr o.tx, h, h'⟩]) Q)
      (wput fr o.d (.v undef) fun fr' => wdraw P G r fr' h (es ++ [⟨false, touchX G fr o.tx, h, h⟩]) Q)
def pairOk (es : List DEnt) (p : Nat × Nat) : Prop :=
  match es[p.1]?, es[p.2]? with
  | some ei, some ej => ei.ex = true → ej.ex = true → (∀ ob, ei.touch = some ob → ej.hb.get ob = ej.ha.get ob) ∧
      (ei.ha.next ≠ ei.hb.next → ej.hb.get ei.hb.next = ej.ha.get ei.hb.next) ∧ (ei.ha.tnext ≠ ei.hb.tnext → ej.hb.tok ei.hb.tnext = ej.ha.tok ei.hb.tnext)
  | _, _ => True
def drawOk (pairs : List (Nat × Nat)) (es : List DEnt) : Prop :=
  (∀ e ∈ es, e.hb.next ≤ e.ha.next ∧ e.hb.tnext ≤ e.ha.tnext ∧ ∀ ob, e.touch = some ob → ob < e.hb.next) ∧ ∀ p ∈ pairs, pairOk es p
def regQ (Q : AX → Fr → AH → Prop) : Option AV → Fr → AH → Prop
  | none, fr, h => Q .norm fr h
  | some x, fr, h => Q (.pan x) fr h
/-- What a statement does. -/
def iwp (P : Program) (G : Nat → Option (List AV)) : IR → Fr → AH → (AX → Fr → AH → Prop) → Prop
  | .bad, _, _, _ => False
  | .skip, fr, h, Q => Q .norm fr h
  | .exit id, fr, h, Q => Q (.exit id) fr h
  | .ret, fr, h, Q => Q .ret fr h
  | .reg l, fr, h, Q => wops P G l fr h (regQ Q)
  | .draw l pairs, fr, h, Q => wdraw P G l fr h [] fun fr' h' es => drawOk pairs es ∧ Q .norm fr' h'
  | .seq a b, fr, h, Q => iwp P G a fr h (thenQ (fun fr h => iwp P G b fr h Q) Q)
  | .cond x a b, fr, h, Q => wv (x.ev G fr) fun c => wv (ibool c) fun t => wb t (iwp P G a fr h Q) (iwp P G b fr h Q)
  | .block id a, fr, h, Q => iwp P G a fr h (blockQ id Q)
  | .loop a, fr, h, Q => ∃ I : Nat → Fr → AH → Prop, (∃ n fr0 h0, Drop h fr h fr0 h0 ∧ I n fr0 h0) ∧ ∀ n fr1 h1, I n fr1 h1 → iwp P G a fr1 h1 (loopQ I Q n h1)

/-! ### From the code -/
def cguard (ops : Array Oper) (o : Oper) : Option (Option (Nat × Bool)) :=
  match o.guard with
  | none => some none
  | some (j, b) => match (ops[j]?).bind (·.dst) with
    | some d => some (some (d, b))
    | none => none
def ctouch (o : Oper) : Option X :=
  match o.op with
  | .load _ a => X.of a
  | .lookup _ m _ _ => X.of m
  | .call c => match c.args.toList with
    | [x] => X.of x
    | _ => none
  | _ => none
def ciop (P : Program) (ops : Array Oper) (o : Oper) : Option IOp := (cguard ops o).map fun g => { d := o.dst, g := g, tx := ctouch o, i := cop' P o }
def ciops (P : Program) (ops : Array Oper) : List Oper → Option (List IOp)
  | [] => some []
  | o :: os => match ciop P ops o, ciops P ops os with
    | some x, some xs => some (x :: xs)
    | _, _ => none
def cpairs (ops : Array Oper) : List (Nat × Nat) :=
  let l := ancs ops ops.size
  (List.range ops.size).flatMap fun i => (List.range ops.size).filterMap fun j =>
    if (kindAt ops i == .l || kindAt ops i == .a) && kindAt ops j == .e && !(l.getD i 0).testBit j && !(l.getD j 0).testBit i then some (i, j) else none
def cdraw (P : Program) : Option (Array Oper) → IR
  | none => .bad
  | some ops => match ciops P ops ops.toList with
    | some l => if staticOk ops then .draw l (cpairs ops) else .bad
    | none => .bad
def ccode (P : Program) : Code → IR
  | .skip => .skip
  | .label _ => .skip
  | .exit id => .exit id
  | .ret => .ret
  | .region _ ops draw => match ciops P ops ops.toList with
    | some l => if draw then (if staticOk ops then .draw l (cpairs ops) else cdraw P (reorder ops)) else .reg l
    | none => .bad
  | .seq a b => .seq (ccode P a) (ccode P b)
  | .cond c a b => match X.of c with
    | some x => .cond x (ccode P a) (ccode P b)
    | none => .bad
  | .block id a => .block id (ccode P a)
  | .loop a => .loop (ccode P a)
  | .scope a => ccode P a
  | _ => .bad

section
variable {P : Program} {B0 : Nat} {G : Nat → Option (List AV)}

theorem call_wp {μ : Mu} {h : AH} {w : World} {fr : Fr} {a : Act} {o : Oper} {c : Call} {g : Operand} {g' : FuncId} {first cap xs : List AV} {Q' : AOut → AH → Prop} (r : R B0 G μ h w) (f : FrRel μ w fr a)
    (ho : o.op = .call c) (hcal : c.callee = .value g) (hg : aev G fr g = some (.fn (.func g') first cap)) (has : aevs G fr c.args.toList = some xs) (hb : hasBody P g' = true) (hc : CALL P G g' (first ++ xs ++ cap) h Q')
    {K : Act → World → Prop} {Q : Exit → Act → World → Prop}
    (hret : ∀ x h' μ' w' u, Q' (.ret x) h' → Step B0 G μ h w μ' h' w' → V μ' w' x u → K (a.put o.dst u) w')
    (hpan : ∀ x h' μ' w' u, Q' (.pan x) h' → Step B0 G μ h w μ' h' w' → V μ' w' x u → Q (.panic [{ v := u, recovered := false }]) a w') : o.wp P a w K Q := by
  have f' := f.ops r.glob o
  have hgv := f' g (by rw [ho]; simp only [Op.operands, Call.operands, hcal, Array.mem_append]; exact .inl (by simp)) _ hg
  simp only [V] at hgv
  obtain ⟨A, B, hge, hA, hB⟩ := hgv
  have hxs := aevs_V (fun z hz => f' z (by rw [ho]; simp only [Op.operands, Call.operands, Array.mem_append]; exact .inr (by simpa using hz))) has
  have hcall := hc B0 μ w (A.toList ++ c.args.toList.map a.eval ++ B.toList) r ((hA.append hxs).append hB)
  have harr : (A.toList ++ c.args.toList.map a.eval ++ B.toList).toArray = A ++ c.args.map a.eval ++ B := by
    apply Array.ext'; simp
  rw [harr] at hcall
  unfold hasBody at hb
  cases hfn : P.funcs[g']? with
  | none => rw [hfn] at hb; simp at hb
  | some fn =>
    rw [hfn] at hb
    simp only [Bool.and_eq_true, Bool.not_eq_true'] at hb
    obtain ⟨hb1, hb2⟩ := hb
    have hnb : fn.body.isNone = false := by cases hq : fn.body <;> simp [hq] at hb2 ⊢
    unfold Oper.wp
    have hpr : (program).run P w = .ok P w := rfl
    simp only [execOp, ho, resolve, hcal, hge, Deferred.ofValue, Sem.run_bind, Sem.run_pure, Result.andThen_ok, invoke, callFunc, hpr, hfn, hb1, hnb, Bool.false_eq_true, if_false, Oper.upon_enter]
    refine hcall.mono ?_
    rintro e' w' ⟨out, h', q, μ', hs, hout⟩
    cases out with
    | ret x => obtain ⟨u, rfl, hv⟩ := hout; exact hret x h' μ' w' u q hs hv
    | pan x => obtain ⟨u, rfl, hv⟩ := hout; exact hpan x h' μ' w' u q hs hv
theorem nocall_ok : CallOk P B0 G fun _ _ _ => none := by
  intro f args h out h' e; cases e
theorem sim_wp {μ : Mu} {h : AH} {w : World} {fr : Fr} {a : Act} {o : Oper} {K' : AOut → AH → Prop} (s : Sim P G fr h o K') (r : R B0 G μ h w) (f : FrRel μ w fr a)
    {K : Act → World → Prop} {Q : Exit → Act → World → Prop}
    (hret : ∀ x h' μ' w' u, K' (.ret x) h' → Step B0 G μ h w μ' h' w' → V μ' w' x u → K (a.put o.dst u) w')
    (hpan : ∀ x h' μ' w' u, K' (.pan x) h' → Step B0 G μ h w μ' h' w' → V μ' w' x u → Q (.panic [{ v := u, recovered := false }]) a w') : o.wp P a w K Q := by
  rcases s with ⟨out, h', e, k⟩ | ⟨c, g, g', first, cap, xs, h1, h2, h3, h4, h5, h6⟩
  · exact astep_sound nocall_ok r f e (fun x μ' w' u e => by subst e; exact hret x h' μ' w' u k) (fun x μ' w' u e => by subst e; exact hpan x h' μ' w' u k)
  · exact call_wp r f h1 h2 h3 h4 h5 h6 hret hpan

theorem gq_sound {ops : Array Oper} {o : Oper} {g : Option (Nat × Bool)} (hg : cguard ops o = some g) {fr : Fr} {A B : Prop} (h : gq fr g A B) : ∃ b, awanted ops fr o = some b ∧ if b then A else B := by
  unfold cguard at hg
  unfold awanted
  split at hg
  · rename_i h1; cases hg; rw [h1]; exact ⟨true, rfl, h⟩
  · rename_i j want h1
    rw [h1]
    simp only
    split at hg
    · rename_i d hd
      cases hg
      obtain ⟨hlt, h⟩ := h
      unfold gknown ayielded
      rw [hd]
      simp only
      rw [if_pos hlt]
      split at h
      · rename_i c hv
        rw [hv]
        refine ⟨_, rfl, ?_⟩
        cases want <;> cases c <;> simp at h <;> simpa using h
      · rename_i c hv
        rw [hv]
        exact ⟨_, rfl, by simpa using h⟩
      · exact h.elim
    · cases hg
theorem wops_sound {ops : Array Oper} {Q : Exit → Act → World → Prop} {Q' : Option AV → Fr → AH → Prop} : ∀ (s : Nat) (os : List Oper) (l : List IOp), ciops P ops os = some l → ops.toList.drop s = os → ∀ {fr : Fr} {h : AH} {μ : Mu} {w : World} {a : Act},
    wops P G l fr h Q' → R B0 G μ h w → FrRel μ w fr a →
    (∀ e a' w' x fr' h', Q' x fr' h' → Fin B0 G μ h w (match x with | none => .norm | some y => .pan y) fr' h' e a' w' → Q e a' w') → wpOps P ops Q (List.range' s os.length) a w
  | s, [], l, hl, hd, fr, h, μ, w, a, hw, r, f, hq => by
    simp only [ciops, Option.some.injEq] at hl; subst hl
    simp only [List.length_nil, List.range', wpOps]
    exact hq _ _ _ none fr h hw ⟨μ, Step.refl r, f, rfl⟩
  | s, o :: os, l, hl, hd, fr, h, μ, w, a, hw, r, f, hq => by
    simp only [ciops] at hl
    have hget : ops[s]? = some o := by
      have := congrArg (·[0]?) hd
      simpa using this
    have hd' : ops.toList.drop (s + 1) = os := by
      have := congrArg List.tail hd
      simpa using this
    cases h1 : ciop P ops o with
    | none => rw [h1] at hl; simp at hl
    | some i =>
      cases h2 : ciops P ops os with
      | none => rw [h1, h2] at hl; simp at hl
      | some l' =>
        rw [h1, h2] at hl; simp only [Option.some.injEq] at hl; subst hl
        unfold ciop at h1
        cases hcg : cguard ops o with
        | none => rw [hcg] at h1; simp at h1
        | some g =>
          rw [hcg] at h1; simp only [Option.map_some, Option.some.injEq] at h1; subst h1
          simp only [wops] at hw
          obtain ⟨b, hb, hw⟩ := gq_sound hcg hw
          simp only [List.length_cons, List.range', wpOps, hget]
          rw [wanted_V f hb]
          cases b with
          | true =>
            rw [if_pos rfl]
            left
            refine sim_wp (cop'_sound (by simpa using hw)) r f ?_ ?_
            · intro x h' μ' w' u k st hv
              simp only [outK_ret] at k
              have hp : ∃ fr', fr.put o.dst x = some fr' ∧ wops P G l' fr' h' Q' := by
                unfold wput at k
                split at k
                · rename_i hdst; exact ⟨fr, by simp only [hdst, Fr.put], k⟩
                · rename_i d hdst; exact ⟨fr.set d x, by simp only [hdst, Fr.put]; rw [if_pos k.1], k.2⟩
              obtain ⟨fr', hp, k⟩ := hp
              exact wops_sound (s + 1) os l' h2 hd' k st.r ((f.mono st.le st.com).put hp hv) fun e a' w'' x fr' h' q z => hq e a' w'' x fr' h' q (z.trans st)
            · intro x h' μ' w' u k st hv
              simp only [outK_pan] at k
              exact hq _ _ _ (some x) fr h' k ⟨μ', st, f.mono st.le st.com, u, rfl, hv⟩
          | false =>
            rw [if_neg (by simp)]
            simp only [Bool.false_eq_true, if_false] at hw
            have hp : ∃ fr', fr.put o.dst (.v undef) = some fr' ∧ wops P G l' fr' h Q' := by
              unfold wput at hw
              split at hw
              · rename_i hdst; exact ⟨fr, by simp only [hdst, Fr.put], hw⟩
              · rename_i d hdst; exact ⟨fr.set d (.v undef), by simp only [hdst, Fr.put]; rw [if_pos hw.1], hw.2⟩
            obtain ⟨fr', hp, k⟩ := hp
            exact wops_sound (s + 1) os l' h2 hd' k r (f.put hp undef_V) hq

theorem cop_callval {o : Oper} {c : Call} {g : Operand} {i : I} (ho : o.op = .call c) (hcal : c.callee = .value g) (hc : cop P o = some i) : (∃ f xs, i = .call f xs) ∨ ∃ f xs, i = .callv f xs := by
  unfold cop at hc
  simp only [ho, hcal] at hc
  split at hc
  · rename_i q; cases q
  · rename_i q; cases q
  · split at hc
    · simp only [Option.bind_eq_bind, Option.bind_eq_some_iff, Option.pure_def, Option.some.injEq] at hc
      obtain ⟨xs, _, rfl⟩ := hc
      exact .inl ⟨_, _, rfl⟩
    · cases hc
  · simp only [Option.bind_eq_bind, Option.bind_eq_some_iff, Option.pure_def, Option.some.injEq] at hc
    obtain ⟨f, _, xs, _, rfl⟩ := hc
    exact .inr ⟨_, _, rfl⟩
  · rename_i q; cases q
  · rename_i q; cases q
  · cases hc
open Classical in
theorem sim_det {fr : Fr} {h h' : AH} {o : Oper} {x : AV} (s : Sim P G fr h o fun q k => q = .ret x ∧ k = h') : ∃ call, (∀ B0, CallOk P B0 G call) ∧ astep P G call fr h o = some (.ret x, h') := by
  rcases s with ⟨out, h1, e, rfl, rfl⟩ | ⟨c, g, g', first, cap, xs, h1, h2, h3, h4, h5, h6⟩
  · exact ⟨_, fun _ => nocall_ok, e⟩
  · refine ⟨fun f as k => if f = g' ∧ as = first ++ xs ++ cap ∧ k = h then some (.ret x, h') else none, fun B0 f as k out k' e μ w vs r hv => ?_, ?_⟩
    · simp only at e
      split at e
      · rename_i hq
        obtain ⟨rfl, rfl, rfl⟩ := hq
        cases e
        exact (h6 B0 μ w vs r hv).mono fun _ _ ⟨o', k2, ⟨e1, e2⟩, p⟩ => by subst e1; subst e2; exact p
      · cases e
    · have hk : kindOf o = .e := by simp [kindOf, h1, h2]
      unfold astep
      rw [hk]
      simp [eop, h1, h2, h3, h4, h5]
theorem idstep_sound {fr : Fr} {h : AH} {o : Oper} {K : AV → AH → Prop} (hs : idstep P G fr h (cop' P o) K) : ∃ x h' call, (∀ B0, CallOk P B0 G call) ∧ astep P G call fr h o = some (.ret x, h') ∧ K x h' := by
  unfold cop' at hs
  cases hc : cop P o with
  | none =>
    rw [hc] at hs
    obtain ⟨p, hp, k⟩ := wv_ex (show wv (astep P G (fun _ _ _ => none) fr h o) (fun p => outK K (fun _ _ => False) p.1 p.2) from hs)
    obtain ⟨out, h'⟩ := p
    cases out with
    | ret x => exact ⟨x, h', _, fun _ => nocall_ok, hp, k⟩
    | pan x => exact k.elim
  | some i =>
    rw [hc] at hs
    have oth : istep P G fr h i (outK K fun _ _ => False) → (∀ f xs, i ≠ .call f xs) → (∀ f xs, i ≠ .callv f xs) → ∃ x h' call, (∀ B0, CallOk P B0 G call) ∧ astep P G call fr h o = some (.ret x, h') ∧ K x h' := by
      intro hs n1 n2
      rcases cop_sound hc hs with ⟨out, h1, e, k⟩ | ⟨c, g, g', first, cap, xs, h1, h2, _⟩
      · cases out with
        | ret x => exact ⟨x, h1, _, fun _ => nocall_ok, e, k⟩
        | pan x => exact k.elim
      · rcases cop_callval h1 h2 hc with ⟨f, xs, e⟩ | ⟨f, xs, e⟩
        · exact absurd e (n1 f xs)
        · exact absurd e (n2 f xs)
    cases i with
    | call f xs =>
      obtain ⟨ys, hy, x, h', hcall, k⟩ := wv_ex (show wv (X.evs G fr xs) _ from hs)
      obtain ⟨call, h1, h2⟩ := sim_det (x := x) (h' := h') (cop_sound hc (show wv (X.evs G fr xs) _ by rw [hy]; exact hcall))
      exact ⟨x, h', call, h1, h2, k⟩
    | callv f xs =>
      obtain ⟨fv, hf, hs⟩ := wv_ex (show wv (f.ev G fr) _ from hs)
      obtain ⟨ys, hy, hs⟩ := wv_ex hs
      cases fv with
      | fn ff first cap => cases ff with
        | func g =>
          obtain ⟨hb, x, h', hcall, k⟩ := hs
          obtain ⟨call, h1, h2⟩ := sim_det (x := x) (h' := h') (cop_sound hc (show wv (f.ev G fr) _ by rw [hf]; exact (show wv (X.evs G fr xs) _ by rw [hy]; exact ⟨hb, hcall⟩)))
          exact ⟨x, h', call, h1, h2, k⟩
        | _ => exact hs.elim
      | _ => exact hs.elim
    | _ => exact oth hs (fun _ _ e => by cases e) (fun _ _ e => by cases e)

/-- A run of a region, step by step, whatever the calls are. -/
theorem wdraw_tr {ops : Array Oper} {Q : Fr → AH → List DEnt → Prop} : ∀ (os : List Oper) (s : Nat) (l : List IOp), ciops P ops os = some l → ops.toList.drop s = os → ∀ {fr : Fr} {h : AH} {es : List DEnt}, wdraw P G l fr h es Q →
    ∃ (F : Nat → Fr) (H : Nat → AH) (X : Nat → AV) (EX : Nat → Bool) (es' : List DEnt), F s = fr ∧ H s = h ∧ Q (F (s + os.length)) (H (s + os.length)) (es ++ es') ∧ es'.length = os.length ∧
      ∀ k, s ≤ k → k < s + os.length → ∃ o, ops[k]? = some o ∧ es'[k - s]? = some ⟨EX k, touchX G (F k) (ctouch o), H k, H (k + 1)⟩ ∧ awanted ops (F k) o = some (EX k) ∧
        (EX k = true → ∃ call, (∀ B0, CallOk P B0 G call) ∧ astep P G call (F k) (H k) o = some (.ret (X k), H (k + 1))) ∧ (EX k = false → X k = .v undef ∧ H (k + 1) = H k) ∧ (F k).put o.dst (X k) = some (F (k + 1))
  | [], s, l, hl, hd, fr, h, es, hw => by
    simp only [ciops, Option.some.injEq] at hl; subst hl
    exact ⟨fun _ => fr, fun _ => h, fun _ => .v undef, fun _ => false, [], rfl, rfl, by simpa [wdraw] using hw, rfl, fun k h1 h2 => by simp at h2; omega⟩
  | o :: os, s, l, hl, hd, fr, h, es, hw => by
    simp only [ciops] at hl
    have hget : ops[s]? = some o := by
      have := congrArg (·[0]?) hd
      simpa using this
    have hd' : ops.toList.drop (s + 1) = os := by
      have := congrArg List.tail hd
      simpa using this
    cases h1 : ciop P ops o with
    | none => rw [h1] at hl; simp at hl
    | some i =>
      cases h2 : ciops P ops os with
      | none => rw [h1, h2] at hl; simp at hl
      | some l' =>
        rw [h1, h2] at hl; simp only [Option.some.injEq] at hl; subst hl
        unfold ciop at h1
        cases hcg : cguard ops o with
        | none => rw [hcg] at h1; simp at h1
        | some g =>
          rw [hcg] at h1; simp only [Option.map_some, Option.some.injEq] at h1; subst h1
          simp only [wdraw] at hw
          obtain ⟨b, hb, hw⟩ := gq_sound hcg hw
          have hone : ∃ x fr' h', wdraw P G l' fr' h' (es ++ [⟨b, touchX G fr (ctouch o), h, h'⟩]) Q ∧ fr.put o.dst x = some fr' ∧ (b = true → ∃ call, (∀ B0, CallOk P B0 G call) ∧ astep P G call fr h o = some (.ret x, h')) ∧ (b = false → x = .v undef ∧ h' = h) := by
            cases b with
            | true =>
              rw [if_pos rfl] at hw
              obtain ⟨x, h', call, hc, ha, k⟩ := idstep_sound hw
              unfold wput at k
              split at k
              · rename_i hdst; exact ⟨x, fr, h', k, by simp only [hdst, Fr.put], fun _ => ⟨call, hc, ha⟩, fun q => by cases q⟩
              · rename_i d hdst; exact ⟨x, fr.set d x, h', k.2, by simp only [hdst, Fr.put]; rw [if_pos k.1], fun _ => ⟨call, hc, ha⟩, fun q => by cases q⟩
            | false =>
              simp only [Bool.false_eq_true, if_false] at hw
              unfold wput at hw
              split at hw
              · rename_i hdst; exact ⟨.v undef, fr, h, hw, by simp only [hdst, Fr.put], (fun q => by cases q), fun _ => ⟨rfl, rfl⟩⟩
              · rename_i d hdst; exact ⟨.v undef, fr.set d (.v undef), h, hw.2, by simp only [hdst, Fr.put]; rw [if_pos hw.1], (fun q => by cases q), fun _ => ⟨rfl, rfl⟩⟩
          obtain ⟨x, fr', h', hw', hput, hx1, hx2⟩ := hone
          obtain ⟨F, H, X, EX, es', hF, hH, hQ, hlen, hall⟩ := wdraw_tr os (s + 1) l' h2 hd' hw'
          refine ⟨fun i => if i = s then fr else F i, fun i => if i = s then h else H i, fun i => if i = s then x else X i, fun i => if i = s then b else EX i, ⟨b, touchX G fr (ctouch o), h, h'⟩ :: es', by simp, by simp, ?_, by simp [hlen], ?_⟩
          · have e1 : s + (o :: os).length = s + 1 + os.length := by simp; omega
            rw [e1]
            simp only [show s + 1 + os.length ≠ s from by omega, if_false]
            simpa using hQ
          · intro k hk1 hk2
            by_cases hks : k = s
            · subst hks
              refine ⟨o, hget, ?_, ?_, ?_, ?_, ?_⟩
              · simp [hH]
              · simpa using hb
              · intro q
                simp only [if_true] at q
                have := hx1 q
                simpa [hH] using this
              · intro q
                simp only [if_true] at q
                have := hx2 q
                simpa [hH] using this
              · simpa [hF] using hput
            · obtain ⟨o', g1, g2, g3, g4, g5, g6⟩ := hall k (by omega) (by simp at hk2; omega)
              have e2 : k + 1 ≠ s := by omega
              refine ⟨o', g1, ?_, ?_, ?_, ?_, ?_⟩
              · have : k - s = (k - (s + 1)) + 1 := by omega
                rw [this]
                simp only [List.getElem?_cons_succ, hks, e2, if_false]
                exact g2
              · simpa [hks] using g3
              · simpa [hks, e2] using g4
              · simpa [hks, e2] using g5
              · simpa [hks, e2] using g6
theorem ctouch_l {o : Oper} {fr : Fr} {ob : Nat} (h : ltouch G fr o = some ob) : touchX G fr (ctouch o) = some ob := by
  have key : ∀ x v, aev G fr x = some v → (match X.of x with | some y => y.ev G fr = some v | none => True) := fun x v e => by
    cases hx : X.of x with
    | none => trivial
    | some y => simp only; rw [← X.of_ev hx]; exact e
  have some' : ∀ x v, aev G fr x = some v → ∃ y, X.of x = some y := fun x v e => by
    cases x with
    | const c => simp only [aev] at e; simp only [X.of, e, Option.map_some]; exact ⟨_, rfl⟩
    | _ => exact ⟨_, rfl⟩
  unfold ltouch at h
  unfold ctouch
  split at h
  · rename_i t a ho
    split at h
    · rename_i q off hv
      cases h
      obtain ⟨y, hy⟩ := some' _ _ hv
      simp only [ho, touchX, hy, Option.bind_some, ← X.of_ev hy, hv]
    · cases h
  · rename_i t m k ok ho
    split at h
    · rename_i q hv
      cases h
      obtain ⟨y, hy⟩ := some' _ _ hv
      simp only [ho, touchX, hy, Option.bind_some, ← X.of_ev hy, hv]
    · cases h
  · rename_i c ho
    split at h
    · rename_i x hargs
      split at h
      · rename_i q hv
        cases h
        obtain ⟨y, hy⟩ := some' _ _ hv
        simp only [ho, hargs, touchX, hy, Option.bind_some, ← X.of_ev hy, hv]
      · cases h
    · cases h
  · cases h
theorem mem_cpairs {ops : Array Oper} {i j : Nat} (hi : i < ops.size) (hj : j < ops.size) (h1 : kindAt ops i = .l ∨ kindAt ops i = .a) (h2 : kindAt ops j = .e) (h3 : (anc ops i).testBit j = false) (h4 : (anc ops j).testBit i = false) : (i, j) ∈ cpairs ops := by
  unfold cpairs
  simp only [List.mem_flatMap, List.mem_filterMap, List.mem_range]
  have h3' : ((ancs ops ops.size).getD i 0).testBit j = false := h3
  have h4' : ((ancs ops ops.size).getD j 0).testBit i = false := h4
  refine ⟨i, hi, j, hj, ?_⟩
  rw [h2, h3', h4']
  rcases h1 with h1 | h1 <;> rw [h1] <;> rfl
theorem wdraw_reg {ops : Array Oper} {l : List IOp} (hl : ciops P ops ops.toList = some l) (hst : staticOk ops = true) {fr : Fr} {h : AH} {Q : Fr → AH → Prop} (hw : wdraw P G l fr h [] fun fr' h' es => drawOk (cpairs ops) es ∧ Q fr' h') :
    ∃ F H X EX, Reg P B0 G ops F H X EX ∧ F 0 = fr ∧ H 0 = h ∧ Q (F ops.size) (H ops.size) := by
  obtain ⟨F, H, X, EX, es, hF, hH, ⟨hok, hQ⟩, hlen, hall⟩ := wdraw_tr ops.toList 0 l hl (by simp) hw
  simp only [Nat.zero_add, Array.length_toList, List.nil_append] at hQ hok hlen hall
  have lt : ∀ {i o}, ops[i]? = some o → i < ops.size := fun h => (Array.getElem?_eq_some_iff.1 h).1
  have at' : ∀ i o, ops[i]? = some o → es[i]? = some ⟨EX i, touchX G (F i) (ctouch o), H i, H (i + 1)⟩ ∧ awanted ops (F i) o = some (EX i) ∧
        (EX i = true → ∃ call, (∀ B0, CallOk P B0 G call) ∧ astep P G call (F i) (H i) o = some (.ret (X i), H (i + 1))) ∧ (EX i = false → X i = .v undef ∧ H (i + 1) = H i) ∧ (F i).put o.dst (X i) = some (F (i + 1)) := fun i o ho => by
    obtain ⟨o', g1, g2⟩ := hall i (Nat.zero_le _) (lt ho)
    rw [ho] at g1; cases g1
    simpa using g2
  have mem : ∀ i o, ops[i]? = some o → (⟨EX i, touchX G (F i) (ctouch o), H i, H (i + 1)⟩ : DEnt) ∈ es := fun i o ho => List.mem_of_getElem? (at' i o ho).1
  have pr : ∀ i j o o', ops[i]? = some o → ops[j]? = some o' → (i, j) ∈ cpairs ops → EX i = true → EX j = true → _ := fun i j o o' ho ho' hm h1 h2 => by
    have := hok.2 (i, j) hm
    unfold pairOk at this
    simp only [(at' i o ho).1, (at' j o' ho').1] at this
    exact this h1 h2
  refine ⟨F, H, X, EX, ⟨static_of hst, fun i o ho => (at' i o ho).2.1, fun i o ho hx => ?_, fun i hi hx => ((at' i _ (Array.getElem?_eq_getElem hi)).2.2.2.1 hx), fun i o ho => (at' i o ho).2.2.2.2, fun i hi => ?_, fun i o ob ho hk ht => ?_, fun i j o ob ho hj h1 h2 h3 h4 h5 hk ht => ?_, fun i j o ho hj h1 h2 h3 h4 h5 hk => ?_⟩, hF, hH, hQ⟩
  · obtain ⟨call, hc, ha⟩ := (at' i o ho).2.2.1 hx
    exact ⟨call, hc B0, ha⟩
  · have := hok.1 _ (mem i _ (Array.getElem?_eq_getElem hi))
    exact ⟨this.1, this.2.1⟩
  · exact (hok.1 _ (mem i o ho)).2.2 ob (ctouch_l ht)
  · have hkk : kindAt ops i = .l := by simp [kindAt, ho, hk]
    exact (pr i j o _ ho (Array.getElem?_eq_getElem hj) (mem_cpairs (lt ho) hj (.inl hkk) h1 h4 h5) h2 h3).1 ob (ctouch_l ht)
  · have hkk : kindAt ops i = .a := by simp [kindAt, ho, hk]
    exact (pr i j o _ ho (Array.getElem?_eq_getElem hj) (mem_cpairs (lt ho) hj (.inr hkk) h1 h4 h5) h2 h3).2

theorem WP.scope {c : Code} {fr : Fr} {h : AH} {Q : AX → Fr → AH → Prop} (k : WP P G c fr h Q) : WP P G (.scope c) fr h Q := fun B0 μ w a r f => by
  refine wp_scope_straight (wp_mono (k B0 μ w a r f) ?_)
  rintro ex a1 w1 ⟨x, fr1, h1, q, μ1, st, f1, hex⟩
  cases x with
  | norm => simp only [ExRel] at hex; subst hex; exact ⟨_, _, _, q, μ1, st, f1, rfl⟩
  | exit j => simp only [ExRel] at hex; subst hex; exact ⟨_, _, _, q, μ1, st, f1, rfl⟩
  | ret => simp only [ExRel] at hex; subst hex; exact ⟨_, _, _, q, μ1, st, f1, rfl⟩
  | pan z => obtain ⟨u, rfl, hv⟩ := hex; exact ⟨_, _, _, q, μ1, st, f1, u, rfl, hv⟩
theorem iwp_sound (hmix : P.follows .mixedOrders = true) : ∀ (c : Code) {fr : Fr} {h : AH} {Q : AX → Fr → AH → Prop}, iwp P G (ccode P c) fr h Q → WP P G c fr h Q
  | .skip, fr, h, Q, k => WP.skip k
  | .label _, fr, h, Q, k => WP.label k
  | .exit _, fr, h, Q, k => WP.exit k
  | .ret, fr, h, Q, k => WP.ret k
  | .seq a b, fr, h, Q, k => by
    refine WP.seq ((iwp_sound hmix a (show iwp P G (ccode P a) fr h _ from k)).mono ?_)
    intro x fr h q
    cases x with
    | norm => exact iwp_sound hmix b q
    | _ => exact q
  | .cond c a b, fr, h, Q, k => by
    simp only [ccode] at k
    cases hx : X.of c with
    | none => rw [hx] at k; exact k.elim
    | some x =>
      rw [hx] at k
      simp only [iwp] at k
      obtain ⟨v, hv, k⟩ := wv_ex k
      obtain ⟨t, ht, k⟩ := wv_ex k
      rw [ibool_eq ht] at hv
      refine WP.cond ((X.of_ev hx).trans hv) ?_
      cases t with
      | true => exact iwp_sound hmix a (k.1 rfl)
      | false => exact iwp_sound hmix b (k.2 rfl)
  | .scope a, fr, h, Q, k => WP.scope (iwp_sound hmix a (show iwp P G (ccode P a) fr h _ from k))
  | .block id a, fr, h, Q, k => WP.block (iwp_sound hmix a (show iwp P G (ccode P a) fr h _ from k))
  | .loop a, fr, h, Q, k => by
    obtain ⟨J, h0, hs⟩ := (show ∃ I : Nat → Fr → AH → Prop, (∃ n fr0 h0, Drop h fr h fr0 h0 ∧ I n fr0 h0) ∧ ∀ n fr1 h1, I n fr1 h1 → iwp P G (ccode P a) fr1 h1 (loopQ I Q n h1) from k)
    exact WP.loop J h0 fun n fr1 h1 hi => iwp_sound hmix a (hs n fr1 h1 hi)
  | .region id ops draw, fr, h, Q, k => by
    simp only [ccode] at k
    cases hl : ciops P ops ops.toList with
    | none => rw [hl] at k; exact k.elim
    | some l =>
      rw [hl] at k
      cases draw with
      | false =>
        simp only [Bool.false_eq_true, if_false] at k
        intro B0 μ w a r f
        refine wp_region ?_
        have := wops_sound (Q := fun e a' w' => ∃ x fr' h', Q x fr' h' ∧ Fin B0 G μ h w x fr' h' e a' w') 0 ops.toList l hl (by simp) k r f (fun e a' w' x fr' h' q z => by
          cases x with
          | none => exact ⟨.norm, fr', h', q, z⟩
          | some y => exact ⟨.pan y, fr', h', q, z⟩)
        rw [List.range_eq_range']
        simpa using this
      | true =>
        simp only [if_true] at k
        split at k
        · rename_i hst
          intro B0 μ w a r f
          obtain ⟨F, H, X, EX, rg, hF, hH, hQ⟩ := wdraw_reg (B0 := B0) hl hst k
          have hk : ComKeep μ w { w with drawn := w.drawn + 1 } := fun _ _ _ => rfl
          have s2 : Step B0 G μ h w μ h { w with drawn := w.drawn + 1 } := R.heap r rfl ⟨rfl, rfl, rfl⟩
          refine wp_region_any hmix (reg_sound rg hF hH rfl rfl s2.r (FrRel.mono (Le.refl μ) hk f) ?_)
          intro μ' a' w' st f'
          exact ⟨.norm, _, _, hQ, μ', s2.trans st, f', rfl⟩
        · unfold cdraw at k
          split at k
          · exact k.elim
          · rename_i ops' hro
            cases hl : ciops P ops' ops'.toList with
            | none => rw [hl] at k; exact k.elim
            | some l =>
              rw [hl] at k
              simp only at k
              split at k
              · rename_i hst
                intro B0 μ w a r f
                obtain ⟨F, H, X, EX, rg, hF, hH, hQ⟩ := wdraw_reg (B0 := B0) hl hst k
                have hk : ComKeep μ w { w with drawn := w.drawn + 1 } := fun _ _ _ => rfl
                have s2 : Step B0 G μ h w μ h { w with drawn := w.drawn + 1 } := R.heap r rfl ⟨rfl, rfl, rfl⟩
                refine wp_region_any hmix (wpAny_reorder hro (reg_sound rg hF hH rfl rfl s2.r (FrRel.mono (Le.refl μ) hk f) ?_))
                intro μ' a' w' st f'
                exact ⟨.norm, _, _, hQ, μ', s2.trans st, f', rfl⟩
              · exact k.elim
  | .rangeFunc _ _ _ _, fr, h, Q, k => by exact (show False from k).elim
  | .goto _, fr, h, Q, k => by exact (show False from k).elim
  | .refuse _, fr, h, Q, k => by exact (show False from k).elim

/-- A result, read off the frame. -/
structure IRes where
  t : Nat
  cell : Option (Option Nat)
def ires (fr : Fr) (h : AH) (r : IRes) : Option AV :=
  match r.cell with
  | none => some (fr.get r.t)
  | some row => iload h.get row (fr.get r.t)
def iress (fr : Fr) (h : AH) : List IRes → Option (List AV)
  | [] => some []
  | x :: xs => match ires fr h x, iress fr h xs with
    | some y, some ys => some (y :: ys)
    | _, _ => none
def cres (P : Program) : List ResultVar → Option (List IRes)
  | [] => some []
  | .tmp t :: r => (cres P r).map fun l => ⟨t, none⟩ :: l
  | .cell a t :: r => match rowOf P t, cres P r with
    | some row, some l => some (⟨a, some row⟩ :: l)
    | _, _ => none
/-- The end of a function. -/
def iend (rs : List IRes) (h : AH) (Q : AOut → AH → Prop) : AX → Fr → AH → Prop
  | .norm, fr', h' | .ret, fr', h' => wv (iress fr' h' rs) fun xs => ∃ y h'', DropH h h' h'' ∧ SubB h''.next h''.tnext (aret xs) y ∧ Q (.ret y) h''
  | .pan v, _, h' => ∃ y h'', DropH h h' h'' ∧ SubB h''.next h''.tnext v y ∧ Q (.pan y) h''
  | .exit _, _, _ => False
theorem iress_eq {fr : Fr} {h : AH} : ∀ {rs : List ResultVar} {l : List IRes}, cres P rs = some l → ∀ {xs}, iress fr h l = some xs → aresults P h fr rs = some xs
  | [], l, e, xs, k => by simp only [cres, Option.some.injEq] at e; subst e; simpa [iress, aresults] using k
  | .tmp t :: r, l, e, xs, k => by
    simp only [cres] at e
    cases h1 : cres P r with
    | none => rw [h1] at e; simp at e
    | some l' =>
      rw [h1] at e; simp only [Option.map_some, Option.some.injEq] at e; subst e
      simp only [iress, ires] at k
      cases h2 : iress fr h l' with
      | none => rw [h2] at k; simp at k
      | some ys =>
        rw [h2] at k; simp only [Option.some.injEq] at k; subst k
        simp only [aresults, aresult, iress_eq h1 h2]
  | .cell a t :: r, l, e, xs, k => by
    simp only [cres] at e
    cases h0 : rowOf P t with
    | none => rw [h0] at e; simp at e
    | some row =>
    cases h1 : cres P r with
    | none => rw [h0, h1] at e; simp at e
    | some l' =>
      rw [h0, h1] at e; simp only [Option.some.injEq] at e; subst e
      simp only [iress, ires] at k
      cases h3 : iload h.get row (fr.get a) with
      | none => rw [h3] at k; simp at k
      | some y =>
      cases h2 : iress fr h l' with
      | none => rw [h3, h2] at k; simp at k
      | some ys =>
        rw [h3, h2] at k; simp only [Option.some.injEq] at k; subst k
        have ha : aload P h.get t (fr.get a) = some y := by
          rw [← h3]
          cases hp : fr.get a <;> simp only [aload, iload, acut_row h0]
          all_goals (first | rfl | (rename_i q off; cases hq : h.get q with | none => rfl | some ob => cases ob <;> rfl) | skip)
        simp only [aresults, aresult, ha, iress_eq h1 h2]
structure IFn where
  n : Nat
  rs : List IRes
  ir : IR
def cfunc (P : Program) (f : FuncId) : Option IFn :=
  match P.funcs[f]? with
  | some fn => match fn.body, cres P fn.results.toList with
    | some c, some rs => some ⟨fn.ntmps, rs, ccode P c⟩
    | _, _ => none
  | none => none
theorem CALL.of_ir (hmix : P.follows .mixedOrders = true) {f : FuncId} {k : IFn} (hf : cfunc P f = some k) {args : List AV} {h : AH} {Q : AOut → AH → Prop} (hw : iwp P G k.ir (Fr.ofArgs k.n args) h (iend k.rs h Q)) : CALL P G f args h Q := by
  unfold cfunc at hf
  split at hf
  · rename_i fn hfn
    split at hf
    · rename_i c rs hb hr
      cases hf
      refine CALL.of_wp hfn hb ((iwp_sound hmix c hw).mono ?_)
      intro x fr' h' q
      cases x with
      | norm => obtain ⟨xs, h1, h2⟩ := wv_ex (show wv (iress fr' h' rs) _ from q); exact ⟨xs, iress_eq hr h1, h2⟩
      | ret => obtain ⟨xs, h1, h2⟩ := wv_ex (show wv (iress fr' h' rs) _ from q); exact ⟨xs, iress_eq hr h1, h2⟩
      | exit j => exact q
      | pan v => exact q
    · cases hf
  · cases hf
end
end Go.Proofs.YtkcbhebbjpiibaaDoor.Pg
