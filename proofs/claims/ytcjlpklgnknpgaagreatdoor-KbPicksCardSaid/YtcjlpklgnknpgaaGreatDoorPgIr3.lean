/-
  Pg, part 12: statements and functions in the plainer form.
-/
import Derived.Test.YtcjlpklgnknpgaaGreatDoorPgIr
import Derived.Scope
set_option linter.unusedVariables false
set_option linter.unusedSimpArgs false
set_option linter.unusedSectionVars false
namespace Go.Proofs.YtcjlpklgnknpgaaGreatDoor.Pg
open Go
structure IOp where
 d : Option Nat
 g : Option (Nat × Bool)
 tx : Option X
 i : I
abbrev oA (d : Nat) (i : I) : IOp := ⟨some d, none, none, i⟩
abbrev oL (d s : Nat) (row : Option Nat) : IOp := ⟨some d, none, some (.r s), .load row (.r s)⟩
abbrev oN (i : I) : IOp := ⟨none, none, none, i⟩
abbrev oT (d t : Nat) (i : I) : IOp := ⟨some d, none, some (.r t), i⟩
abbrev kM (n : Nat) : I := .mov (.r n)
abbrev kI (n : Int) : X := .k (.v (.int .i64 n))
abbrev kB (b : Bool) : X := .k (.v (.bool b))
inductive IR where
 | bad
 | skip
 | exit (id : Nat)
 | ret
 | reg (l : List IOp)
 | draw (l : List IOp) (pairs : List (Nat × Nat))
 | drawP (l : List IOp) (pairs : List (Nat × Nat)) (p : Nat)
 | seq (a b : IR)
 | cond (x : X) (a b : IR)
 | block (id : Nat) (a : IR)
 | loop (a : IR)
 | rng (x : X) (ps : Array Tmp) (ca cb : Code) (a b : IR)
 | orc (c : Code)
 | dfr (l : List IOp) (x : X)
 | rcv (d : Nat) (ms : List (Nat × Nat))
def outK (K1 K2 : AV → AH → Prop) : AOut → AH → Prop
 | .ret x, h => K1 x h
 | .pan x, h => K2 x h
@[simp] theorem outK_ret (K1 K2 : AV → AH → Prop) (x : AV) (h : AH) : outK K1 K2 (.ret x) h = K1 x h := rfl
@[simp] theorem outK_pan (K1 K2 : AV → AH → Prop) (x : AV) (h : AH) : outK K1 K2 (.pan x) h = K2 x h := rfl
def gq (fr : Fr) (g : Option (Nat × Bool)) (A B : Prop) : Prop :=
 match g with
 | none => A
 | some (t, want) => t < fr.n ∧ match fr.get t with
  | .v (.bool c) => if want then wb c A B else wb c B A
  | .v (.tuple _) => B
  | _ => False
def wput (fr : Fr) (d : Option Nat) (x : AV) (K : Fr → Prop) : Prop :=
 match d with
 | none => K fr
 | some d => d < fr.n ∧ K (fr.set d x)
def wops (P : Program) (G : Nat → Option (List AV)) : List IOp → Fr → AH → (Option AV → Fr → AH → Prop) → Prop
 | [], fr, h, Q => Q none fr h
 | o :: r, fr, h, Q => gq fr o.g (istep P G fr h o.i (outK (fun x h' => wput fr o.d x fun fr' => wops P G r fr' h' Q) fun x h' => Q (some x) fr h')) (wput fr o.d (.v undef) fun fr' => wops P G r fr' h Q)
structure DEnt where
 ex : Bool
 touch : Option Nat
 hb : AH
 ha : AH
def idstep (P : Program) (G : Nat → Option (List AV)) (fr : Fr) (h : AH) (i : I) (K : AV → AH → Prop) : Prop :=
 match i with
 | .gen o => ∃ x, astep P G (fun _ _ _ => none) fr h o = some (.ret x, h) ∧ K x h
 | .call f xs => wv (X.evs G fr xs) fun xs => ∃ x h', CALL P G f xs h (fun o k => o = .ret x ∧ k = h') ∧ K x h'
 | .callv f xs => wv (f.ev G fr) fun f => wv (X.evs G fr xs) fun xs => match f with
  | .fn (.func g) first cap => hasBody P g = true ∧ ∃ x h', CALL P G g (first ++ xs ++ cap) h (fun o k => o = .ret x ∧ k = h') ∧ K x h'
  | _ => False
 | .inv m r xs => wv (r.ev G fr) fun r => wv (X.evs G fr xs) fun xs => match r with
  | .ifc t y => wv (mtv P t m) fun g => ∃ x h', CALL P G g (y :: xs) h (fun o k => o = .ret x ∧ k = h') ∧ K x h'
  | _ => False
 | i => istep P G fr h i (outK K fun _ _ => False)
def touchX (G : Nat → Option (List AV)) (fr : Fr) (x : Option X) : Option Nat :=
 match x.bind (X.ev G fr) with
 | some (.ptr o _) | some (.mp o) => some o
 | _ => none
def wdraw (P : Program) (G : Nat → Option (List AV)) : List IOp → Fr → AH → List DEnt → (Fr → AH → List DEnt → Prop) → Prop
 | [], fr, h, es, Q => Q fr h es
 | o :: r, fr, h, es, Q => gq fr o.g (idstep P G fr h o.i fun x h' => wput fr o.d x fun fr' => wdraw P G r fr' h' (es ++ [⟨true, touchX G fr o.tx, h, h'⟩]) Q)
   (wput fr o.d (.v undef) fun fr' => wdraw P G r fr' h (es ++ [⟨false, touchX G fr o.tx, h, h⟩]) Q)
def pairOk (es : List DEnt) (p : Nat × Nat) : Prop :=
 match es[p.1]?, es[p.2]? with
 | some ei, some ej => ei.ex = true → ej.ex = true → (∀ ob, ei.touch = some ob → ej.hb.get ob = ej.ha.get ob) ∧
   (ei.ha.next ≠ ei.hb.next → ej.hb.get ei.hb.next = ej.ha.get ei.hb.next) ∧ (ei.ha.tnext ≠ ei.hb.tnext → ej.hb.tok ei.hb.tnext = ej.ha.tok ei.hb.tnext)
 | _, _ => True
def drawOk (pairs : List (Nat × Nat)) (es : List DEnt) : Prop :=
 (∀ e ∈ es, e.hb.next ≤ e.ha.next ∧ e.hb.tnext ≤ e.ha.tnext ∧ ∀ ob, e.touch = some ob → ob < e.hb.next) ∧ ∀ p ∈ pairs, pairOk es p
def pre2 (p : Nat) (pairs : List (Nat × Nat)) : List (Nat × Nat) := pairs.filter fun q => decide (q.1 < p) && decide (q.2 < p)
def idpan (P : Program) (G : Nat → Option (List AV)) (fr : Fr) (h : AH) (o : Option IOp) (K : AV → AH → Prop) : Prop :=
 match o with
 | some ⟨_, none, _, .call f xs⟩ => wv (X.evs G fr xs) fun xs => ∃ x h', CALL P G f xs h (fun o k => o = .pan x ∧ k = h') ∧ K x h'
 | _ => False
def idsts (l : List IOp) : List Nat := l.filterMap (·.d)
def regQ (Q : AX → Fr → AH → Prop) : Option AV → Fr → AH → Prop
 | none, fr, h => Q .norm fr h
 | some x, fr, h => Q (.pan x) fr h
def iwp (P : Program) (G : Nat → Option (List AV)) : IR → Fr → AH → (AX → Fr → AH → Prop) → Prop
 | .bad, _, _, _ => False
 | .dfr _ _, _, _, _ => False
 | .rcv _ _, _, _, _ => False
 | .skip, fr, h, Q => Q .norm fr h
 | .exit id, fr, h, Q => Q (.exit id) fr h
 | .ret, fr, h, Q => Q .ret fr h
 | .reg l, fr, h, Q => wops P G l fr h (regQ Q)
 | .draw l pairs, fr, h, Q => wdraw P G l fr h [] fun fr' h' es => drawOk pairs es ∧ Q .norm fr' h'
 | .drawP l pairs p, fr, h, Q => (wdraw P G l fr h [] fun fr' h' es => drawOk pairs es ∧ Q .norm fr' h') ∨
   wdraw P G (l.take p) fr h [] fun fr' h' es => drawOk (pre2 p pairs) es ∧ idpan P G fr' h' l[p]? fun x h'' => Q (.pan x) (forget fr (idsts l)) h''
 | .seq a b, fr, h, Q => iwp P G a fr h (thenQ (fun fr h => iwp P G b fr h Q) Q)
 | .cond x a b, fr, h, Q => wv (x.ev G fr) fun c => wv (ibool c) fun t => wb t (iwp P G a fr h Q) (iwp P G b fr h Q)
 | .block id a, fr, h, Q => iwp P G a fr h (blockQ id Q)
 | .loop a, fr, h, Q => ∃ I : Nat → Fr → AH → Prop, (∃ n fr0 h0, Drop h fr h fr0 h0 ∧ I n fr0 h0) ∧ ∀ n fr1 h1, I n fr1 h1 → iwp P G a fr1 h1 (loopQ I Q n h1)
 | .rng x ps ca cb a b, fr, h, Q => wv (x.ev G fr) fun g => match g with
  | .fn (.func it) [] cap => hasBody P it = true ∧ ((∀ fr h Q, iwp P G a fr h Q → WP P G false ca fr h Q) → (∀ fr h Q, iwp P G b fr h Q → WP P G false cb fr h Q) →
    CALL P G it (.yld h.next :: cap) (h.push (.loop fr .ready none ps ca cb)) (rngQ Q fr h.next))
  | _ => False
 | .orc c, fr, h, Q => ∀ nb, WP P G nb c fr h Q
def cguard (ops : Array Oper) (o : Oper) : Option (Option (Nat × Bool)) :=
 match o.guard with
 | none => some none
 | some (j, b) => match (ops[j]?).bind (·.dst) with
  | some d => some (some (d, b))
  | none => none
def ctouch (o : Oper) : Option X :=
 match o.op with
 | .load _ a => X.of a
 | .lookup _ m _ _ => X.of m
 | .call c => match c.args.toList with
  | [x] => X.of x
  | _ => none
 | _ => none
def ciop (P : Program) (ops : Array Oper) (o : Oper) : Option IOp := (cguard ops o).map fun g => { d := o.dst, g := g, tx := ctouch o, i := cop' P o }
def ciops (P : Program) (ops : Array Oper) : List Oper → Option (List IOp)
 | [] => some []
 | o :: os => match ciop P ops o, ciops P ops os with
  | some x, some xs => some (x :: xs)
  | _, _ => none
def cpairs (ops : Array Oper) : List (Nat × Nat) :=
 let l := ancs ops ops.size
 (List.range ops.size).flatMap fun i => (List.range ops.size).filterMap fun j =>
  if (kindAt ops i == .l || kindAt ops i == .a) && kindAt ops j == .e && !(l.getD i 0).testBit j && !(l.getD j 0).testBit i then some (i, j) else none
def cdraw (P : Program) : Option (Array Oper) → IR
 | none => .bad
 | some ops => match ciops P ops ops.toList with
  | some l => if staticOk ops then .draw l (cpairs ops) else .bad
  | none => .bad
def movOf (o : Oper) : Option (Nat × Nat) :=
 match o.op, o.guard, o.dst with
 | .move (.tmp s), none, some d | .assign (.tmp s), none, some d => some (d, s)
 | _, _, _ => none
def movsOf : List Oper → Option (List (Nat × Nat))
 | [] => some []
 | o :: os => match movOf o, movsOf os with
  | some x, some xs => some (x :: xs)
  | _, _ => none
def isRcv (o : Oper) : Option Nat :=
 match o.op, o.guard with
 | .call c, none => match c.callee, c.args.toList with
  | .builtin .recover, [] => o.dst
  | _, _ => none
 | _, _ => none
def crcv : List Oper → Option (Nat × List (Nat × Nat))
 | o :: os => match isRcv o, movsOf os with
  | some d, some ms => some (d, ms)
  | _, _ => none
 | [] => none
def isDfr (o : Oper) : Option X :=
 match o.op, o.guard, o.dst with
 | .defer c, none, none => match c.callee, c.args.toList with
  | .value g, [] => X.of g
  | _, _ => none
 | _, _, _ => none
def cdfr (P : Program) (ops : Array Oper) : List Oper → Option (List IOp × X)
 | o :: r => match isDfr o, ciops P ops r.reverse with
  | some x, some l => if r.all nodef then some (l, x) else none
  | _, _ => none
 | [] => none
def cdraw1 (P : Program) (ops : Array Oper) : IR :=
 match ciops P ops ops.toList with
 | some l => if staticOk ops then .draw l (cpairs ops) else cdraw P (reorder ops)
 | none => .bad
def panOps (P : Program) (g : FuncId → Bool) : Code → Bool
 | .seq a b => panOps P g a || panOps P g b
 | .cond _ a b => panOps P g a || panOps P g b
 | .block _ a => panOps P g a
 | .loop a => panOps P g a
 | .scope a => panOps P g a
 | .region _ ops _ => ops.toList.any fun o => match cop P o with
  | some (.pan _) => true
  | some (.call f _) => g f
  | _ => false
 | _ => false
def panicky (P : Program) : Nat → FuncId → Bool
 | 0, _ => false
 | k + 1, f => match (P.funcs[f]?).bind (·.body) with
  | some c => panOps P (panicky P k) c
  | none => false
def mayPan (P : Program) (ops : Array Oper) (p : Nat) : Bool :=
 match ops[p]? with
 | some o => o.guard.isNone && (match cop P o with
  | some (.call f _) => panicky P 2 f
  | _ => false) && (List.range ops.size).all fun j => decide (j ≤ p) || ((ancs ops ops.size).getD j 0).testBit p
 | none => false
def cdrawA (P : Program) (id : Nat) (ops : Array Oper) : IR :=
 match cdraw1 P ops with
 | .draw l ps => if staticOk ops then (match (List.range ops.size).find? (mayPan P ops) with
  | some p => .drawP l ps p
  | none => .draw l ps) else .draw l ps
 | _ => .orc (.region id ops true)
def ccode (P : Program) (nb : Bool) : Code → IR
 | .skip => .skip
 | .label _ => .skip
 | .exit id => .exit id
 | .ret => .ret
 | .region id ops draw => if ops.toList.all nodef then (match crcv ops.toList with
  | some (d, ms) => if draw then .bad else .rcv d ms
  | none => match ciops P ops ops.toList with
   | some l => if draw then cdrawA P id ops else .reg l
   | none => .bad) else if draw then .bad else match cdfr P ops ops.toList.reverse with
  | some (l, x) => .dfr l x
  | none => .bad
 | .seq a b => .seq (ccode P nb a) (ccode P nb b)
 | .cond c a b => match X.of c with
  | some x => .cond x (ccode P nb a) (ccode P nb b)
  | none => .bad
 | .block id a => .block id (ccode P nb a)
 | .loop a => .loop (ccode P nb a)
 | .scope a => ccode P nb a
 | .rangeFunc g ps a b => if nb then (match X.of g with
  | some x => .rng x ps a b (ccode P false a) (ccode P false b)
  | none => .bad) else .bad
 | _ => .bad
theorem cdrawA_cases (P : Program) (id : Nat) (ops : Array Oper) : (∃ l ps, cdrawA P id ops = .draw l ps) ∨ (∃ l ps p, cdrawA P id ops = .drawP l ps p) ∨ (∃ c, cdrawA P id ops = .orc c) ∨ cdrawA P id ops = .bad := by
 unfold cdrawA
 split
 ·split
  ·split
   ·exact .inr (.inl ⟨_, _, _, rfl⟩)
   ·exact .inl ⟨_, _, rfl⟩
  ·exact .inl ⟨_, _, rfl⟩
 ·exact .inr (.inr (.inl ⟨_, rfl⟩))
def cdmax : Code → Nat
 | .region _ ops _ => ops.toList.foldl (fun m o => match o.dst with | some d => max m (d + 1) | none => m) 0
 | _ => 0
section
variable {P : Program} {B0 : Nat} {G : Nat → Option (List AV)}
theorem call_wp {μ : Mu} {h : AH} {w : World} {fr : Fr} {a : Act} {o : Oper} {c : Call} {g : Operand} {g' : FuncId} {first cap xs : List AV} {Q' : AOut → AH → Prop} (r : R B0 G μ h w) {Δ : List Deferred} (f : FrRel Δ μ w fr a)
  (ho : o.op = .call c) (hcal : c.callee = .value g) (hg : aev G fr g = some (.fn (.func g') first cap)) (has : aevs G fr c.args.toList = some xs) (hb : hasBody P g' = true) (hc : CALL P G g' (first ++ xs ++ cap) h Q')
  {K : Act → World → Prop} {Q : Exit → Act → World → Prop}
  (hret : ∀ x h' μ' w' u, Q' (.ret x) h' → Step B0 G μ h w μ' h' w' → V μ' w' x u → K (a.put o.dst u) w')
  (hpan : ∀ x h' μ' w' u, Q' (.pan x) h' → Step B0 G μ h w μ' h' w' → V μ' w' x u → Q (.panic [{ v := u, recovered := false }]) a w') : o.wp P a w K Q := by
 have f' := f.ops r.glob o
 have hgv := f' g (by rw [ho]; simp only [Op.operands, Call.operands, hcal, Array.mem_append]; exact .inl (by simp)) _ hg
 simp only [V] at hgv
 obtain ⟨A, B, hge, hA, hB⟩ := hgv
 have hxs := aevs_V (fun z hz => f' z (by rw [ho]; simp only [Op.operands, Call.operands, Array.mem_append]; exact .inr (by simpa using hz))) has
 have hcall := hc B0 μ w (A.toList ++ c.args.toList.map a.eval ++ B.toList) r ((hA.append hxs).append hB)
 have harr : (A.toList ++ c.args.toList.map a.eval ++ B.toList).toArray = A ++ c.args.map a.eval ++ B := by
  apply Array.ext'; simp
 rw [harr] at hcall
 unfold hasBody at hb
 cases hfn : P.funcs[g']? with
 | none => rw [hfn] at hb; simp at hb
 | some fn =>
  rw [hfn] at hb
  simp only [Bool.and_eq_true, Bool.not_eq_true'] at hb
  obtain ⟨hb1, hb2⟩ := hb
  have hnb : fn.body.isNone = false := by cases hq : fn.body <;> simp [hq] at hb2 ⊢
  unfold Oper.wp
  have hpr : (program).run P w = .ok P w := rfl
  simp only [execOp, ho, resolve, hcal, hge, Deferred.ofValue, Sem.run_bind, Sem.run_pure, Result.andThen_ok, invoke, callFunc, hpr, hfn, hb1, hnb, Bool.false_eq_true, if_false, Oper.upon_enter]
  refine hcall.mono ?_
  rintro e' w' ⟨out, h', q, μ', hs, hout⟩
  cases out with
  | ret x => obtain ⟨u, rfl, hv⟩ := hout; exact hret x h' μ' w' u q hs hv
  | pan x => obtain ⟨u, rfl, hv⟩ := hout; exact hpan x h' μ' w' u q hs hv
theorem tgt_wp {μ : Mu} {h : AH} {w : World} {fr : Fr} {a : Act} {o : Oper} {g : FuncId} {args : List AV} {Q' : AOut → AH → Prop} (r : R B0 G μ h w) {Δ : List Deferred} (f : FrRel Δ μ w fr a) (t : TGT P G fr o g args) (hc : CALL P G g args h Q')
  {K : Act → World → Prop} {Q : Exit → Act → World → Prop}
  (hret : ∀ x h' μ' w' u, Q' (.ret x) h' → Step B0 G μ h w μ' h' w' → V μ' w' x u → K (a.put o.dst u) w')
  (hpan : ∀ x h' μ' w' u, Q' (.pan x) h' → Step B0 G μ h w μ' h' w' → V μ' w' x u → Q (.panic [{ v := u, recovered := false }]) a w') : o.wp P a w K Q := by
 obtain ⟨c, ho, hb, ⟨gx, first, cap, xs, hcal, hg, has, rfl⟩ | ⟨rv, m, t, y, xs, hcal, hr, hm, has, rfl⟩⟩ := t
 ·exact call_wp r f ho hcal hg has hb hc hret hpan
 ·have f' := f.ops r.glob o
  have hrv := f' rv (by rw [ho]; simp only [Op.operands, Call.operands, hcal, Array.mem_append]; exact .inl (by simp)) _ hr
  simp only [V] at hrv
  obtain ⟨z, hze, hz⟩ := hrv
  have hxs := aevs_V (fun z hz => f' z (by rw [ho]; simp only [Op.operands, Call.operands, Array.mem_append]; exact .inr (by simpa using hz))) has
  have hcall := hc B0 μ w (z :: c.args.toList.map a.eval) r ⟨_, _, rfl, hz, hxs⟩
  refine invoke_wp ho hcal hze (mtv_mtd hm).1 hb ?_
  refine hcall.mono ?_
  rintro e' w' ⟨out, h', q, μ', hs, hout⟩
  cases out with
  | ret x => obtain ⟨u, rfl, hv⟩ := hout; exact hret x h' μ' w' u q hs hv
  | pan x => obtain ⟨u, rfl, hv⟩ := hout; exact hpan x h' μ' w' u q hs hv
theorem nocall_ok : CallOk P B0 G fun _ _ _ => none := by
 intro f args h out h' e; cases e
theorem yld_wp {ro : Option Nat} {μ : Mu} {h : AH} {w : World} {fr : Fr} {a : Act} {o : Oper} {c : Call} {g : Operand} {ob : Nat} {xs : List AV} {Q' : AOut → AH → Prop} (r : R B0 G μ h w) {Δ : List Deferred} (f : FrRel Δ μ w fr a) (hd : nodef o = true)
  (ho : o.op = .call c) (hcal : c.callee = .value g) (hg : aev G fr g = some (.yld ob)) (has : aevs G fr c.args.toList = some xs) (hc : CALLY P G ob xs h Q')
  {K : Act → World → Prop} {Q : Exit → Act → World → Prop}
  (hret : ∀ x h' μ' w' u, Q' (.ret x) h' → Step B0 G μ h w μ' h' w' → V μ' w' x u → K (a.put o.dst u) w')
  (hpan : ∀ x h' μ' w' u, Q' (.pan x) h' → Step B0 G μ h w μ' h' w' → V μ' w' x u → Q (.panic [{ v := u, recovered := false }]) a w') : o.wpIn (Fw ro) 0 P a w K Q := by
 have f' := f.ops r.glob o
 have hgv := f' g (by rw [ho]; simp only [Op.operands, Call.operands, hcal, Array.mem_append]; exact .inl (by simp)) _ hg
 simp only [V] at hgv
 obtain ⟨b, hob, hge⟩ := hgv
 have hxs := aevs_V (fun z hz => f' z (by rw [ho]; simp only [Op.operands, Call.operands, Array.mem_append]; exact .inr (by simpa using hz))) has
 obtain ⟨fn, tm, ca, cb, hy, hr⟩ := hc ro B0 μ w _ b r hxs hob
 have harr : (c.args.toList.map a.eval).toArray = c.args.map a.eval := by apply Array.ext'; simp
 rw [harr] at hy
 refine ⟨fun f _ => Fw_fn ro f, ?_⟩
 rw [Oper.semAt_eq _ _ _ (fun c e => by unfold nodef at hd; rw [e] at hd; cases hd)]
 have e : (execOp a.eval o).run P w = .ok (.round b fn tm ca cb) w := by
  simp only [execOp, ho, resolve, hcal, hge, Deferred.ofValue, Sem.run_bind, Sem.run_pure, Result.andThen_ok, invoke]
  simpa using hy
 rw [e]
 refine ⟨Fw_depth ro, hr.mono ?_⟩
 rintro e' w' ⟨out, h', q, μ', hs, hout⟩
 cases out with
 | ret x => obtain ⟨u, rfl, hv⟩ := hout; exact hret x h' μ' w' u q hs hv
 | pan x => obtain ⟨u, rfl, hv⟩ := hout; exact hpan x h' μ' w' u q hs hv
theorem u8s_map : ∀ {cs : List AV} {ns : List Int}, u8s cs = some ns → cs = ns.map fun n => .v (.int .u8 n)
 | [], ns, h => by simp only [u8s, Option.some.injEq] at h; subst h; rfl
 | x :: r, ns, h => by
  unfold u8s at h
  split at h
  ·rename_i q; cases q
  ·rename_i n r' q
   cases q
   obtain ⟨m, hm, rfl⟩ := Option.map_eq_some_iff.1 h
   rw [u8s_map hm]; rfl
  ·cases h
theorem b2s_run {μ : Mu} {h : AH} {w : World} {fr : Fr} {a : Act} {o : Oper} {x : X} {v : AV} {b : ByteArray} (h1 : b2s P o = some x) (h2 : x.ev G fr = some v) (h3 : ib2s h.get v = some b) (r : R B0 G μ h w) {Δ : List Deferred} (f : FrRel Δ μ w fr a) :
  (execOp a.eval o).run P w = .ok (.value (.string b)) w := by
 unfold b2s at h1
 split at h1
 ·rename_i sr d y ho
  split at h1
  ·rename_i e hs hd
   split at h1
   ·rename_i he
    have hv := f.ops r.glob o y (by simp [ho, Op.operands]) v (by rw [X.of_ev h1]; exact h2)
    unfold ib2s at h3
    split at h3
    ·rename_i ob off n
     split at h3
     ·rename_i ty cs hob
      split at h3
      ·rename_i hle
       obtain ⟨ns, hns, rfl⟩ := Option.map_eq_some_iff.1 h3
       simp only [V] at hv
       obtain ⟨bl, c, hbl, hu, hnc⟩ := hv
       obtain ⟨ob', hob', hor⟩ := r.objs ob bl hbl
       rw [hob] at hob'; cases hob'
       obtain ⟨vs, hvs, hV⟩ := hor
       have hns' := u8s_map hns
       have hlen : ns.length = n := by
        have := congrArg List.length hns'
        simp only [List.length_take, List.length_drop, List.length_map] at this
        omega
       have hr := run_convert_bytes_arg (P := P) w sr e hs he bl off n c ns hlen (fun i hi => by
        have hg : cs[off + i]? = some (.v (.int .u8 (ns.getD i 0))) := by
         have := congrArg (·[i]?) hns'
         simp only [List.getElem?_take, if_pos hi, List.getElem?_drop, List.getElem?_map] at this
         rw [this, List.getElem?_eq_getElem (by omega)]
         simp [List.getD, List.getElem?_eq_getElem (show i < ns.length by omega)]
        obtain ⟨u, hu1, hu2⟩ := hV.get _ _ hg
        simp only [V] at hu2
        rw [cell_row hvs]
        rw [← hu2.2]; simpa using hu1) d hd
       simp only [execOp, ho, hu, Sem.run_bind, hr, Result.andThen_ok, Sem.run_pure]
      ·cases h3
     ·cases h3
    ·cases h3
   ·cases h1
  ·cases h1
 ·cases h1
theorem b2s_wp {μ : Mu} {h : AH} {w : World} {fr : Fr} {a : Act} {o : Oper} {K' : AOut → AH → Prop} (s : ∃ x v b, b2s P o = some x ∧ x.ev G fr = some v ∧ ib2s h.get v = some b ∧ K' (.ret (.v (.string b))) h) (r : R B0 G μ h w) {Δ : List Deferred} (f : FrRel Δ μ w fr a)
  {K : Act → World → Prop} {Q : Exit → Act → World → Prop}
  (hret : ∀ x h' μ' w' u, K' (.ret x) h' → Step B0 G μ h w μ' h' w' → V μ' w' x u → K (a.put o.dst u) w') : o.wp P a w K Q := by
 obtain ⟨x, v, b, h1, h2, h3, k⟩ := s
 unfold Oper.wp
 rw [b2s_run h1 h2 h3 r f]
 exact hret _ h μ w _ k (Step.refl r) (by simp [V, plain])
theorem nilT_run {μ : Mu} {h : AH} {w : World} {fr : Fr} {a : Act} {o : Oper} {K : AV → Prop} (s : NILQ P G fr o K) (r : R B0 G μ h w) {Δ : List Deferred} (f : FrRel Δ μ w fr a) :
  ∃ b, K (.v (.bool b)) ∧ (execOp a.eval o).run P w = .ok (.value (.bool b)) w := by
 obtain ⟨ne, x, n, cs, h1, h2, k⟩ := s
 unfold nilT at h1
 split at h1
 ·rename_i op t y yt ho
  have fin : ∀ ne' : Bool, (∃ el, P.underlying t = some (.slice el)) → op = (if ne' then .neq else .eql) → (X.of y).map (fun x => (ne', x)) = some (ne, x) → ∃ b, K (.v (.bool b)) ∧ (execOp a.eval o).run P w = .ok (.value (.bool b)) w := by
   rintro ne' ⟨el, hu⟩ rfl h1
   obtain ⟨x', hx, e⟩ := Option.map_eq_some_iff.1 h1
   obtain ⟨rfl, rfl⟩ := Prod.mk.inj e
   have hv := f.ops r.glob o y (by simp [ho, Op.operands]) _ (by rw [X.of_ev hx]; exact h2)
   simp only [V] at hv
   obtain ⟨A, c, hA, hnc, hC⟩ := hv
   have he : (Op.equalIn (9999 + 1) t (.slice A n c) (.slice none 0 0)).run P w = .ok A.isNone w := by
    rw [Op.equalIn]
    simp only [Sem.run_bind, run_underlying hu, Result.andThen_ok]
    cases A <;> rfl
   obtain ⟨g1, g2, g3, g4⟩ := eql_run (P := P) (w := w) (t := t) (u := .slice A n c) (v := .slice none 0 0) (b := A.isNone) (fun op X Y => by simp [eqGuard]) rfl rfl he y (.const (.slice none 0 0))
   have hcs : A.isNone = true → cs = [] := by
    intro hn
    cases cs with
    | nil => rfl
    | cons z zs =>
     obtain ⟨b, off, rfl, _⟩ := hC (by simp)
     cases hn
   refine ⟨if ne' then !A.isNone else A.isNone, k _ hcs, ?_⟩
   simp only [execOp, ho, hA, show a.eval (.const (.slice none 0 0)) = .slice none 0 0 from rfl]
   cases ne' with
   | true => simp only [if_true, Sem.run_bind, g2, g4, Result.andThen_ok, Sem.run_pure]
   | false => simp only [Bool.false_eq_true, if_false, Sem.run_bind, g1, g3, Result.andThen_ok, Sem.run_pure]
  split at h1
  ·rename_i el hu; exact fin false ⟨el, hu⟩ rfl h1
  ·rename_i el hu; exact fin true ⟨el, hu⟩ rfl h1
  ·cases h1
 ·cases h1
theorem nilT_wp {μ : Mu} {h : AH} {w : World} {fr : Fr} {a : Act} {o : Oper} {K' : AOut → AH → Prop} (s : NILQ P G fr o fun y => K' (.ret y) h) (r : R B0 G μ h w) {Δ : List Deferred} (f : FrRel Δ μ w fr a)
  {K : Act → World → Prop} {Q : Exit → Act → World → Prop}
  (hret : ∀ x h' μ' w' u, K' (.ret x) h' → Step B0 G μ h w μ' h' w' → V μ' w' x u → K (a.put o.dst u) w') : o.wp P a w K Q := by
 obtain ⟨b, k, hr⟩ := nilT_run s r f
 unfold Oper.wp
 rw [hr]
 exact hret _ h μ w _ k (Step.refl r) (by simp [V, plain])
theorem sim_wp {ro : Option Nat} {μ : Mu} {h : AH} {w : World} {fr : Fr} {a : Act} {o : Oper} {K' : AOut → AH → Prop} (s : Sim P G fr h o K') (r : R B0 G μ h w) {Δ : List Deferred} (f : FrRel Δ μ w fr a) (hd : nodef o = true)
  {K : Act → World → Prop} {Q : Exit → Act → World → Prop}
  (hret : ∀ x h' μ' w' u, K' (.ret x) h' → Step B0 G μ h w μ' h' w' → V μ' w' x u → K (a.put o.dst u) w')
  (hpan : ∀ x h' μ' w' u, K' (.pan x) h' → Step B0 G μ h w μ' h' w' → V μ' w' x u → Q (.panic [{ v := u, recovered := false }]) a w') : o.wpIn (Fw ro) 0 P a w K Q := by
 rcases s with ⟨out, h', e, k⟩ | ⟨g, xs, h1, h6⟩ | ⟨c, g, ob, xs, h1, h2, h3, h4, h5⟩ | s | s
 rotate_left 3
 ·exact oper_in hd (b2s_wp s r f hret)
 ·exact oper_in hd (nilT_wp s r f hret)
 ·exact oper_in hd (astep_sound nocall_ok r f e (fun x μ' w' u e => by subst e; exact hret x h' μ' w' u k) (fun x μ' w' u e => by subst e; exact hpan x h' μ' w' u k))
 ·exact oper_in hd (tgt_wp r f h1 h6 hret hpan)
 ·exact yld_wp r f hd h1 h2 h3 h4 h5 hret hpan
theorem gq_sound {ops : Array Oper} {o : Oper} {g : Option (Nat × Bool)} (hg : cguard ops o = some g) {fr : Fr} {A B : Prop} (h : gq fr g A B) : ∃ b, awanted ops fr o = some b ∧ if b then A else B := by
 unfold cguard at hg
 unfold awanted
 split at hg
 ·rename_i h1; cases hg; rw [h1]; exact ⟨true, rfl, h⟩
 ·rename_i j want h1
  rw [h1]
  simp only
  split at hg
  ·rename_i d hd
   cases hg
   obtain ⟨hlt, h⟩ := h
   unfold gknown ayielded
   rw [hd]
   simp only
   rw [if_pos hlt]
   split at h
   ·rename_i c hv
    rw [hv]
    refine ⟨_, rfl, ?_⟩
    cases want <;> cases c <;> simp at h <;> simpa using h
   ·rename_i c hv
    rw [hv]
    exact ⟨_, rfl, by simpa using h⟩
   ·exact h.elim
  ·cases hg
theorem wops_sound {nb : Bool} {ro : Option Nat} {lo : Nat} {Δ : List Deferred} {ops : Array Oper} {Q : Exit → Act → World → Prop} {Q' : Option AV → Fr → AH → Prop} {rest : List Nat} {tl : List Oper} : ∀ (s : Nat) (os : List Oper) (l : List IOp), ciops P ops os = some l → ops.toList.drop s = os ++ tl → ∀ {fr : Fr} {h : AH} {μ : Mu} {w : World} {a : Act},
  (∀ o ∈ os, nodef o = true) → wops P G l fr h Q' → R B0 G μ h w → MK lo μ w Δ → FrRel Δ μ w fr a →
  (∀ a' w' fr' h', Q' none fr' h' → Fin nb B0 G lo Δ μ h w .norm fr' h' .normal a' w' → wpOpsIn (Fw ro) 0 P ops Q rest a' w') → (∀ e a' w' y fr' h', Q' (some y) fr' h' → Fin nb B0 G lo Δ μ h w (.pan y) fr' h' e a' w' → Q e a' w') → wpOpsIn (Fw ro) 0 P ops Q (List.range' s os.length ++ rest) a w
 | s, [], l, hl, hd, fr, h, μ, w, a, hnd, hw, r, mk, f, hq, hpn => by
  simp only [ciops, Option.some.injEq] at hl; subst hl
  simp only [List.length_nil, List.range', List.nil_append]
  exact hq _ _ fr h hw (Fin.one mk (Step.refl r) f rfl)
 | s, o :: os, l, hl, hd, fr, h, μ, w, a, hnd, hw, r, mk, f, hq, hpn => by
  simp only [ciops] at hl
  have hget : ops[s]? = some o := by
   have := congrArg (·[0]?) hd
   simpa using this
  have hd' : ops.toList.drop (s + 1) = os ++ tl := by
   have := congrArg List.tail hd
   simpa using this
  cases h1 : ciop P ops o with
  | none => rw [h1] at hl; simp at hl
  | some i =>
   cases h2 : ciops P ops os with
   | none => rw [h1, h2] at hl; simp at hl
   | some l' =>
    rw [h1, h2] at hl; simp only [Option.some.injEq] at hl; subst hl
    unfold ciop at h1
    cases hcg : cguard ops o with
    | none => rw [hcg] at h1; simp at h1
    | some g =>
     rw [hcg] at h1; simp only [Option.map_some, Option.some.injEq] at h1; subst h1
     simp only [wops] at hw
     obtain ⟨b, hb, hw⟩ := gq_sound hcg hw
     simp only [List.length_cons, List.range', List.cons_append, wpOpsIn, hget]
     rw [wanted_V f hb]
     cases b with
     | true =>
      rw [if_pos rfl]
      refine sim_wp (cop'_sound (by simpa using hw)) r f (hnd o List.mem_cons_self) ?_ ?_
      ·intro x h' μ' w' u k st hv
       simp only [outK_ret] at k
       have hp : ∃ fr', fr.put o.dst x = some fr' ∧ wops P G l' fr' h' Q' := by
        unfold wput at k
        split at k
        ·rename_i hdst; exact ⟨fr, by simp only [hdst, Fr.put], k⟩
        ·rename_i d hdst; exact ⟨fr.set d x, by simp only [hdst, Fr.put]; rw [if_pos k.1], k.2⟩
       obtain ⟨fr', hp, k⟩ := hp
       exact wops_sound (s + 1) os l' h2 hd' (fun o ho => hnd o (List.mem_cons_of_mem _ ho)) k st.r (mk.step st) ((f.mono st.le st.com).put hp hv) (fun a' w'' fr' h' q z => hq a' w'' fr' h' q (z.trans0 st)) fun e a' w'' y fr' h' q z => hpn e a' w'' y fr' h' q (z.trans0 st)
      ·intro x h' μ' w' u k st hv
       simp only [outK_pan] at k
       exact hpn _ _ _ x fr h' k (Fin.one mk st (f.mono st.le st.com) ⟨u, rfl, hv⟩)
     | false =>
      rw [if_neg (by simp)]
      simp only [Bool.false_eq_true, if_false] at hw
      have hp : ∃ fr', fr.put o.dst (.v undef) = some fr' ∧ wops P G l' fr' h Q' := by
       unfold wput at hw
       split at hw
       ·rename_i hdst; exact ⟨fr, by simp only [hdst, Fr.put], hw⟩
       ·rename_i d hdst; exact ⟨fr.set d (.v undef), by simp only [hdst, Fr.put]; rw [if_pos hw.1], hw.2⟩
      obtain ⟨fr', hp, k⟩ := hp
      exact ⟨fun f _ => Fw_fn ro f, wops_sound (s + 1) os l' h2 hd' (fun o ho => hnd o (List.mem_cons_of_mem _ ho)) k r mk (f.put hp undef_V) hq hpn⟩
theorem cop_callval {o : Oper} {c : Call} {g : Operand} {i : I} (ho : o.op = .call c) (hcal : c.callee = .value g) (hc : cop P o = some i) : (∃ f xs, i = .call f xs) ∨ ∃ f xs, i = .callv f xs := by
 unfold cop at hc
 simp only [ho, hcal] at hc
 split at hc
 ·rename_i q; cases q
 ·rename_i q; cases q
 ·split at hc
  ·simp only [Option.bind_eq_bind, Option.bind_eq_some_iff, Option.pure_def, Option.some.injEq] at hc
   obtain ⟨xs, _, rfl⟩ := hc
   exact .inl ⟨_, _, rfl⟩
  ·cases hc
 ·simp only [Option.bind_eq_bind, Option.bind_eq_some_iff, Option.pure_def, Option.some.injEq] at hc
  obtain ⟨f, _, xs, _, rfl⟩ := hc
  exact .inr ⟨_, _, rfl⟩
 ·rename_i q; cases q
 ·rename_i q; cases q
 ·rename_i q; cases q
 ·cases hc
theorem cop_inv {o : Oper} {c : Call} {rv : Operand} {m : String} {i : I} (ho : o.op = .call c) (hcal : c.callee = .invoke rv m) (hc : cop P o = some i) : ∃ r xs, i = .inv m r xs := by
 unfold cop at hc
 simp only [ho, hcal, Option.bind_eq_bind, Option.bind_eq_some_iff, Option.pure_def, Option.some.injEq] at hc
 obtain ⟨r, _, xs, _, rfl⟩ := hc
 exact ⟨_, _, rfl⟩
theorem cop_tgt {fr : Fr} {o : Oper} {g : FuncId} {args : List AV} {i : I} (t : TGT P G fr o g args) (hc : cop P o = some i) : (∃ f xs, i = .call f xs) ∨ (∃ f xs, i = .callv f xs) ∨ ∃ m r xs, i = .inv m r xs := by
 obtain ⟨c, ho, _, ⟨_, _, _, _, hcal, _⟩ | ⟨_, _, _, _, _, hcal, _⟩⟩ := t
 ·rcases cop_callval ho hcal hc with q | q
  ·exact .inl q
  ·exact .inr (.inl q)
 ·obtain ⟨r, xs, q⟩ := cop_inv ho hcal hc
  exact .inr (.inr ⟨_, _, _, q⟩)
theorem cop_noyld {fr : Fr} {o : Oper} {i : I} (hc : cop P o = some i) (hi : ∀ f xs, i = .callv f xs → ∀ ob, f.ev G fr ≠ some (.yld ob)) : ∀ c g ob, o.op = .call c → c.callee = .value g → aev G fr g ≠ some (.yld ob) := by
 intro c g ob ho hcal he
 unfold cop at hc
 simp only [ho, hcal] at hc
 split at hc
 ·rename_i q; cases q
 ·rename_i q; cases q
 ·rename_i q; injection q with q; subst q; simp [aev] at he
 ·simp only [Option.bind_eq_bind, Option.bind_eq_some_iff, Option.pure_def, Option.some.injEq] at hc
  obtain ⟨f, hf, xs, hxx, e⟩ := hc
  rename_i q; injection q with q; subst q
  exact hi _ _ e.symm ob (by rw [← X.of_ev hf]; exact he)
 ·rename_i q; cases q
 ·rename_i q; cases q
 ·rename_i q; cases q
 ·cases hc
open Classical in
theorem sim_out {fr : Fr} {h h' : AH} {o : Oper} {x : AOut} (hnb : b2s P o = none) (hnn : nilT P o = none) (hny : ∀ c g ob, o.op = .call c → c.callee = .value g → aev G fr g ≠ some (.yld ob)) (s : Sim P G fr h o fun q k => q = x ∧ k = h') : ∃ call, (∀ B0, CallOk P B0 G call) ∧ astep P G call fr h o = some (x, h') := by
 rcases s with ⟨out, h1, e, rfl, rfl⟩ | ⟨g', xs, ht, h6⟩ | ⟨c, g, ob, xs, h1, h2, h3, _⟩ | ⟨x, v, b, h1, _⟩ | ⟨ne, x, n, cs, h1, _⟩
 rotate_left 3
 ·rw [hnb] at h1; cases h1
 ·rw [hnn] at h1; cases h1
 rotate_left 2
 ·exact absurd h3 (hny c g ob h1 h2)
 ·exact ⟨_, fun _ => nocall_ok, e⟩
 ·refine ⟨fun f as k => if f = g' ∧ as = xs ∧ k = h then some (x, h') else none, fun B0 f as k out k' e μ w vs r hv => ?_, ?_⟩
  ·simp only at e
   split at e
   ·rename_i hq
    obtain ⟨rfl, rfl, rfl⟩ := hq
    cases e
    exact (h6 B0 μ w vs r hv).mono fun _ _ ⟨o', k2, ⟨e1, e2⟩, p⟩ => by subst e1; subst e2; exact p
   ·cases e
  ·have hk : kindOf o = .e := ht.kind
   unfold astep
   rw [hk]
   obtain ⟨c, h1, h5, ⟨gx, first, cap, ys, h2, h3, h4, rfl⟩ | ⟨rv, m, t, y, ys, h2, h3, h4, h5', rfl⟩⟩ := ht
   ·simp [eop, h1, h2, h3, h4, h5]
   ·simp [eop, h1, h2, h3, h4, h5']
theorem sim_det {fr : Fr} {h h' : AH} {o : Oper} {x : AV} (hnb : b2s P o = none) (hnn : nilT P o = none) (hny : ∀ c g ob, o.op = .call c → c.callee = .value g → aev G fr g ≠ some (.yld ob)) (s : Sim P G fr h o fun q k => q = .ret x ∧ k = h') : ∃ call, (∀ B0, CallOk P B0 G call) ∧ astep P G call fr h o = some (.ret x, h') := sim_out hnb hnn hny s
theorem astep_pan {call : FuncId → List AV → AH → Option (AOut × AH)} {fr : Fr} {h h' : AH} {o : Oper} {x : AV} (e : astep P G call fr h o = some (.pan x, h')) : kindOf o = .e ∧ eop P G call fr h o = some (.pan x, h') := by
 unfold astep at e
 split at e
 ·cases h1 : pop P G fr o <;> rw [h1] at e <;> simp at e
 ·cases h1 : lop P G fr h.get o <;> rw [h1] at e <;> simp at e
 ·cases h1 : mkop P G fr o <;> rw [h1] at e <;> simp at e
 ·rename_i hk; exact ⟨hk, e⟩
theorem cop_nob {o : Oper} {i : I} (hc : cop P o = some i) : b2s P o = none := by
 cases hb : b2s P o with
 | none => rfl
 | some x =>
  exfalso
  unfold b2s at hb
  split at hb
  ·rename_i s d y ho
   split at hb
   ·rename_i e hs hd
    unfold cop at hc
    simp only [ho, hs, hd] at hc
    cases hc
   ·cases hb
  ·cases hb
theorem cop_non {o : Oper} {i : I} (hc : cop P o = some i) : nilT P o = none := by
 cases hb : nilT P o with
 | none => rfl
 | some x =>
  exfalso
  unfold nilT at hb
  split at hb
  ·rename_i op t y yt ho
   split at hb
   ·rename_i el hu
    unfold cop at hc
    simp only [ho, hu] at hc
    cases hc
   ·rename_i el hu
    unfold cop at hc
    simp only [ho, hu] at hc
    cases hc
   ·cases hb
  ·cases hb
theorem idpan_sound {fr : Fr} {h : AH} {o : Oper} {d : Option Nat} {g : Option (Nat × Bool)} {tx : Option X} {K : AV → AH → Prop} (hs : idpan P G fr h (some ⟨d, g, tx, cop' P o⟩) K) :
  g = none ∧ ∃ x h' call, (∀ B0, CallOk P B0 G call) ∧ kindOf o = .e ∧ eop P G call fr h o = some (.pan x, h') ∧ K x h' := by
 unfold cop' at hs
 cases hc : cop P o with
 | none => rw [hc] at hs; simp only [idpan] at hs; cases g <;> exact hs.elim
 | some i =>
  rw [hc] at hs
  cases g with
  | some g => simp only [idpan] at hs
  | none =>
   cases i with
   | call f xs =>
    obtain ⟨ys, hy, x, h', hcall, k⟩ := wv_ex (show wv (X.evs G fr xs) _ from hs)
    obtain ⟨call, h1, h2⟩ := sim_out (x := .pan x) (h' := h') (cop_nob hc) (cop_non hc) (cop_noyld hc fun _ _ e => I.noConfusion e) (cop_sound hc (show wv (X.evs G fr xs) _ by rw [hy]; exact hcall))
    obtain ⟨h3, h4⟩ := astep_pan h2
    exact ⟨rfl, x, h', call, h1, h3, h4, k⟩
   | _ => exact hs.elim
theorem idstep_sound {fr : Fr} {h : AH} {o : Oper} {K : AV → AH → Prop} (hs : idstep P G fr h (cop' P o) K) : ∃ x h' call, (∀ B0, CallOk P B0 G call) ∧ astep P G call fr h o = some (.ret x, h') ∧ K x h' := by
 unfold cop' at hs
 cases hc : cop P o with
 | none =>
  rw [hc] at hs
  obtain ⟨x, e, k⟩ := hs
  exact ⟨x, h, _, fun _ => nocall_ok, e, k⟩
 | some i =>
  rw [hc] at hs
  have oth : istep P G fr h i (outK K fun _ _ => False) → (∀ f xs, i ≠ .call f xs) → (∀ f xs, i ≠ .callv f xs) → (∀ m r xs, i ≠ .inv m r xs) → ∃ x h' call, (∀ B0, CallOk P B0 G call) ∧ astep P G call fr h o = some (.ret x, h') ∧ K x h' := by
   intro hs n1 n2 n3
   rcases cop_sound hc hs with ⟨out, h1, e, k⟩ | ⟨g', xs, ht, _⟩ | ⟨c, g, ob, xs, h1, h2, _⟩ | ⟨x, v, b, h1, _⟩ | ⟨ne, x, n, cs, h1, _⟩
   rotate_left 3
   ·rw [cop_nob hc] at h1; cases h1
   ·rw [cop_non hc] at h1; cases h1
   rotate_left 2
   ·rcases cop_callval h1 h2 hc with ⟨f, xs, e⟩ | ⟨f, xs, e⟩
    ·exact absurd e (n1 f xs)
    ·exact absurd e (n2 f xs)
   ·cases out with
    | ret x => exact ⟨x, h1, _, fun _ => nocall_ok, e, k⟩
    | pan x => exact k.elim
   ·rcases cop_tgt ht hc with ⟨f, xs, e⟩ | ⟨f, xs, e⟩ | ⟨m, r, xs, e⟩
    ·exact absurd e (n1 f xs)
    ·exact absurd e (n2 f xs)
    ·exact absurd e (n3 m r xs)
  cases i with
  | call f xs =>
   obtain ⟨ys, hy, x, h', hcall, k⟩ := wv_ex (show wv (X.evs G fr xs) _ from hs)
   obtain ⟨call, h1, h2⟩ := sim_det (x := x) (h' := h') (cop_nob hc) (cop_non hc) (cop_noyld hc fun _ _ e => I.noConfusion e) (cop_sound hc (show wv (X.evs G fr xs) _ by rw [hy]; exact hcall))
   exact ⟨x, h', call, h1, h2, k⟩
  | callv f xs =>
   obtain ⟨fv, hf, hs⟩ := wv_ex (show wv (f.ev G fr) _ from hs)
   obtain ⟨ys, hy, hs⟩ := wv_ex hs
   cases fv with
   | fn ff first cap => cases ff with
    | func g =>
     obtain ⟨hb, x, h', hcall, k⟩ := hs
     obtain ⟨call, h1, h2⟩ := sim_det (x := x) (h' := h') (cop_nob hc) (cop_non hc) (cop_noyld hc fun f' xs' e ob q => by cases e; rw [hf] at q; cases q) (cop_sound hc (show wv (f.ev G fr) _ by rw [hf]; exact (show wv (X.evs G fr xs) _ by rw [hy]; exact ⟨hb, hcall⟩)))
     exact ⟨x, h', call, h1, h2, k⟩
    | _ => exact hs.elim
   | _ => exact hs.elim
  | inv m r xs =>
   obtain ⟨rv, hr, hs⟩ := wv_ex (show wv (r.ev G fr) _ from hs)
   obtain ⟨ys, hy, hs⟩ := wv_ex hs
   cases rv with
   | ifc t y =>
    obtain ⟨g, hg, x, h', hcall, k⟩ := wv_ex hs
    obtain ⟨call, h1, h2⟩ := sim_det (x := x) (h' := h') (cop_nob hc) (cop_non hc) (cop_noyld hc fun f' xs' e ob q => by cases e) (cop_sound hc (show wv (r.ev G fr) _ by rw [hr]; exact (show wv (X.evs G fr xs) _ by rw [hy]; exact (show wv (mtv P t m) _ by rw [hg]; exact hcall))))
    exact ⟨x, h', call, h1, h2, k⟩
   | _ => exact hs.elim
  | gen o' =>
   obtain ⟨x, e, k⟩ := hs
   exact oth (.inl (by rw [e]; exact k)) (fun _ _ q => I.noConfusion q) (fun _ _ q => I.noConfusion q) (fun _ _ _ q => I.noConfusion q)
  | _ => exact oth hs (fun _ _ e => by cases e) (fun _ _ e => by cases e) (fun _ _ _ e => by cases e)
theorem wdraw_tr {ops : Array Oper} {tl : List Oper} {Q : Fr → AH → List DEnt → Prop} : ∀ (os : List Oper) (s : Nat) (l : List IOp), ciops P ops os = some l → ops.toList.drop s = os ++ tl → ∀ {fr : Fr} {h : AH} {es : List DEnt}, wdraw P G l fr h es Q →
  ∃ (F : Nat → Fr) (H : Nat → AH) (X : Nat → AV) (EX : Nat → Bool) (es' : List DEnt), F s = fr ∧ H s = h ∧ Q (F (s + os.length)) (H (s + os.length)) (es ++ es') ∧ es'.length = os.length ∧
   ∀ k, s ≤ k → k < s + os.length → ∃ o, ops[k]? = some o ∧ es'[k - s]? = some ⟨EX k, touchX G (F k) (ctouch o), H k, H (k + 1)⟩ ∧ awanted ops (F k) o = some (EX k) ∧
    (EX k = true → ∃ call, (∀ B0, CallOk P B0 G call) ∧ astep P G call (F k) (H k) o = some (.ret (X k), H (k + 1))) ∧ (EX k = false → X k = .v undef ∧ H (k + 1) = H k) ∧ (F k).put o.dst (X k) = some (F (k + 1))
 | [], s, l, hl, hd, fr, h, es, hw => by
  simp only [ciops, Option.some.injEq] at hl; subst hl
  exact ⟨fun _ => fr, fun _ => h, fun _ => .v undef, fun _ => false, [], rfl, rfl, by simpa [wdraw] using hw, rfl, fun k h1 h2 => by simp at h2; omega⟩
 | o :: os, s, l, hl, hd, fr, h, es, hw => by
  simp only [ciops] at hl
  have hget : ops[s]? = some o := by
   have := congrArg (·[0]?) hd
   simpa using this
  have hd' : ops.toList.drop (s + 1) = os ++ tl := by
   have := congrArg List.tail hd
   simpa using this
  cases h1 : ciop P ops o with
  | none => rw [h1] at hl; simp at hl
  | some i =>
   cases h2 : ciops P ops os with
   | none => rw [h1, h2] at hl; simp at hl
   | some l' =>
    rw [h1, h2] at hl; simp only [Option.some.injEq] at hl; subst hl
    unfold ciop at h1
    cases hcg : cguard ops o with
    | none => rw [hcg] at h1; simp at h1
    | some g =>
     rw [hcg] at h1; simp only [Option.map_some, Option.some.injEq] at h1; subst h1
     simp only [wdraw] at hw
     obtain ⟨b, hb, hw⟩ := gq_sound hcg hw
     have hone : ∃ x fr' h', wdraw P G l' fr' h' (es ++ [⟨b, touchX G fr (ctouch o), h, h'⟩]) Q ∧ fr.put o.dst x = some fr' ∧ (b = true → ∃ call, (∀ B0, CallOk P B0 G call) ∧ astep P G call fr h o = some (.ret x, h')) ∧ (b = false → x = .v undef ∧ h' = h) := by
      cases b with
      | true =>
       rw [if_pos rfl] at hw
       obtain ⟨x, h', call, hc, ha, k⟩ := idstep_sound hw
       unfold wput at k
       split at k
       ·rename_i hdst; exact ⟨x, fr, h', k, by simp only [hdst, Fr.put], fun _ => ⟨call, hc, ha⟩, fun q => by cases q⟩
       ·rename_i d hdst; exact ⟨x, fr.set d x, h', k.2, by simp only [hdst, Fr.put]; rw [if_pos k.1], fun _ => ⟨call, hc, ha⟩, fun q => by cases q⟩
      | false =>
       simp only [Bool.false_eq_true, if_false] at hw
       unfold wput at hw
       split at hw
       ·rename_i hdst; exact ⟨.v undef, fr, h, hw, by simp only [hdst, Fr.put], (fun q => by cases q), fun _ => ⟨rfl, rfl⟩⟩
       ·rename_i d hdst; exact ⟨.v undef, fr.set d (.v undef), h, hw.2, by simp only [hdst, Fr.put]; rw [if_pos hw.1], (fun q => by cases q), fun _ => ⟨rfl, rfl⟩⟩
     obtain ⟨x, fr', h', hw', hput, hx1, hx2⟩ := hone
     obtain ⟨F, H, X, EX, es', hF, hH, hQ, hlen, hall⟩ := wdraw_tr os (s + 1) l' h2 hd' hw'
     refine ⟨fun i => if i = s then fr else F i, fun i => if i = s then h else H i, fun i => if i = s then x else X i, fun i => if i = s then b else EX i, ⟨b, touchX G fr (ctouch o), h, h'⟩ :: es', by simp, by simp, ?_, by simp [hlen], ?_⟩
     ·have e1 : s + (o :: os).length = s + 1 + os.length := by simp; omega
      rw [e1]
      simp only [show s + 1 + os.length ≠ s from by omega, if_false]
      simpa using hQ
     ·intro k hk1 hk2
      by_cases hks : k = s
      ·subst hks
       refine ⟨o, hget, ?_, ?_, ?_, ?_, ?_⟩
       ·simp [hH]
       ·simpa using hb
       ·intro q
        simp only [if_true] at q
        have := hx1 q
        simpa [hH] using this
       ·intro q
        simp only [if_true] at q
        have := hx2 q
        simpa [hH] using this
       ·simpa [hF] using hput
      ·obtain ⟨o', g1, g2, g3, g4, g5, g6⟩ := hall k (by omega) (by simp at hk2; omega)
       have e2 : k + 1 ≠ s := by omega
       refine ⟨o', g1, ?_, ?_, ?_, ?_, ?_⟩
       ·have : k - s = (k - (s + 1)) + 1 := by omega
        rw [this]
        simp only [List.getElem?_cons_succ, hks, e2, if_false]
        exact g2
       ·simpa [hks] using g3
       ·simpa [hks, e2] using g4
       ·simpa [hks, e2] using g5
       ·simpa [hks, e2] using g6
theorem ctouch_l {o : Oper} {fr : Fr} {ob : Nat} (h : ltouch G fr o = some ob) : touchX G fr (ctouch o) = some ob := by
 have key : ∀ x v, aev G fr x = some v → (match X.of x with | some y => y.ev G fr = some v | none => True) := fun x v e => by
  cases hx : X.of x with
  | none => trivial
  | some y => simp only; rw [← X.of_ev hx]; exact e
 have some' : ∀ x v, aev G fr x = some v → ∃ y, X.of x = some y := fun x v e => by
  cases x with
  | const c => simp only [aev] at e; simp only [X.of, e, Option.map_some]; exact ⟨_, rfl⟩
  | _ => exact ⟨_, rfl⟩
 unfold ltouch at h
 unfold ctouch
 split at h
 ·rename_i t a ho
  split at h
  ·rename_i q off hv
   cases h
   obtain ⟨y, hy⟩ := some' _ _ hv
   simp only [ho, touchX, hy, Option.bind_some, ← X.of_ev hy, hv]
  ·cases h
 ·rename_i t m k ok ho
  split at h
  ·rename_i q hv
   cases h
   obtain ⟨y, hy⟩ := some' _ _ hv
   simp only [ho, touchX, hy, Option.bind_some, ← X.of_ev hy, hv]
  ·cases h
 ·rename_i c ho
  split at h
  ·rename_i x hargs
   split at h
   ·rename_i q hv
    cases h
    obtain ⟨y, hy⟩ := some' _ _ hv
    simp only [ho, hargs, touchX, hy, Option.bind_some, ← X.of_ev hy, hv]
   ·cases h
  ·cases h
 ·cases h
theorem mem_cpairs {ops : Array Oper} {i j : Nat} (hi : i < ops.size) (hj : j < ops.size) (h1 : kindAt ops i = .l ∨ kindAt ops i = .a) (h2 : kindAt ops j = .e) (h3 : (anc ops i).testBit j = false) (h4 : (anc ops j).testBit i = false) : (i, j) ∈ cpairs ops := by
 unfold cpairs
 simp only [List.mem_flatMap, List.mem_filterMap, List.mem_range]
 have h3' : ((ancs ops ops.size).getD i 0).testBit j = false := h3
 have h4' : ((ancs ops ops.size).getD j 0).testBit i = false := h4
 refine ⟨i, hi, j, hj, ?_⟩
 rw [h2, h3', h4']
 rcases h1 with h1 | h1 <;> rw [h1] <;> rfl
theorem wdraw_regN {ops : Array Oper} {N : Nat} (hN : N ≤ ops.size) {l : List IOp} (hl : ciops P ops (ops.toList.take N) = some l) (hst : staticOk ops = true) {pairs : List (Nat × Nat)} (hps : ∀ i j, i < N → j < N → (i, j) ∈ cpairs ops → (i, j) ∈ pairs) {fr : Fr} {h : AH} {Q : Fr → AH → Prop} (hw : wdraw P G l fr h [] fun fr' h' es => drawOk pairs es ∧ Q fr' h') :
  ∃ F H X EX, Reg P B0 G ops N F H X EX ∧ F 0 = fr ∧ H 0 = h ∧ Q (F N) (H N) := by
 obtain ⟨F, H, X, EX, es, hF, hH, ⟨hok, hQ⟩, hlen, hall⟩ := wdraw_tr (tl := ops.toList.drop N) (ops.toList.take N) 0 l hl (by simp) hw
 have hlt : (ops.toList.take N).length = N := by simp; omega
 simp only [Nat.zero_add, hlt, List.nil_append] at hQ hok hlen hall
 have lt : ∀ {i o}, ops[i]? = some o → i < ops.size := fun h => (Array.getElem?_eq_some_iff.1 h).1
 have at' : ∀ i o, i < N → ops[i]? = some o → es[i]? = some ⟨EX i, touchX G (F i) (ctouch o), H i, H (i + 1)⟩ ∧ awanted ops (F i) o = some (EX i) ∧
       (EX i = true → ∃ call, (∀ B0, CallOk P B0 G call) ∧ astep P G call (F i) (H i) o = some (.ret (X i), H (i + 1))) ∧ (EX i = false → X i = .v undef ∧ H (i + 1) = H i) ∧ (F i).put o.dst (X i) = some (F (i + 1)) := fun i o hi ho => by
  obtain ⟨o', g1, g2⟩ := hall i (Nat.zero_le _) hi
  rw [ho] at g1; cases g1
  simpa using g2
 have mem : ∀ i o, i < N → ops[i]? = some o → (⟨EX i, touchX G (F i) (ctouch o), H i, H (i + 1)⟩ : DEnt) ∈ es := fun i o hi ho => List.mem_of_getElem? (at' i o hi ho).1
 have pr : ∀ i j o o', i < N → j < N → ops[i]? = some o → ops[j]? = some o' → (i, j) ∈ cpairs ops → EX i = true → EX j = true → _ := fun i j o o' hi hj ho ho' hm h1 h2 => by
  have := hok.2 (i, j) (hps i j hi hj hm)
  unfold pairOk at this
  simp only [(at' i o hi ho).1, (at' j o' hj ho').1] at this
  exact this h1 h2
 refine ⟨F, H, X, EX, ⟨hN, static_of hst, fun i o hi ho => (at' i o hi ho).2.1, fun i o hi ho hx => ?_, fun i hi hx => ((at' i _ hi (Array.getElem?_eq_getElem (Nat.lt_of_lt_of_le hi hN))).2.2.2.1 hx), fun i o hi ho => (at' i o hi ho).2.2.2.2, fun i hi => ?_, fun i o ob hi ho hk ht => ?_, fun i j o ob hi ho hj h1 h2 h3 h4 h5 hk ht => ?_, fun i j o hi ho hj h1 h2 h3 h4 h5 hk => ?_⟩, hF, hH, hQ⟩
 ·obtain ⟨call, hc, ha⟩ := (at' i o hi ho).2.2.1 hx
  exact ⟨call, hc B0, ha⟩
 ·have := hok.1 _ (mem i _ hi (Array.getElem?_eq_getElem (Nat.lt_of_lt_of_le hi hN)))
  exact ⟨this.1, this.2.1⟩
 ·exact (hok.1 _ (mem i o hi ho)).2.2 ob (ctouch_l ht)
 ·have hkk : kindAt ops i = .l := by simp [kindAt, ho, hk]
  have hjo := Nat.lt_of_lt_of_le hj hN
  exact (pr i j o _ hi hj ho (Array.getElem?_eq_getElem hjo) (mem_cpairs (lt ho) hjo (.inl hkk) h1 h4 h5) h2 h3).1 ob (ctouch_l ht)
 ·have hkk : kindAt ops i = .a := by simp [kindAt, ho, hk]
  have hjo := Nat.lt_of_lt_of_le hj hN
  exact (pr i j o _ hi hj ho (Array.getElem?_eq_getElem hjo) (mem_cpairs (lt ho) hjo (.inr hkk) h1 h4 h5) h2 h3).2
theorem wdraw_reg {ops : Array Oper} {l : List IOp} (hl : ciops P ops ops.toList = some l) (hst : staticOk ops = true) {fr : Fr} {h : AH} {Q : Fr → AH → Prop} (hw : wdraw P G l fr h [] fun fr' h' es => drawOk (cpairs ops) es ∧ Q fr' h') :
  ∃ F H X EX, Reg P B0 G ops ops.size F H X EX ∧ F 0 = fr ∧ H 0 = h ∧ Q (F ops.size) (H ops.size) :=
 wdraw_regN (Nat.le_refl _) (by rw [List.take_of_length_le (by simp)]; exact hl) hst (fun _ _ _ _ q => q) hw
theorem ciops_take {ops : Array Oper} : ∀ (os : List Oper) (l : List IOp) (n : Nat), ciops P ops os = some l → ciops P ops (os.take n) = some (l.take n)
 | [], l, n, h => by simp only [ciops, Option.some.injEq] at h; subst h; simp [ciops]
 | o :: os, l, 0, h => by simp [ciops]
 | o :: os, l, n + 1, h => by
  simp only [ciops] at h
  cases h1 : ciop P ops o with
  | none => rw [h1] at h; simp at h
  | some i =>
   cases h2 : ciops P ops os with
   | none => rw [h1, h2] at h; simp at h
   | some l' =>
    rw [h1, h2] at h; simp only [Option.some.injEq] at h; subst h
    simp only [List.take_succ_cons, ciops, h1, ciops_take os l' n h2]
theorem ciops_at {ops : Array Oper} : ∀ (os : List Oper) (l : List IOp) (n : Nat) (o : Oper), ciops P ops os = some l → os[n]? = some o → ∃ g, cguard ops o = some g ∧ l[n]? = some ⟨o.dst, g, ctouch o, cop' P o⟩
 | [], l, n, o, h, ho => by simp at ho
 | o' :: os, l, n, o, h, ho => by
  simp only [ciops] at h
  cases h1 : ciop P ops o' with
  | none => rw [h1] at h; simp at h
  | some i =>
   cases h2 : ciops P ops os with
   | none => rw [h1, h2] at h; simp at h
   | some l' =>
    rw [h1, h2] at h; simp only [Option.some.injEq] at h; subst h
    cases n with
    | zero =>
     simp only [List.getElem?_cons_zero, Option.some.injEq] at ho ⊢
     subst ho
     unfold ciop at h1
     cases hg : cguard ops o' with
     | none => rw [hg] at h1; simp at h1
     | some g => rw [hg] at h1; simp only [Option.map_some, Option.some.injEq] at h1; exact ⟨g, rfl, h1.symm⟩
    | succ n => simp only [List.getElem?_cons_succ] at ho ⊢; exact ciops_at os l' n o h2 ho
theorem idsts_eq {ops : Array Oper} : ∀ (os : List Oper) (l : List IOp), ciops P ops os = some l → idsts l = os.filterMap (·.dst)
 | [], l, h => by simp only [ciops, Option.some.injEq] at h; subst h; rfl
 | o :: os, l, h => by
  simp only [ciops] at h
  cases h1 : ciop P ops o with
  | none => rw [h1] at h; simp at h
  | some i =>
   cases h2 : ciops P ops os with
   | none => rw [h1, h2] at h; simp at h
   | some l' =>
    rw [h1, h2] at h; simp only [Option.some.injEq] at h; subst h
    unfold ciop at h1
    cases hg : cguard ops o with
    | none => rw [hg] at h1; simp at h1
    | some g =>
     rw [hg] at h1; simp only [Option.map_some, Option.some.injEq] at h1; subst h1
     have := idsts_eq os l' h2
     unfold idsts at this ⊢
     simp only [List.filterMap_cons, this]
theorem mayPan_spec {ops : Array Oper} {p : Nat} (h : mayPan P ops p = true) : ∃ o, ops[p]? = some o ∧ o.guard = none ∧ ∀ j, p < j → j < ops.size → (anc ops j).testBit p = true := by
 unfold mayPan at h
 cases ho : ops[p]? with
 | none => rw [ho] at h; cases h
 | some o =>
  rw [ho] at h
  simp only [Bool.and_eq_true, List.all_eq_true, List.mem_range, Bool.or_eq_true, decide_eq_true_eq, Option.isNone_iff_eq_none] at h
  exact ⟨o, rfl, h.1.1, fun j h1 h2 => by
   rcases h.2 j h2 with q | q
   ·omega
   ·exact q⟩
theorem cdraw1_sound {ops : Array Oper} {nb : Bool} {fr : Fr} {h : AH} {Q : AX → Fr → AH → Prop} (hnd : ∀ o ∈ ops.toList, nodef o = true) (k : iwp P G (cdraw1 P ops) fr h Q) {ro : Option Nat} {lo : Nat} {Δ : List Deferred} {μ : Mu} {w : World} {a : Act} (r : R B0 G μ h w) (m : MK lo μ w Δ) (f : FrRel Δ μ w fr a) :
  wpAnyIn (Fw ro) 0 P .any ops (FinQ nb Q B0 G lo Δ μ h w) ops.size (Array.replicate ops.size false) a { w with drawn := w.drawn + 1 } := by
 unfold cdraw1 at k
 cases hl : ciops P ops ops.toList with
 | none => rw [hl] at k; exact k.elim
 | some l =>
  rw [hl] at k
  simp only at k
  have hk : ComKeep μ w { w with drawn := w.drawn + 1 } := fun _ _ _ => rfl
  have s2 : Step B0 G μ h w μ h { w with drawn := w.drawn + 1 } := R.heap r rfl ⟨rfl, rfl, rfl⟩
  split at k
  ·rename_i hst
   obtain ⟨F, H, X, EX, rg, hF, hH, hQ⟩ := wdraw_reg (B0 := B0) hl hst k
   refine wpAny_in FinQ.no hnd _ _ _ _ (reg_sound rg hF hH rfl rfl s2.r (FrRel.mono (Le.refl μ) hk f) ?_)
   intro μ' a' w' st f'
   exact ⟨.norm, _, _, hQ, Fin.one m (s2.trans st) f' rfl⟩
  ·unfold cdraw at k
   split at k
   ·exact k.elim
   ·rename_i ops' hro
    cases hl : ciops P ops' ops'.toList with
    | none => rw [hl] at k; exact k.elim
    | some l =>
     rw [hl] at k
     simp only at k
     split at k
     ·rename_i hst
      obtain ⟨F, H, X, EX, rg, hF, hH, hQ⟩ := wdraw_reg (B0 := B0) hl hst k
      refine wpAny_in FinQ.no hnd _ _ _ _ (wpAny_reorder hro (reg_sound rg hF hH rfl rfl s2.r (FrRel.mono (Le.refl μ) hk f) ?_))
      intro μ' a' w' st f'
      exact ⟨.norm, _, _, hQ, Fin.one m (s2.trans st) f' rfl⟩
     ·exact k.elim
theorem cdrawP_sound {ops : Array Oper} {l : List IOp} {p : Nat} {nb : Bool} {fr : Fr} {h : AH} {Q : AX → Fr → AH → Prop} (hnd : ∀ o ∈ ops.toList, nodef o = true) (hl : ciops P ops ops.toList = some l) (hst : staticOk ops = true) (hp : mayPan P ops p = true)
  (k : wdraw P G (l.take p) fr h [] fun fr' h' es => drawOk (pre2 p (cpairs ops)) es ∧ idpan P G fr' h' l[p]? fun x h'' => Q (.pan x) (forget fr (idsts l)) h'') {ro : Option Nat} {lo : Nat} {Δ : List Deferred} {μ : Mu} {w : World} {a : Act} (r : R B0 G μ h w) (m : MK lo μ w Δ) (f : FrRel Δ μ w fr a) :
  wpAnyIn (Fw ro) 0 P .any ops (FinQ nb Q B0 G lo Δ μ h w) ops.size (Array.replicate ops.size false) a { w with drawn := w.drawn + 1 } := by
 have hk : ComKeep μ w { w with drawn := w.drawn + 1 } := fun _ _ _ => rfl
 have s2 : Step B0 G μ h w μ h { w with drawn := w.drawn + 1 } := R.heap r rfl ⟨rfl, rfl, rfl⟩
 obtain ⟨o, ho, hg, hwait⟩ := mayPan_spec hp
 have hlt : p < ops.size := (Array.getElem?_eq_some_iff.1 ho).1
 obtain ⟨F, H, X, EX, rg, hF, hH, hQ⟩ := wdraw_regN (B0 := B0) (Nat.le_of_lt hlt) (ciops_take _ _ p hl) hst (pairs := pre2 p (cpairs ops)) (fun i j hi hj q => by
  unfold pre2
  rw [List.mem_filter]
  exact ⟨q, by simp [hi, hj]⟩) k
 obtain ⟨g, hcg, hlo⟩ := ciops_at _ _ p o hl (by rw [Array.getElem?_toList]; exact ho)
 rw [hlo] at hQ
 obtain ⟨_, x, h', call, hc, hko, he, q⟩ := idpan_sound hQ
 refine wpAny_in FinQ.no hnd _ _ _ _ (reg_pan rg hlt hwait hF hH s2.r (FrRel.mono (Le.refl μ) hk f) ho hko hg (hc B0) he ?_)
 intro μ' a' w' u st f' hv
 refine ⟨.pan x, _, _, q, ?_⟩
 rw [idsts_eq _ _ hl]
 exact Fin.one m (s2.trans st) f' ⟨_, rfl, hv⟩
theorem cdrawA_sound (hmix : P.follows .mixedOrders = true) {ops : Array Oper} {id : Nat} {nb : Bool} {fr : Fr} {h : AH} {Q : AX → Fr → AH → Prop} (hnd : ∀ o ∈ ops.toList, nodef o = true) (k : iwp P G (cdrawA P id ops) fr h Q) : WP P G nb (.region id ops true) fr h Q := by
 unfold cdrawA at k
 split at k
 ·rename_i l ps he
  have hbase : iwp P G (.draw l ps) fr h Q → WP P G nb (.region id ops true) fr h Q := fun k => by
   intro ro B0 lo Δ μ w a hr r hlo m f
   exact wpIn_region_any hmix (cdraw1_sound hnd (by rw [he]; exact k) r m f)
  split at k
  ·rename_i hst
   split at k
   ·rename_i p hp
    rcases k with k | k
    ·exact hbase k
    ·have hmp : mayPan P ops p = true := List.find?_some hp
     unfold cdraw1 at he
     cases hl : ciops P ops ops.toList with
     | none => rw [hl] at he; cases he
     | some l2 =>
      rw [hl] at he
      simp only [hst, if_true, IR.draw.injEq] at he
      obtain ⟨rfl, rfl⟩ := he
      intro ro B0 lo Δ μ w a hr r hlo m f
      exact wpIn_region_any hmix (cdrawP_sound hnd hl hst hmp k r m f)
   ·exact hbase k
  ·exact hbase k
 ·exact k nb
theorem iwp_sound (hmix : P.follows .mixedOrders = true) : ∀ (c : Code) (nb : Bool) {fr : Fr} {h : AH} {Q : AX → Fr → AH → Prop}, iwp P G (ccode P nb c) fr h Q → WP P G nb c fr h Q
 | .skip, nb, fr, h, Q, k => WP.skip k
 | .label _, nb, fr, h, Q, k => WP.label k
 | .exit _, nb, fr, h, Q, k => WP.exit k
 | .ret, nb, fr, h, Q, k => WP.ret k
 | .seq a b, nb, fr, h, Q, k => by
  refine WP.seq ((iwp_sound hmix a nb (show iwp P G (ccode P nb a) fr h _ from k)).mono ?_)
  intro x fr h q
  cases x with
  | norm => exact iwp_sound hmix b nb q
  | _ => exact q
 | .cond c a b, nb, fr, h, Q, k => by
  simp only [ccode] at k
  cases hx : X.of c with
  | none => rw [hx] at k; exact k.elim
  | some x =>
   rw [hx] at k
   simp only [iwp] at k
   obtain ⟨v, hv, k⟩ := wv_ex k
   obtain ⟨t, ht, k⟩ := wv_ex k
   rw [ibool_eq ht] at hv
   refine WP.cond ((X.of_ev hx).trans hv) ?_
   cases t with
   | true => exact iwp_sound hmix a nb (k.1 rfl)
   | false => exact iwp_sound hmix b nb (k.2 rfl)
 | .scope a, nb, fr, h, Q, k => WP.scope (iwp_sound hmix a nb (show iwp P G (ccode P nb a) fr h _ from k))
 | .block id a, nb, fr, h, Q, k => WP.block (iwp_sound hmix a nb (show iwp P G (ccode P nb a) fr h _ from k))
 | .loop a, nb, fr, h, Q, k => by
  obtain ⟨J, h0, hs⟩ := (show ∃ I : Nat → Fr → AH → Prop, (∃ n fr0 h0, Drop h fr h fr0 h0 ∧ I n fr0 h0) ∧ ∀ n fr1 h1, I n fr1 h1 → iwp P G (ccode P nb a) fr1 h1 (loopQ I Q n h1) from k)
  exact WP.loop J h0 fun n fr1 h1 hi => iwp_sound hmix a nb (hs n fr1 h1 hi)
 | .region id ops draw, nb, fr, h, Q, k => by
  simp only [ccode] at k
  split at k
  rotate_left
  ·split at k
   ·exact k.elim
   ·split at k <;> exact k.elim
  rename_i hnd
  have hnd : ∀ o ∈ ops.toList, nodef o = true := List.all_eq_true.1 hnd
  split at k
  ·split at k <;> exact k.elim
  rename_i hcr
  clear hcr
  cases hl : ciops P ops ops.toList with
  | none => rw [hl] at k; exact k.elim
  | some l =>
   rw [hl] at k
   cases draw with
   | false =>
    simp only [Bool.false_eq_true, if_false] at k
    intro ro B0 lo Δ μ w a hr r hlo m f
    refine wpIn_region ?_
    have := wops_sound (ro := ro) (lo := lo) (Δ := Δ) (nb := nb) (Q := FinQ nb Q B0 G lo Δ μ h w) (rest := []) (tl := []) 0 ops.toList l hl (by simp) hnd k r m f (fun a' w' fr' h' q z => ⟨.norm, fr', h', q, z⟩) (fun e a' w' y fr' h' q z => ⟨.pan y, fr', h', q, z⟩)
    rw [List.range_eq_range']
    simpa using this
   | true =>
    simp only [if_true] at k
    exact cdrawA_sound hmix hnd k
 | .rangeFunc g ps a b, nb, fr, h, Q, k => by
  simp only [ccode] at k
  cases nb with
  | false => exact k.elim
  | true =>
   simp only [if_true] at k
   cases hx : X.of g with
   | none => rw [hx] at k; exact k.elim
   | some x =>
    rw [hx] at k
    simp only [iwp] at k
    obtain ⟨v, hv, k⟩ := wv_ex k
    split at k
    ·exact WP.range ((X.of_ev hx).trans hv) k.1 (k.2 (fun fr h Q q => iwp_sound hmix a false q) (fun fr h Q q => iwp_sound hmix b false q))
    ·exact k.elim
 | .goto _, nb, fr, h, Q, k => by exact (show False from k).elim
 | .refuse _, nb, fr, h, Q, k => by exact (show False from k).elim
structure IRes where
 t : Nat
 cell : Option (Option Nat)
def ires (fr : Fr) (h : AH) (r : IRes) : Option AV :=
 match r.cell with
 | none => some (fr.get r.t)
 | some row => iload h.get row (fr.get r.t)
def iress (fr : Fr) (h : AH) : List IRes → Option (List AV)
 | [] => some []
 | x :: xs => match ires fr h x, iress fr h xs with
  | some y, some ys => some (y :: ys)
  | _, _ => none
def cres (P : Program) : List ResultVar → Option (List IRes)
 | [] => some []
 | .tmp t :: r => (cres P r).map fun l => ⟨t, none⟩ :: l
 | .cell a t :: r => match rowOf P t, cres P r with
  | some row, some l => some (⟨a, some row⟩ :: l)
  | _, _ => none
def iend (rs : List IRes) (h : AH) (Q : AOut → AH → Prop) : AX → Fr → AH → Prop
 | .norm, fr', h' | .ret, fr', h' => wv (iress fr' h' rs) fun xs => ∃ y h'', DropW h h' h'' ∧ SubB h''.next h''.tnext (aret xs) y ∧ Q (.ret y) h''
 | .pan v, _, h' => ∃ y h'', DropW h h' h'' ∧ SubB h''.next h''.tnext v y ∧ Q (.pan y) h''
 | .exit _, _, _ => False
theorem iress_eq {fr : Fr} {h : AH} : ∀ {rs : List ResultVar} {l : List IRes}, cres P rs = some l → ∀ {xs}, iress fr h l = some xs → aresults P h fr rs = some xs
 | [], l, e, xs, k => by simp only [cres, Option.some.injEq] at e; subst e; simpa [iress, aresults] using k
 | .tmp t :: r, l, e, xs, k => by
  simp only [cres] at e
  cases h1 : cres P r with
  | none => rw [h1] at e; simp at e
  | some l' =>
   rw [h1] at e; simp only [Option.map_some, Option.some.injEq] at e; subst e
   simp only [iress, ires] at k
   cases h2 : iress fr h l' with
   | none => rw [h2] at k; simp at k
   | some ys =>
    rw [h2] at k; simp only [Option.some.injEq] at k; subst k
    simp only [aresults, aresult, iress_eq h1 h2]
 | .cell a t :: r, l, e, xs, k => by
  simp only [cres] at e
  cases h0 : rowOf P t with
  | none => rw [h0] at e; simp at e
  | some row =>
  cases h1 : cres P r with
  | none => rw [h0, h1] at e; simp at e
  | some l' =>
   rw [h0, h1] at e; simp only [Option.some.injEq] at e; subst e
   simp only [iress, ires] at k
   cases h3 : iload h.get row (fr.get a) with
   | none => rw [h3] at k; simp at k
   | some y =>
   cases h2 : iress fr h l' with
   | none => rw [h3, h2] at k; simp at k
   | some ys =>
    rw [h3, h2] at k; simp only [Option.some.injEq] at k; subst k
    have ha : aload P h.get t (fr.get a) = some y := by
     rw [← h3]
     cases hp : fr.get a <;> simp only [aload, iload, acut_row h0]
     all_goals (first | rfl | (rename_i q off; cases hq : h.get q with | none => rfl | some ob => cases ob <;> rfl) | skip)
    simp only [aresults, aresult, ha, iress_eq h1 h2]
structure IFn where
 n : Nat
 rs : List IRes
 ir : IR
def cfunc (P : Program) (f : FuncId) : Option IFn :=
 match P.funcs[f]? with
 | some fn => match fn.body, cres P fn.results.toList with
  | some c, some rs => some ⟨fn.ntmps, rs, ccode P true c⟩
  | _, _ => none
 | none => none
theorem CALL.of_ir (hmix : P.follows .mixedOrders = true) {f : FuncId} {k : IFn} (hf : cfunc P f = some k) {args : List AV} {h : AH} {Q : AOut → AH → Prop} (hw : iwp P G k.ir (Fr.ofArgs k.n args) h (iend k.rs h Q)) : CALL P G f args h Q := by
 unfold cfunc at hf
 split at hf
 ·rename_i fn hfn
  split at hf
  ·rename_i c rs hb hr
   cases hf
   refine CALL.of_wp hfn hb ((iwp_sound hmix c true hw).mono ?_)
   intro x fr' h' q
   cases x with
   | norm => obtain ⟨xs, h1, h2⟩ := wv_ex (show wv (iress fr' h' rs) _ from q); exact ⟨xs, iress_eq hr h1, h2⟩
   | ret => obtain ⟨xs, h1, h2⟩ := wv_ex (show wv (iress fr' h' rs) _ from q); exact ⟨xs, iress_eq hr h1, h2⟩
   | exit j => exact q
   | pan v => exact q
  ·cases hf
 ·cases hf
def PMRel (μ : Mu) (w : World) : Option AV → FrameMode → Prop
 | none, u => u = .returning
 | some x, u => ∃ v, u = .panicking [{ v := v, recovered := false }] ∧ V μ w x v
theorem PMRel.mono {μ μ' : Mu} {w w' : World} (hl : Le μ μ') (hk : ComKeep μ w w') {m : Option AV} {u : FrameMode} (h : PMRel μ w m u) : PMRel μ' w' m u := by
 cases m with
 | none => exact h
 | some x => obtain ⟨v, e, hv⟩ := h; exact ⟨v, e, V.mono hl hk _ _ hv⟩
theorem PMRel.run {μ : Mu} {w : World} {m : Option AV} {u : FrameMode} (h : PMRel μ w m u) : u ≠ .run := by
 cases m with
 | none => rw [show u = .returning from h]; simp
 | some x => obtain ⟨v, e, _⟩ := h; rw [e]; simp
def CALLD (P : Program) (G : Nat → Option (List AV)) (g : FuncId) (args : List AV) (m : Option AV) (h : AH) (Q : Option AV → AH → Prop) : Prop :=
 ∀ B0 μ w vs u, R B0 G μ h w → Vs μ w args vs → PMRel μ w m u → CallsDIn Fence.wide 0 P g vs.toArray u w fun e u' w' => ∃ v, e = .returned v ∧ ∃ m' h', Q m' h' ∧ ∃ μ', Step B0 G μ h w μ' h' w' ∧ PMRel μ' w' m' (settle u')
def DR (μ : Mu) (w : World) : List AV → List Deferred → Prop
 | ds, [] => ds = []
 | ds, d :: Δ => (isMark d ∧ DR μ w ds Δ) ∨ ∃ g cap B ds', ds = .fn (.func g) [] cap :: ds' ∧ d = { target := .fn (.func g) B, args := #[] } ∧ Vs μ w cap B.toList ∧ DR μ w ds' Δ
theorem DR.mono {μ μ' : Mu} {w w' : World} (hl : Le μ μ') (hk : ComKeep μ w w') : ∀ {Δ : List Deferred} {ds : List AV}, DR μ w ds Δ → DR μ' w' ds Δ
 | [], _, h => h
 | d :: Δ, ds, h => by
  rcases h with ⟨h1, h2⟩ | ⟨g, cap, B, ds', h1, h2, h3, h4⟩
  ·exact .inl ⟨h1, h2.mono hl hk⟩
  ·exact .inr ⟨g, cap, B, ds', h1, h2, Vs.mono hl hk _ _ h3, h4.mono hl hk⟩
theorem DR.marks {μ : Mu} {w : World} {ds : List AV} {Δ : List Deferred} (h : DR μ w ds Δ) : ∀ {ms : List Deferred}, (∀ d ∈ ms, isMark d) → DR μ w ds (ms ++ Δ)
 | [], _ => h
 | d :: ms, hm => .inl ⟨hm d List.mem_cons_self, h.marks fun d hd => hm d (List.mem_cons_of_mem _ hd)⟩
def iwpD (P : Program) (G : Nat → Option (List AV)) : IR → List AV → Fr → AH → (List AV → AX → Fr → AH → Prop) → Prop
 | .seq a b, ds, fr, h, Q => iwpD P G a ds fr h fun ds' x fr' h' => match x with
  | .norm => iwpD P G b ds' fr' h' Q
  | x => Q ds' x fr' h'
 | .dfr l x, ds, fr, h, Q => wops P G l fr h fun o fr' h' => match o with
  | none => wv (x.ev G fr') fun g => match g with
   | .fn (.func g) [] cap => hasBody P g = true ∧ Q (.fn (.func g) [] cap :: ds) .norm fr' h'
   | _ => False
  | some p => Q ds (.pan p) fr' h'
 | a, ds, fr, h, Q => iwp P G a fr h (Q ds)
def FinD (Q : List AV → AX → Fr → AH → Prop) (B0 : Nat) (G : Nat → Option (List AV)) (lo : Nat) (μ : Mu) (h : AH) (w : World) : Exit → Act → World → Prop :=
 fun e a' w' => ∃ ds x fr' h', Q ds x fr' h' ∧ ∃ μ' Δ', Step B0 G μ h w μ' h' w' ∧ FrRel Δ' μ' w' fr' a' ∧ MK lo μ' w' Δ' ∧ DR μ' w' ds Δ' ∧ ExRel μ' w' x e
theorem X.of_dfr {o : Oper} {x : X} (h : isDfr o = some x) : ∃ c g, o.op = .defer c ∧ o.guard = none ∧ o.dst = none ∧ c.callee = .value g ∧ c.args.toList = [] ∧ X.of g = some x := by
 unfold isDfr at h
 split at h
 ·rename_i c h1 h2 h3
  split at h
  ·rename_i g h4 h5; exact ⟨c, g, h1, h2, h3, h4, h5, h⟩
  ·cases h
 ·cases h
theorem iwpD_plain (hmix : P.follows .mixedOrders = true) {c : Code} {ds : List AV} {fr : Fr} {h : AH} {Q : List AV → AX → Fr → AH → Prop} (k : iwp P G (ccode P true c) fr h (Q ds)) {lo : Nat} {Δ : List Deferred} {μ : Mu} {w : World} {a : Act} (r : R B0 G μ h w) (hl : lo ≤ w.heap.size) (m : MK lo μ w Δ) (dr : DR μ w ds Δ) (f : FrRel Δ μ w fr a) :
  c.wpIn Fence.wide 0 P (FinD Q B0 G lo μ h w) a w :=
 wpIn_mono (iwp_sound hmix c true k none B0 lo Δ μ w a (fun _ => rfl) r hl m f) fun e a' w' ⟨x, fr', h', q, μ', ms, st, f', m', hms, hex⟩ => ⟨ds, x, fr', h', q, μ', ms ++ Δ, st, f', m', (dr.mono st.le st.com).marks hms.1, hex⟩
theorem iwpD_sound (hmix : P.follows .mixedOrders = true) : ∀ (c : Code) {ds : List AV} {fr : Fr} {h : AH} {Q : List AV → AX → Fr → AH → Prop}, iwpD P G (ccode P true c) ds fr h Q → ∀ {lo : Nat} {Δ : List Deferred} {μ : Mu} {w : World} {a : Act}, R B0 G μ h w → lo ≤ w.heap.size → MK lo μ w Δ → DR μ w ds Δ → FrRel Δ μ w fr a →
  c.wpIn Fence.wide 0 P (FinD Q B0 G lo μ h w) a w
 | .seq c d, ds, fr, h, Q, k, lo, Δ, μ, w, a, r, hl, m, dr, f => by
  refine wpIn_seq (wpIn_mono (iwpD_sound hmix c (show iwpD P G (ccode P true c) ds fr h _ from k) r hl m dr f) ?_)
  rintro ex a1 w1 ⟨ds1, x, fr1, h1, q, μ1, Δ1, st, f1, m1, dr1, hex⟩
  cases x with
  | norm =>
   simp only [ExRel] at hex; subst hex
   exact wpIn_mono (iwpD_sound hmix d q st.r (Nat.le_trans hl st.size) m1 dr1 f1) fun e' a' w' ⟨ds2, x, fr', h', q', μ2, Δ2, st2, f2, m2, dr2, ex2⟩ => ⟨ds2, x, fr', h', q', μ2, Δ2, st.trans st2, f2, m2, dr2, ex2⟩
  | exit id => simp only [ExRel] at hex; subst hex; exact ⟨ds1, _, _, _, q, μ1, Δ1, st, f1, m1, dr1, rfl⟩
  | ret => simp only [ExRel] at hex; subst hex; exact ⟨ds1, _, _, _, q, μ1, Δ1, st, f1, m1, dr1, rfl⟩
  | pan z => obtain ⟨u, rfl, hv⟩ := hex; exact ⟨ds1, _, _, _, q, μ1, Δ1, st, f1, m1, dr1, u, rfl, hv⟩
 | .region id ops draw, ds, fr, h, Q, k, lo, Δ, μ, w, a, r, hl, m, dr, f => by
  by_cases hnd : ops.toList.all nodef = true
  ·refine iwpD_plain hmix ?_ r hl m dr f
   have : ∀ ir, ir = ccode P true (.region id ops draw) → (∀ l x, ir ≠ .dfr l x) → (∀ a b, ir ≠ .seq a b) → iwpD P G ir ds fr h Q → iwp P G ir fr h (Q ds) := by
    intro ir _ h1 h2 k
    cases ir <;> first | exact absurd rfl (h1 _ _) | exact absurd rfl (h2 _ _) | exact k
   refine this _ rfl ?_ ?_ k
   ·intro l x
    rcases cdrawA_cases P id ops with ⟨_, _, e⟩ | ⟨_, _, _, e⟩ | ⟨_, e⟩ | e
    all_goals
     simp only [ccode, hnd, if_true, e]
     repeat' split
     all_goals simp
   ·intro a b
    rcases cdrawA_cases P id ops with ⟨_, _, e⟩ | ⟨_, _, _, e⟩ | ⟨_, e⟩ | e
    all_goals
     simp only [ccode, hnd, if_true, e]
     repeat' split
     all_goals simp
  ·simp only [ccode] at k
   rw [if_neg hnd] at k
   cases draw with
   | true => exact k.elim
   | false =>
   simp only [Bool.false_eq_true, if_false] at k
   cases hr : ops.toList.reverse with
   | nil => rw [hr] at k; exact k.elim
   | cons o os =>
    rw [hr] at k
    simp only [cdfr] at k
    cases hx : isDfr o with
    | none => rw [hx] at k; exact k.elim
    | some x =>
    cases hl' : ciops P ops os.reverse with
    | none => rw [hx, hl'] at k; exact k.elim
    | some l =>
    rw [hx, hl'] at k
    simp only at k
    split at k
    rotate_left
    ·exact k.elim
    rename_i e1 e2
    split at e2
    rotate_left
    ·cases e2
    rename_i hos
    simp only [Option.some.injEq, Prod.mk.injEq] at e2
    obtain ⟨rfl, rfl⟩ := e2
    obtain ⟨c, g, h1, h2, h3, h4, h5, h6⟩ := X.of_dfr hx
    have htl : ops.toList = os.reverse ++ [o] := by
     have := congrArg List.reverse hr
     simpa using this
    have hsz : ops.size = os.reverse.length + 1 := by rw [← Array.length_toList, htl]; simp
    have hget : ops[os.reverse.length]? = some o := by
     rw [← Array.getElem?_toList, htl, List.getElem?_append_right (Nat.le_refl _)]; simp
    refine wpIn_region ?_
    have hrange : List.range ops.size = List.range' 0 os.reverse.length ++ [os.reverse.length] := by
     rw [hsz, List.range_succ, List.range_eq_range']
    rw [hrange]
    have hnd' : ∀ o ∈ os.reverse, nodef o = true := fun o ho => List.all_eq_true.1 hos o (List.mem_reverse.1 ho)
    refine wops_sound (nb := true) (ro := none) (lo := lo) (Δ := Δ) (rest := [os.reverse.length]) (tl := [o]) 0 os.reverse l hl' (by simpa using htl) hnd' k r m f ?_ ?_
    ·rintro a1 w1 fr1 h1' q ⟨μ1, ms, st, f1, m1, hms, hex⟩
     simp only [wpOpsIn, hget]
     obtain ⟨v, hv, q⟩ := wv_ex q
     split at q
     rotate_left
     ·exact q.elim
     rename_i gf cap
     obtain ⟨hbd, q⟩ := q
     have hgv := aev_V st.r.glob f1 ((X.of_ev h6).trans hv)
     simp only [V, Vs] at hgv
     obtain ⟨A, B, hge, hA, hB⟩ := hgv
     have hA' : A = #[] := Array.ext' (by simpa using hA)
     subst hA'
     have hargs : c.args = #[] := Array.ext' (by simpa using h5)
     have hw : Region.wanted o (yielded ops a1.tmps) = true := by simp [Region.wanted, h2]
     rw [if_pos hw]
     refine ⟨fun _ _ => trivial, ?_⟩
     have hsem : (o.semAt (Fw none).round a1.eval) = execOp a1.eval o := Oper.semAt_none _ _
     rw [hsem]
     have hrun : (execOp a1.eval o).run P w1 = .ok (.defer { target := .fn (.func gf) B, args := #[] }) w1 := by
      simp only [execOp, h1, resolve, h4, hge, hargs, Deferred.ofValue, Sem.run_bind, Sem.run_pure, Result.andThen_ok]
      simp
     rw [hrun]
     simp only [Oper.uponIn, h3, Act.put]
     refine ⟨_, .norm, fr1, h1', q, μ1, _ :: (ms ++ Δ), st, ⟨by rw [f1.defers], f1.size, f1.val⟩, ⟨fun d hd b hb => ?_, List.pairwise_cons.2 ⟨fun d _ b b' hb => (by cases hb), m1.dist⟩⟩, .inr ⟨gf, cap, B, ds, rfl, rfl, hB, (dr.mono st.le st.com).marks hms.1⟩, rfl⟩
     rcases List.mem_cons.1 hd with rfl | hd
     ·cases hb
     ·exact m1.at' d hd b hb
    ·rintro e a1 w1 y fr1 h1' q ⟨μ1, ms, st, f1, m1, hms, hex⟩
     exact ⟨ds, .pan y, fr1, h1', q, μ1, ms ++ Δ, st, f1, m1, (dr.mono st.le st.com).marks hms.1, hex⟩
 | .skip, ds, fr, h, Q, k, lo, Δ, μ, w, a, r, hl, m, dr, f => iwpD_plain hmix k r hl m dr f
 | .label _, ds, fr, h, Q, k, lo, Δ, μ, w, a, r, hl, m, dr, f => iwpD_plain hmix k r hl m dr f
 | .exit _, ds, fr, h, Q, k, lo, Δ, μ, w, a, r, hl, m, dr, f => iwpD_plain hmix k r hl m dr f
 | .ret, ds, fr, h, Q, k, lo, Δ, μ, w, a, r, hl, m, dr, f => iwpD_plain hmix k r hl m dr f
 | .block _ _, ds, fr, h, Q, k, lo, Δ, μ, w, a, r, hl, m, dr, f => iwpD_plain hmix k r hl m dr f
 | .loop _, ds, fr, h, Q, k, lo, Δ, μ, w, a, r, hl, m, dr, f => iwpD_plain hmix k r hl m dr f
 | .cond c x y, ds, fr, h, Q, k, lo, Δ, μ, w, a, r, hl, m, dr, f => by
  refine iwpD_plain hmix ?_ r hl m dr f
  simp only [ccode] at k ⊢
  cases hx : X.of c with
  | none => rw [hx] at k; exact k.elim
  | some x => rw [hx] at k; exact k
 | .rangeFunc g ps x y, ds, fr, h, Q, k, lo, Δ, μ, w, a, r, hl, m, dr, f => by
  refine iwpD_plain hmix ?_ r hl m dr f
  simp only [ccode, if_true] at k ⊢
  cases hx : X.of g with
  | none => rw [hx] at k; exact k.elim
  | some x => rw [hx] at k; exact k
 | .scope c, ds, fr, h, Q, k, lo, Δ, μ, w, a, r, hl, m, dr, f => by
  refine wpIn_scope (wpIn_mono (iwpD_sound hmix c (show iwpD P G (ccode P true c) ds fr h _ from k) r hl m dr f) ?_)
  rintro ex a1 w1 ⟨ds1, x, fr1, h1, q, μ1, Δ1, st, f1, m1, dr1, hex⟩
  cases x with
  | norm => simp only [ExRel] at hex; subst hex; exact ⟨ds1, _, _, _, q, μ1, Δ1, st, f1, m1, dr1, rfl⟩
  | exit id => simp only [ExRel] at hex; subst hex; exact ⟨ds1, _, _, _, q, μ1, Δ1, st, f1, m1, dr1, rfl⟩
  | ret => simp only [ExRel] at hex; subst hex; exact ⟨ds1, _, _, _, q, μ1, Δ1, st, f1, m1, dr1, rfl⟩
  | pan z => obtain ⟨u, rfl, hv⟩ := hex; exact ⟨ds1, _, _, _, q, μ1, Δ1, st, f1, m1, dr1, u, rfl, hv⟩
 | .goto _, ds, fr, h, Q, k, lo, Δ, μ, w, a, r, hl, m, dr, f => (show False from k).elim
 | .refuse _, ds, fr, h, Q, k, lo, Δ, μ, w, a, r, hl, m, dr, f => (show False from k).elim
def ileave (P : Program) (G : Nat → Option (List AV)) (rs : List IRes) (h0 : AH) (Q : AOut → AH → Prop) (fr : Fr) : List AV → Option AV → AH → Prop
 | [], none, h => wv (iress fr h rs) fun xs => ∃ y h'', DropW h0 h h'' ∧ SubB h''.next h''.tnext (aret xs) y ∧ Q (.ret y) h''
 | [], some x, h => ∃ y h'', DropW h0 h h'' ∧ SubB h''.next h''.tnext x y ∧ Q (.pan y) h''
 | .fn (.func g) [] cap :: ds, m, h => hasBody P g = true ∧ CALLD P G g cap m h fun m' h' => ileave P G rs h0 Q fr ds m' h'
 | _ :: _, _, _ => False
theorem leave_sound {fn : Func} {rs : List IRes} (hrs : cres P fn.results.toList = some rs) {fr : Fr} {tmps : Array Value} {Q : AOut → AH → Prop} {μ : Mu} {h : AH} {w : World} (r : R B0 G μ h w) : ∀ (Δ : List Deferred) (ds : List AV) (m : Option AV) (u : FrameMode) {μ1 : Mu} {h1 : AH} {w1 : World}, Step B0 G μ h w μ1 h1 w1 → FrRel [] μ1 w1 fr ⟨tmps, []⟩ → MK w.heap.size μ1 w1 Δ → DR μ1 w1 ds Δ → PMRel μ1 w1 m u → ileave P G rs h Q fr ds m h1 →
  LeavesInM Fence.wide 0 P fn tmps (fun e w' => ∃ out h', Q out h' ∧ Post B0 G μ h w out h' e w') Δ u w1
 | [], ds, m, u, μ1, h1, w1, st, f, mk, dr, pm, k => by
  simp only [DR] at dr; subst dr
  unfold LeavesInM
  cases m with
  | none =>
   rw [show u = .returning from pm]
   obtain ⟨xs, hx, y, h2, hd, hs, hq⟩ := wv_ex (show wv (iress fr h1 rs) _ from k)
   obtain ⟨v, hv, hvu⟩ := aret_run (P := P) st.r f (iress_eq hrs hx)
   obtain ⟨μ2, hr, st2⟩ := hd.step r st
   exact ⟨v, hv, .ret y, h2, hq, μ2, st2, v, rfl, hs _ _ _ _ hr hvu⟩
  | some x =>
   obtain ⟨v, hu, hv⟩ := pm
   rw [hu]
   obtain ⟨y, h2, hd, hs, hq⟩ := k
   obtain ⟨μ2, hr, st2⟩ := hd.step r st
   exact ⟨.pan y, h2, hq, μ2, st2, v, rfl, hs _ _ _ _ hr hv⟩
 | d :: Δ, ds, m, u, μ1, h1, w1, st, f, mk, dr, pm, k => by
  unfold LeavesInM
  refine ⟨pm.run, ?_⟩
  rcases dr with ⟨⟨b, rfl⟩, dr⟩ | ⟨g, cap, B, ds', rfl, rfl, hB, dr⟩
  ·left
   obtain ⟨k1, k2, k3, k4⟩ := mk.at' _ List.mem_cons_self b rfl
   obtain ⟨s2, hk⟩ := st.put (y := none) k1 k2 k3 k4
   refine ⟨b, _, rfl, run_takeDeferred k2, leave_sound hrs r Δ ds m u s2 (f.mono (Le.refl _) hk) ⟨fun d hd b' hb' => ?_, (List.pairwise_cons.1 mk.dist).2⟩ (dr.mono (Le.refl _) hk) (pm.mono (Le.refl _) hk) k⟩
   obtain ⟨j1, j2, j3, j4⟩ := mk.at' d (List.mem_cons_of_mem _ hd) b' hb'
   exact ⟨j1, (World.putObj_heap_other fun e => (List.pairwise_cons.1 mk.dist).1 d hd b b' rfl hb' e.symm).trans j2, j3, j4⟩
  ·right
   obtain ⟨hbd, k⟩ := k
   refine ⟨fun q => (by cases q), .func g, B, g, B, rfl, ?_, fun _ _ => trivial, ?_⟩
   ·unfold hasBody at hbd
    cases hfn : P.funcs[g]? with
    | none => rw [hfn] at hbd; simp at hbd
    | some fn' =>
     rw [hfn] at hbd
     simp only [Bool.and_eq_true, Bool.not_eq_true'] at hbd
     obtain ⟨hb1, hb2⟩ := hbd
     have hnb : fn'.body.isNone = false := by cases hq : fn'.body <;> simp [hq] at hb2 ⊢
     have hpr : ∀ w, (program).run P w = .ok P w := fun _ => rfl
     simp only [invoke, callFunc, Sem.run_bind, hpr, Result.andThen_ok, hfn, hb1, hnb, Bool.false_eq_true, if_false, Sem.run_pure]
     simp
   ·have := k B0 μ1 w1 B.toList u st.r hB pm
    simp only [Array.toArray_toList] at this
    refine this.mono ?_
    rintro e u' w2 ⟨v, rfl, m', h2, k2, μ2, st2, pm2⟩
    exact leave_sound hrs r Δ ds' m' (settle u') (st.trans st2) (f.mono st2.le st2.com) ⟨fun d hd => (mk.step st2).at' d (List.mem_cons_of_mem _ hd), (List.pairwise_cons.1 mk.dist).2⟩ (dr.mono st2.le st2.com) pm2 k2
def iendD (P : Program) (G : Nat → Option (List AV)) (rs : List IRes) (h : AH) (Q : AOut → AH → Prop) : List AV → AX → Fr → AH → Prop
 | ds, .norm, fr', h' | ds, .ret, fr', h' => ileave P G rs h Q fr' ds none h'
 | ds, .pan v, fr', h' => ileave P G rs h Q fr' ds (some v) h'
 | _, .exit _, _, _ => False
theorem CALL.of_irD (hmix : P.follows .mixedOrders = true) {f : FuncId} {k : IFn} (hf : cfunc P f = some k) {args : List AV} {h : AH} {Q : AOut → AH → Prop} (hw : iwpD P G k.ir [] (Fr.ofArgs k.n args) h (iendD P G k.rs h Q)) : CALL P G f args h Q := by
 unfold cfunc at hf
 split at hf
 ·rename_i fn hfn
  split at hf
  ·rename_i c rs hb hr
   cases hf
   intro B0 μ w vs r hv
   have f0 := ofArgs_rel (n := fn.ntmps) hv
   refine callsIn_wide.1 (callsIn_of_wp_marks (n := 0) hfn hb trivial (wpIn_mono (iwpD_sound hmix c hw r (Nat.le_refl _) MK.nil rfl f0) ?_))
   rintro ex a1 w1 ⟨ds, x, fr1, h1, q, μ1, Δ1, st, f1, m1, dr1, hex⟩
   have f1' : FrRel [] μ1 w1 fr1 ⟨a1.tmps, []⟩ := ⟨rfl, f1.size, f1.val⟩
   cases x with
   | norm =>
    simp only [ExRel] at hex; subst hex
    show LeavesInM Fence.wide 0 P fn a1.tmps _ a1.defers .returning w1
    rw [f1.defers]; exact leave_sound hr r Δ1 ds none _ st f1' m1 dr1 rfl q
   | ret =>
    simp only [ExRel] at hex; subst hex
    show LeavesInM Fence.wide 0 P fn a1.tmps _ a1.defers .returning w1
    rw [f1.defers]; exact leave_sound hr r Δ1 ds none _ st f1' m1 dr1 rfl q
   | exit j => exact q.elim
   | pan v =>
    obtain ⟨u, rfl, hvu⟩ := hex
    show LeavesInM Fence.wide 0 P fn a1.tmps _ a1.defers (.panicking _) w1
    rw [f1.defers]; exact leave_sound hr r Δ1 ds (some v) _ st f1' m1 dr1 ⟨u, rfl, hvu⟩ q
  ·cases hf
 ·cases hf
def setmv (fr : Fr) : List (Nat × Nat) → Fr
 | [] => fr
 | (d, s) :: ms => setmv (fr.set d (fr.get s)) ms
def rvOf : Option AV → AV
 | none => .v .nilIface
 | some x => x
def noRng : IR → Bool
 | .rng _ _ _ _ _ _ => false
 | .seq a b | .cond _ a b => noRng a && noRng b
 | .block _ a | .loop a => noRng a
 | _ => true
theorem ccode_noRng : ∀ (c : Code), noRng (ccode P true c) = true → ccode P false c = ccode P true c
 | .seq a b, h => by
  simp only [ccode, noRng, Bool.and_eq_true] at h ⊢
  rw [ccode_noRng a h.1, ccode_noRng b h.2]
 | .cond c a b, h => by
  simp only [ccode] at h ⊢
  cases hx : X.of c with
  | none => rfl
  | some x =>
   rw [hx] at h
   simp only [noRng, Bool.and_eq_true] at h ⊢
   rw [ccode_noRng a h.1, ccode_noRng b h.2]
 | .block _ a, h => by simp only [ccode, noRng] at h ⊢; rw [ccode_noRng a h]
 | .loop a, h => by simp only [ccode, noRng] at h ⊢; rw [ccode_noRng a h]
 | .scope a, h => by simp only [ccode] at h ⊢; rw [ccode_noRng a h]
 | .rangeFunc g ps a b, h => by
  simp only [ccode, if_true] at h ⊢
  cases hx : X.of g with
  | none => simp
  | some x => rw [hx] at h; simp [noRng] at h
 | .skip, _ => rfl
 | .label _, _ => rfl
 | .exit _, _ => rfl
 | .ret, _ => rfl
 | .region _ _ _, _ => rfl
 | .goto _, _ => rfl
 | .refuse _, _ => rfl
def recQ (h : AH) (Q : Option AV → AH → Prop) : AX → Fr → AH → Prop
 | .norm, _, h' | .ret, _, h' => ∃ h'', DropW h h' h'' ∧ Q none h''
 | _, _, _ => False
theorem movs_wp {Q : Exit → Act → List Frame → World → Prop} {μ : Mu} {w : World} {cs : List Frame} {ops : Array Oper} : ∀ (os : List Oper) (ms : List (Nat × Nat)) (s : Nat) {fr : Fr} {a : Act}, movsOf os = some ms → ops.toList.drop s = os → (∀ p ∈ ms, p.1 < fr.n) → FrRel [] μ w fr a →
  (∀ a', FrRel [] μ w (setmv fr ms) a' → Q .normal a' cs w) → wpOpsSIn Fence.wide 0 P ops Q (List.range' s os.length) a cs w
 | [], ms, s, fr, a, h, hd, hlt, f, hq => by
  simp only [movsOf, Option.some.injEq] at h; subst h
  exact hq a f
 | o :: os, ms, s, fr, a, h, hd, hlt, f, hq => by
  simp only [movsOf] at h
  cases h1 : movOf o with
  | none => rw [h1] at h; simp at h
  | some p =>
   cases h2 : movsOf os with
   | none => rw [h1, h2] at h; simp at h
   | some ms' =>
    rw [h1, h2] at h; simp only [Option.some.injEq] at h; subst h
    have hget : ops[s]? = some o := by
     have := congrArg (·[0]?) hd
     simpa using this
    have hd' : ops.toList.drop (s + 1) = os := by
     have := congrArg List.tail hd
     simpa using this
    obtain ⟨d, sr⟩ := p
    have hmv : o.guard = none ∧ o.dst = some d ∧ execOp a.eval o = pure (.value (a.eval (.tmp sr))) := by
     unfold movOf at h1
     split at h1
     ·rename_i q1 q2 q3; cases h1; exact ⟨q2, q3, by simp only [execOp, q1]⟩
     ·rename_i q1 q2 q3; cases h1; exact ⟨q2, q3, by simp only [execOp, q1]⟩
     ·cases h1
    simp only [List.length_cons, List.range', wpOpsSIn, hget]
    refine ⟨fun _ _ => trivial, ?_⟩
    have hw : Region.wanted o (yielded ops a.tmps) = true := by simp [Region.wanted, hmv.1]
    rw [if_pos hw, hmv.2.2]
    simp only [Sem.run_pure]
    refine movs_wp (fr := fr.set d (fr.get sr)) os ms' (s + 1) h2 hd' (fun p hp => hlt p (List.mem_cons_of_mem _ hp)) (f.put (d := o.dst) (x := fr.get sr) (fr' := fr.set d (fr.get sr)) ?_ (f.val sr)) hq
    rw [hmv.2.1]; simp only [Fr.put]; rw [if_pos (hlt _ List.mem_cons_self)]
def recShape (P : Program) (g : FuncId) : Bool :=
 match (P.funcs[g]?).bind (·.body) with
 | some (.seq (.region _ _ _) _) => true
 | _ => false
theorem CALLD.of_rec (hmix : P.follows .mixedOrders = true) {g : FuncId} {n d : Nat} {ms : List (Nat × Nat)} {b : IR} (hsh : recShape P g = true) (hf : cfunc P g = some ⟨n, [], .seq (.rcv d ms) b⟩) (hnr : noRng b = true) {args : List AV} (hd : d < max args.length n) (hms : ∀ p ∈ ms, p.1 < max args.length n) {m : Option AV} {h : AH} {Q : Option AV → AH → Prop}
  (k : iwp P G b (setmv ((Fr.ofArgs n args).set d (rvOf m)) ms) h (recQ h Q)) : CALLD P G g args m h Q := by
 unfold cfunc at hf
 split at hf
 ·rename_i fn hfn
  split at hf
  ·rename_i c rs hb hr
   have hsh' : (match some c with | some (.seq (.region _ _ _) _) => true | _ => false) = true := by rw [← hb]; unfold recShape at hsh; rw [hfn] at hsh; exact hsh
   simp only [Option.some.injEq, IFn.mk.injEq] at hf
   obtain ⟨rfl, rfl, hir⟩ := hf
   have hres : fn.results.toList = [] := by
    cases hq : fn.results.toList with
    | nil => rfl
    | cons x xs =>
     rw [hq] at hr
     cases x with
     | tmp t => simp only [cres] at hr; cases hc : cres P xs <;> rw [hc] at hr <;> simp at hr
     | cell a t => simp only [cres] at hr; cases h0 : rowOf P t <;> cases hc : cres P xs <;> rw [h0, hc] at hr <;> simp at hr
   cases c with
   | seq ca cb =>
    simp only [ccode, IR.seq.injEq] at hir
    obtain ⟨hia, hib⟩ := hir
    cases ca with
    | region id ops draw =>
     simp only [ccode] at hia
     split at hia
     rotate_left
     ·split at hia
      ·cases hia
      ·split at hia <;> cases hia
     rename_i hnd
     split at hia
     rotate_left
     ·split at hia
      ·split at hia
       ·rcases cdrawA_cases P id ops with ⟨_, _, e⟩ | ⟨_, _, _, e⟩ | ⟨_, e⟩ | e <;> rw [e] at hia <;> cases hia
       ·cases hia
      ·cases hia
     rename_i hcr
     split at hia
     ·cases hia
     rename_i hdr
     simp only [Bool.not_eq_true] at hdr
     subst hdr
     simp only [IR.rcv.injEq] at hia
     obtain ⟨rfl, rfl⟩ := hia
     intro B0 μ w vs u r hv pm
     have f0 := ofArgs_rel (n := fn.ntmps) hv
     refine callsDIn_of_wpSIn hfn hb trivial fun c₀ cs hu => wpSIn_seq (wpSIn_region ?_)
     cases hops : ops.toList with
     | nil => rw [hops] at hcr; simp [crcv] at hcr
     | cons o os =>
     rw [hops] at hcr
     simp only [crcv] at hcr
     split at hcr
     rotate_left
     ·cases hcr
     rename_i dd mm hrc hmv
     simp only [Option.some.injEq, Prod.mk.injEq] at hcr
     obtain ⟨rfl, rfl⟩ := hcr
     have hget : ops[0]? = some o := by rw [← Array.getElem?_toList, hops]; rfl
     have hsz : ops.size = os.length + 1 := by rw [← Array.length_toList, hops]; rfl
     have hrec : o.guard = none ∧ o.dst = some dd ∧ ∀ (a : Act) w, (execOp a.eval o).run P w = .ok .recover w := by
      unfold isRcv at hrc
      split at hrc
      ·rename_i c q1 q2
       split at hrc
       ·rename_i q3 q4
        refine ⟨q2, hrc, fun a w => ?_⟩
        have hargs : c.args = #[] := Array.ext' (by simpa using q4)
        simp only [execOp, q1, resolve, q3, hargs, Sem.run_bind, Sem.run_pure, Result.andThen_ok, invoke, builtin]
       ·cases hrc
      ·cases hrc
     rw [hsz, List.range_eq_range', List.range'_succ]
     simp only [wpOpsSIn, hget]
     refine ⟨fun _ _ => trivial, ?_⟩
     have hw : ∀ t, Region.wanted o t = true := fun t => by simp [Region.wanted, hrec.1]
     rw [if_pos (hw _), hrec.2.2]
     simp only
     have rest : ∀ (v : Value) (cs' : List Frame) (u' : FrameMode), V μ w (rvOf m) v → cs' = { c₀ with mode := u' } :: cs → settle u' = .returning →
       wpOpsSIn Fence.wide 0 P ops (Exit.thenS (cb.wpSIn Fence.wide 0 P (bodyPostS P fn c₀ cs fun e u' w' => ∃ v, e = .returned v ∧ ∃ m' h', Q m' h' ∧ ∃ μ', Step B0 G μ h w μ' h' w' ∧ PMRel μ' w' m' (settle u'))) (bodyPostS P fn c₀ cs fun e u' w' => ∃ v, e = .returned v ∧ ∃ m' h', Q m' h' ∧ ∃ μ', Step B0 G μ h w μ' h' w' ∧ PMRel μ' w' m' (settle u'))) (List.range' (0 + 1) os.length) (({ tmps := vs.toArray ++ Array.replicate (fn.ntmps - vs.toArray.size) undef, defers := [] } : Act).put o.dst v) cs' w := by
      intro v cs' u' hvv hcs hst
      refine movs_wp os mm 1 hmv (by rw [hops]; rfl) (by simpa [Fr.set, Fr.ofArgs] using hms) (f0.put (d := o.dst) (x := rvOf m) (fr' := (Fr.ofArgs fn.ntmps args).set dd (rvOf m)) ?_ hvv) ?_
      ·rw [hrec.2.1]; simp only [Fr.put]; rw [if_pos (by simpa [Fr.ofArgs] using hd)]
      ·intro a1 f1
       refine wpSIn_of_wpIn rfl (wpIn_mono (iwp_sound hmix cb false (by rw [ccode_noRng cb (by rw [hib]; exact hnr), hib]; exact k) none B0 w.heap.size [] μ w a1 (fun q => by cases q) r (Nat.le_refl _) MK.nil f1) ?_)
       rintro ex a2 w2 ⟨x, fr2, h2, q, μ2, ms2, st, f2, m2, hms2, hex⟩
       have hms0 : ms2 = [] := hms2.2 rfl
       subst hms0
       have hfin : (∃ h'', DropW h h2 h'' ∧ Q none h'') → a2.defers = [] ∧ ∃ u', cs' = { c₀ with mode := u' } :: cs ∧ ∃ v, (results fn a2.tmps).run P w2 = .ok v w2 ∧ ∃ v', Ending.returned v = .returned v' ∧ ∃ m' h', Q m' h' ∧ ∃ μ', Step B0 G μ h w μ' h' w2 ∧ PMRel μ' w2 m' (settle u') := by
        rintro ⟨h3, hdrop, hq⟩
        obtain ⟨μ3, hre, st3⟩ := hdrop.step r st
        refine ⟨f2.defers, u', hcs, ?_⟩
        refine ⟨.tuple #[], ?_, _, rfl, none, h3, hq, μ3, st3, hst⟩
        rw [results_eq, show fn.results = #[] from Array.ext' (by simpa using hres)]
        simp
       cases x with
       | norm => simp only [ExRel] at hex; subst hex; exact hfin q
       | ret => simp only [ExRel] at hex; subst hex; exact hfin q
       | exit j => exact q.elim
       | pan z => exact q.elim
     cases m with
     | none =>
      have hmode : c₀.mode = .returning := hu.trans pm
      have hrd : recoverD (c₀ :: cs) = none := by simp [recoverD, hmode]
      rw [hrd]
      exact rest .nilIface (c₀ :: cs) .returning (by simp [rvOf, V, plain]) (by rw [← hmode]) rfl
     | some x =>
      obtain ⟨v, hu', hv'⟩ := pm
      have hmode : c₀.mode = .panicking [{ v := v, recovered := false }] := hu.trans hu'
      have hrd : recoverD (c₀ :: cs) = some (v, { c₀ with mode := .panicking [{ v := v, recovered := true }] } :: cs) := by simp [recoverD, hmode]
      rw [hrd]
      exact rest v _ _ hv' rfl (by simp [settle])
    | _ => cases hsh'
   | _ => cases hsh'
  ·cases hf
 ·cases hf
end
end Go.Proofs.YtcjlpklgnknpgaaGreatDoor.Pg
