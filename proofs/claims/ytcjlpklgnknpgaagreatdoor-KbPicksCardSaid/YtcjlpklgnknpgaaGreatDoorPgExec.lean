/-
  Pg, part 8: statements, rounds, calls: contracts as predicates, and that the model does the same.
-/
import Derived.Test.YtcjlpklgnknpgaaGreatDoorPgOrder
import Derived.OrdersIn
import Derived.Scope
import Derived.RangeFuncRecord
import Derived.RecoverIn
set_option linter.unusedVariables false
set_option linter.unusedSimpArgs false
namespace Go.Proofs.YtcjlpklgnknpgaaGreatDoor.Pg
open Go
section
inductive AX where
 | norm
 | exit (id : Nat)
 | ret
 | pan (x : AV)
def aresult (P : Program) (h : AH) (fr : Fr) : ResultVar → Option AV
 | .tmp t => some (fr.get t)
 | .cell a t => aload P h.get t (fr.get a)
def aresults (P : Program) (h : AH) (fr : Fr) : List ResultVar → Option (List AV)
 | [] => some []
 | x :: xs => match aresult P h fr x, aresults P h fr xs with
  | some y, some ys => some (y :: ys)
  | _, _ => none
def aret : List AV → AV
 | [x] => x
 | xs => .tup xs
section
variable {P : Program} {B0 : Nat} {G : Nat → Option (List AV)}
def ExRel (μ : Mu) (w : World) : AX → Exit → Prop
 | .norm, e => e = .normal
 | .exit id, e => e = .exit id
 | .ret, e => e = .ret
 | .pan x, e => ∃ u, e = .panic [{ v := u, recovered := false }] ∧ V μ w x u
theorem foldl_set_get : ∀ (l : List AV) (k : Nat) (t : T AV) (i : Nat), ((l.zipIdx k).foldl (fun t p => t.set p.2 p.1) t).get i = if k ≤ i ∧ i < k + l.length then l[i - k]? else t.get i
 | [], k, t, i => by simp; omega
 | x :: l, k, t, i => by
  simp only [List.zipIdx_cons, List.foldl_cons, List.length_cons]
  rw [foldl_set_get l (k + 1)]
  by_cases h1 : k + 1 ≤ i ∧ i < k + 1 + l.length
  ·rw [if_pos h1, if_pos (by omega), show i - k = (i - (k + 1)) + 1 from by omega]; simp
  ·rw [if_neg h1, T.get_set]
   by_cases h2 : i = k
   ·subst h2; simp
   ·rw [if_neg h2, if_neg (by omega)]
theorem Fr.get_ofArgs (n : Nat) (args : List AV) (i : Nat) : (Fr.ofArgs n args).get i = (args[i]?).getD .any := by
 unfold Fr.get Fr.ofArgs
 simp only
 rw [foldl_set_get]
 by_cases h : i < args.length
 ·rw [if_pos (by omega)]; simp
 ·rw [if_neg (by omega), List.getElem?_eq_none (by omega)]; rfl
theorem ofArgs_rel {μ : Mu} {w : World} {n : Nat} {args : List AV} {vs : List Value} (hv : Vs μ w args vs) : FrRel [] μ w (Fr.ofArgs n args) { tmps := vs.toArray ++ Array.replicate (n - vs.toArray.size) undef, defers := [] } := by
 have hl := hv.length
 refine ⟨rfl, by simp [Fr.ofArgs]; omega, fun i => ?_⟩
 rw [Fr.get_ofArgs]
 simp only [Array.getD_eq_getD_getElem?]
 by_cases hi : i < args.length
 ·obtain ⟨u, hu, hx⟩ := hv.get i _ (List.getElem?_eq_getElem hi)
  rw [List.getElem?_eq_getElem hi, Array.getElem?_append_left (by simp; omega)]
  have : vs.toArray[i]? = some u := by simpa using hu
  rw [this]; exact hx
 ·rw [List.getElem?_eq_none (by omega), Array.getElem?_append_right (by simp; omega)]
  simp only [Option.getD_none, V]
def resOf (tmps : Array Value) : ResultVar → Sem Value
 | .tmp t => pure (tmps.getD t undef)
 | .cell p t => do loadVar t (← asAddr (tmps.getD p undef))
theorem results_eq (fn : Func) (tmps : Array Value) : results fn tmps = (do let vs ← fn.results.mapM (resOf tmps); pure (if h : vs.size = 1 then vs[0] else .tuple vs)) := by
 unfold results
 congr 1
theorem aresults_V {μ : Mu} {h : AH} {w : World} {fr : Fr} {a : Act} (r : R B0 G μ h w) {Δ : List Deferred} (f : FrRel Δ μ w fr a) : ∀ {l : List ResultVar} {xs : List AV}, aresults P h fr l = some xs →
  ∃ us : List Value, (l.mapM (resOf a.tmps)).run P w = .ok us w ∧ Vs μ w xs us
 | [], xs, e => by simp [aresults] at e; subst e; exact ⟨[], by simp, by simp [Vs]⟩
 | x :: l, xs, e => by
  simp only [aresults] at e
  cases h1 : aresult P h fr x with
  | none => rw [h1] at e; simp at e
  | some y =>
   cases h2 : aresults P h fr l with
   | none => rw [h1, h2] at e; simp at e
   | some ys =>
    rw [h1, h2] at e; simp at e; subst e
    obtain ⟨us, hr, hv⟩ := aresults_V r f h2
    have hx : ∃ u, (resOf a.tmps x).run P w = .ok u w ∧ V μ w y u := by
     cases x with
     | tmp t => simp only [aresult, Option.some.injEq] at h1; subst h1; exact ⟨_, rfl, f.val t⟩
     | cell p t =>
      simp only [resOf]
      simp only [aresult] at h1
      have hp := f.val p
      obtain ⟨u, hld, hvv⟩ := load_run (P := P) r.objs hp h1
      refine ⟨u, ?_, hvv⟩
      rw [← hld]
      cases hq : fr.get p with
      | ptr o off =>
       rw [hq] at hp; simp only [V] at hp
       obtain ⟨b, _, hb⟩ := hp
       rw [hb]
       simp only [asAddr, Instr.loadAt, Instr.sureAddr, Sem.run_bind, Sem.run_pure, Result.andThen_ok]
      | cptr cs =>
       rw [hq] at hp; simp only [V] at hp
       obtain ⟨b, off, hb, hcs⟩ := hp
       rw [hb]
       simp only [asAddr, Instr.loadAt, Instr.sureAddr, Sem.run_bind, Sem.run_pure, Result.andThen_ok]
      | _ => rw [hq] at h1; simp [aload] at h1
    obtain ⟨u, hu, hvu⟩ := hx
    refine ⟨u :: us, ?_, by simp only [Vs]; exact ⟨u, us, rfl, hvu, hv⟩⟩
    rw [List.mapM_cons]
    simp only [Sem.run_bind, hu, Result.andThen_ok, hr, Sem.run_pure]
theorem aret_run {μ : Mu} {h : AH} {w : World} {fr : Fr} {a : Act} (r : R B0 G μ h w) {Δ : List Deferred} (f : FrRel Δ μ w fr a) {fn : Func} {xs : List AV} (e : aresults P h fr fn.results.toList = some xs) :
  ∃ u, (results fn a.tmps).run P w = .ok u w ∧ V μ w (aret xs) u := by
 obtain ⟨us, hr, hv⟩ := aresults_V r f e
 have hm : (fn.results.mapM (resOf a.tmps)).run P w = .ok us.toArray w := by
  rw [Array.mapM_eq_mapM_toList]
  simp only [Sem.run_map, hr, Result.andThen_ok]
 refine ⟨if h : us.toArray.size = 1 then us.toArray[0] else .tuple us.toArray, ?_, ?_⟩
 ·rw [results_eq]
  simp only [Sem.run_bind, hm, Result.andThen_ok, Sem.run_pure]
 ·have hl := hv.length
  cases xs with
  | nil => simp at hl; subst hl; simp [aret, V, Vs]
  | cons x xs =>
   simp only [Vs] at hv
   obtain ⟨u, us', rfl, hx, hxs⟩ := hv
   cases xs with
   | nil => simp only [Vs] at hxs; subst hxs; simpa [aret] using hx
   | cons y ys =>
    have hl' := hxs.length
    simp only [aret]
    rw [dif_neg (by simp; intro q; rw [q] at hl'; simp at hl')]
    simp only [V]
    exact ⟨_, rfl, by simp only [Vs]; exact ⟨u, us', rfl, hx, by simpa [Vs] using hxs⟩⟩
def Fw : Option Nat → Fence
 | none => Fence.wide
 | some l => Fence.wide.inRound l
theorem Fw_fn (r : Option Nat) (f : FuncId) : (Fw r).fn f := by cases r <;> trivial
theorem Fw_depth (r : Option Nat) : (Fw r).depth.isSome = true → 1 ≤ 0 := by cases r <;> (intro h; cases h)
theorem Fw_calls {r : Option Nat} {f : FuncId} {args : Array Value} {w : World} {Q : Ending → World → Prop} (h : Calls P f args w Q) : CallsIn (Fw r) 0 P f args w Q := by
 cases r with
 | none => exact callsIn_wide.2 h
 | some l => exact callsIn_wide.2 h
theorem Fw_rows {r : Option Nat} {f : String} {args : Array Value} {w : World} {Q : Value → World → Prop} (h : Rows P f args w Q) : RowsIn (Fw r) 0 P f args w Q := by
 have : RowsIn Fence.wide 0 P f args w Q := fun c cs _ => let ⟨v, w', q, s⟩ := h c cs; ⟨v, w', q, stepsIn_wide.2 s⟩
 cases r with
 | none => exact this
 | some l => exact this
def nodef (o : Oper) : Bool :=
 match o.op with
 | .defer _ => false
 | _ => true
theorem oper_in {r : Option Nat} {o : Oper} {a : Act} {w : World} {K : Act → World → Prop} {Q : Exit → Act → World → Prop} (hd : nodef o = true) (h : o.wp P a w K Q) : o.wpIn (Fw r) 0 P a w K Q := by
 refine ⟨fun f _ => Fw_fn r f, ?_⟩
 rw [Oper.semAt_eq _ _ _ (fun c e => by unfold nodef at hd; rw [e] at hd; cases hd)]
 unfold Oper.wp at h
 revert h
 generalize (execOp a.eval o).run P w = x
 intro h
 cases x with
 | ok y w' =>
  cases y <;> first
   | exact h
   | exact h.elim
   | exact ⟨Fw_depth r, Fw_calls (Calls.mono h fun e w'' q => by cases e <;> exact q)⟩
   | exact ⟨Fw_depth r, Fw_rows (Rows.mono h fun _ _ q => q)⟩
 | halt y w' => cases y <;> first | exact h | exact h.elim
theorem wpOp_in {r : Option Nat} {ops : Array Oper} {Q : Exit → Act → World → Prop} (hno : ¬ LetsOut Q) (hd : ∀ o ∈ ops.toList, nodef o = true) {i : Nat} {K K' : Act → World → Prop} {a : Act} {w : World} (hK : ∀ a w, K a w → K' a w) (h : wpOp P ops Q i K a w) : wpOpIn (Fw r) 0 P ops Q i K' a w := by
 unfold wpOp at h
 unfold wpOpIn
 cases ho : ops[i]? with
 | none => rw [ho] at h; exact hK _ _ h
 | some o =>
  rw [ho] at h
  simp only at h ⊢
  split at h
  ·rename_i hw
   rw [if_pos hw]
   rcases h with h | h
   ·refine Oper.wpIn_mono hK (oper_in (hd o ?_) h)
    obtain ⟨hlt, he⟩ := Array.getElem?_eq_some_iff.1 ho
    rw [← he]; exact Array.mem_toList_iff.2 (Array.getElem_mem hlt)
   ·exact absurd h.2 hno
  ·rename_i hw
   rw [if_neg hw]
   exact ⟨fun f _ => Fw_fn r f, hK _ _ h⟩
theorem wpAny_in {r : Option Nat} {ops : Array Oper} {Q : Exit → Act → World → Prop} {md : Region.Mode} (hno : ¬ LetsOut Q) (hd : ∀ o ∈ ops.toList, nodef o = true) : ∀ (fuel : Nat) (l : Array Bool) (a : Act) (w : World), wpAny P md ops Q fuel l a w → wpAnyIn (Fw r) 0 P md ops Q fuel l a w
 | 0, l, a, w, h => h
 | fuel + 1, l, a, w, h => ⟨h.1, fun i hi => wpOp_in hno hd (fun a w => wpAny_in hno hd fuel _ a w) (h.2 i hi)⟩
theorem wpIn_loop_ghost {F : Fence} {n : Nat} {Q : Exit → Act → World → Prop} {a : Act} {w : World} {c : Code} (I : Nat → Act → World → Prop) (n₀ : Nat) (h₀ : I n₀ a w)
  (round : ∀ k a w, I k a w → c.wpIn F n P (Exit.then (fun a' w' => ∃ n', n' < k ∧ I n' a' w') Q) a w) : (Code.loop c).wpIn F n P Q a w := by
 refine wpIn_loop (fun a w => ∃ n, I n a w) (fun a w => leastOf (fun n => I n a w)) ⟨n₀, h₀⟩ ?_
 intro a w hI
 refine wpIn_mono (round _ a w (leastOf_spec hI).1) ?_
 intro e a' w' hq
 cases e with
 | normal =>
  obtain ⟨n', hlt, hI'⟩ := hq
  exact show (∃ n, I n a' w') ∧ leastOf (fun n => I n a' w') < leastOf (fun n => I n a w) from ⟨⟨n', hI'⟩, Nat.lt_of_le_of_lt ((leastOf_spec ⟨n', hI'⟩).2 n' hI') hlt⟩
 | exit id => exact hq
 | goto l => exact hq
 | ret => exact hq
 | panic ch => exact hq
 | outgrown => exact hq
theorem stepR_scope {b : Frame} {a : Act} {k : List Item} {cs : List Frame} {w : World} {c : Code} : step P (lone (b.atR a (.code (.scope c) :: k)) cs w) = .next (lone (b.atR a (.code c :: .inScope c :: k)) cs w) :=
 step_lone_go (by simp [stepG, stepG.exec, Frame.atR])
theorem stepR_inScope {b : Frame} {a : Act} {k : List Item} {cs : List Frame} {w : World} {c : Code} : step P (lone (b.atR a (.inScope c :: k)) cs w) = .next (lone (b.atR a k) cs w) :=
 step_lone_go (by simp [stepG, stepG.exec, Frame.atR])
theorem wpIn_scope {F : Fence} {n : Nat} {Q : Exit → Act → World → Prop} {a : Act} {w : World} {c : Code} (h : c.wpIn F n P (Exit.noGoto Q) a w) : (Code.scope c).wpIn F n P Q a w := by
 intro b k cs hro hb hr
 have h0 : (lone (b.atR a (.code (.scope c) :: k)) cs w).fenced P F := fenced_calm hb hr rfl
 obtain ⟨e, a₁, w₁, hq, harr⟩ := h b (.inScope c :: k) cs hro hb hr
 cases e with
 | normal => exact ⟨.normal, a₁, w₁, hq, .head h0 stepR_scope (StepsIn.trans harr (.one (fenced_calm hb hr rfl) stepR_inScope))⟩
 | exit id =>
  have hx : exitTo id (.inScope c :: k) = exitTo id k := by simp [exitTo]
  exact ⟨.exit id, a₁, w₁, hq, fun k' hk => .head h0 stepR_scope (harr.1 k' (by rw [hx]; exact hk)), fun hr' hk => let ⟨k₁, h1, h2⟩ := harr.2 hr' (by rw [hx]; exact hk); ⟨k₁, h1, .head h0 stepR_scope h2⟩⟩
 | goto l => exact hq.elim
 | ret => exact ⟨_, a₁, w₁, hq, .of_steps (.one h0 stepR_scope) (show ArrivesIn (Machine.fenced P F) P _ b k cs .ret a₁ w₁ from harr)⟩
 | panic ch => exact ⟨_, a₁, w₁, hq, .of_steps (.one h0 stepR_scope) (show ArrivesIn (Machine.fenced P F) P _ b k cs (.panic ch) a₁ w₁ from harr)⟩
 | outgrown => exact ⟨_, a₁, w₁, hq, .of_steps (.one h0 stepR_scope) (show ArrivesIn (Machine.fenced P F) P _ b k cs .outgrown a₁ w₁ from harr)⟩
structure MK (lo : Nat) (μ : Mu) (w : World) (Δ : List Deferred) : Prop where
 at' : ∀ d ∈ Δ, ∀ b, d.target = .collected b → lo ≤ b ∧ w.heap[b]? = some (.deferred (some [])) ∧ (∀ o, μ.obj o ≠ some b) ∧ ∀ t i, μ.tok t = some i → i.b ≠ b
 dist : Δ.Pairwise fun d d' => ∀ b b', d.target = .collected b → d'.target = .collected b' → b ≠ b'
theorem MK.nil {lo : Nat} {μ : Mu} {w : World} : MK lo μ w [] := ⟨fun _ h => (by cases h), .nil⟩
theorem MK.step {lo : Nat} {μ μ' : Mu} {h h' : AH} {w w' : World} {Δ : List Deferred} (m : MK lo μ w Δ) (s : Step B0 G μ h w μ' h' w') : MK lo μ' w' Δ :=
 ⟨fun d hd b hb => (by
  obtain ⟨h1, h2, h3, h4⟩ := m.at' d hd b hb
  have hlt := (Array.getElem?_eq_some_iff.1 h2).1
  refine ⟨h1, (s.keep b hlt h3 h4).trans h2, fun o e => ?_, fun t i e q => ?_⟩
  ·rcases s.newo o b e with q | q
   ·exact h3 o q
   ·omega
  ·rcases s.newt t i e with ⟨j, h5, h6⟩ | ⟨_, h5⟩
   ·exact h4 t j h5 (h6.trans q)
   ·omega), m.dist⟩
def isMark (d : Deferred) : Prop := ∃ b, d = { target := .collected b, args := #[] }
def Marks (nb : Bool) (ms : List Deferred) : Prop := (∀ d ∈ ms, isMark d) ∧ (nb = false → ms = [])
theorem Marks.nil {nb : Bool} : Marks nb [] := ⟨fun _ h => (by cases h), fun _ => rfl⟩
theorem Marks.append {nb : Bool} {a b : List Deferred} (h : Marks nb a) (k : Marks nb b) : Marks nb (a ++ b) :=
 ⟨fun d hd => (List.mem_append.1 hd).elim (h.1 d) (k.1 d), fun e => by rw [h.2 e, k.2 e]; rfl⟩
def Fin (nb : Bool) (B0 : Nat) (G : Nat → Option (List AV)) (lo : Nat) (Δ : List Deferred) (μ : Mu) (h : AH) (w : World) (x : AX) (fr' : Fr) (h' : AH) (e : Exit) (a' : Act) (w' : World) : Prop :=
 ∃ μ' ms, Step B0 G μ h w μ' h' w' ∧ FrRel (ms ++ Δ) μ' w' fr' a' ∧ MK lo μ' w' (ms ++ Δ) ∧ Marks nb ms ∧ ExRel μ' w' x e
theorem Fin.trans {nb : Bool} {lo : Nat} {Δ ms1 : List Deferred} {μ μ1 : Mu} {h : AH} {w w1 : World} {h1 : AH} {x : AX} {fr' : Fr} {h' : AH} (s : Step B0 G μ h w μ1 h1 w1) (hm : Marks nb ms1) {e : Exit} {a' : Act} {w' : World} (k : Fin nb B0 G lo (ms1 ++ Δ) μ1 h1 w1 x fr' h' e a' w') : Fin nb B0 G lo Δ μ h w x fr' h' e a' w' := by
 obtain ⟨μ', ms, s', f, m, hms, ex⟩ := k
 exact ⟨μ', ms ++ ms1, s.trans s', by rw [List.append_assoc]; exact f, by rw [List.append_assoc]; exact m, hms.append hm, ex⟩
theorem Fin.trans0 {nb : Bool} {lo : Nat} {Δ : List Deferred} {μ μ1 : Mu} {h : AH} {w w1 : World} {h1 : AH} {x : AX} {fr' : Fr} {h' : AH} (s : Step B0 G μ h w μ1 h1 w1) {e : Exit} {a' : Act} {w' : World} (k : Fin nb B0 G lo Δ μ1 h1 w1 x fr' h' e a' w') : Fin nb B0 G lo Δ μ h w x fr' h' e a' w' :=
 Fin.trans (ms1 := []) s Marks.nil k
theorem Fin.one {nb : Bool} {lo : Nat} {Δ : List Deferred} {μ μ' : Mu} {h h' : AH} {w w' : World} {x : AX} {fr' : Fr} {e : Exit} {a' : Act} (m : MK lo μ w Δ) (s : Step B0 G μ h w μ' h' w') (f : FrRel Δ μ' w' fr' a') (ex : ExRel μ' w' x e) : Fin nb B0 G lo Δ μ h w x fr' h' e a' w' :=
 ⟨μ', [], s, f, m.step s, Marks.nil, ex⟩
def FinQ (nb : Bool) (Q : AX → Fr → AH → Prop) (B0 : Nat) (G : Nat → Option (List AV)) (lo : Nat) (Δ : List Deferred) (μ : Mu) (h : AH) (w : World) : Exit → Act → World → Prop :=
 fun e a' w' => ∃ x fr' h', Q x fr' h' ∧ Fin nb B0 G lo Δ μ h w x fr' h' e a' w'
theorem FinQ.no {nb : Bool} {Q : AX → Fr → AH → Prop} {lo : Nat} {Δ : List Deferred} {μ : Mu} {h : AH} {w : World} : ¬ LetsOut (FinQ nb Q B0 G lo Δ μ h w) := by
 rintro ⟨a, w', x, fr', h', _, μ', ms, _, _, _, _, ex⟩
 cases x with
 | pan x => obtain ⟨u, q, _⟩ := ex; cases q
 | _ => cases ex
end
end
section
set_option linter.unusedSectionVars false
section
variable {P : Program} {B0 : Nat} {G : Nat → Option (List AV)}
def CALL (P : Program) (G : Nat → Option (List AV)) (f : FuncId) (args : List AV) (h : AH) (Q : AOut → AH → Prop) : Prop :=
 ∀ B0 μ w vs, R B0 G μ h w → Vs μ w args vs → Calls P f vs.toArray w fun e w' => ∃ out h', Q out h' ∧ Post B0 G μ h w out h' e w'
theorem CALL.mono {f : FuncId} {args : List AV} {h : AH} {Q Q' : AOut → AH → Prop} (c : CALL P G f args h Q) (hq : ∀ o h', Q o h' → Q' o h') : CALL P G f args h Q' :=
 fun B0 μ w vs r hv => (c B0 μ w vs r hv).mono fun _ _ ⟨o, h', q, p⟩ => ⟨o, h', hq o h' q, p⟩
def WP (P : Program) (G : Nat → Option (List AV)) (nb : Bool) (c : Code) (fr : Fr) (h : AH) (Q : AX → Fr → AH → Prop) : Prop :=
 ∀ r B0 lo Δ μ w a, (nb = true → r = none) → R B0 G μ h w → lo ≤ w.heap.size → MK lo μ w Δ → FrRel Δ μ w fr a → c.wpIn (Fw r) 0 P (FinQ nb Q B0 G lo Δ μ h w) a w
def thenQ (K : Fr → AH → Prop) (Q : AX → Fr → AH → Prop) : AX → Fr → AH → Prop
 | .norm, fr, h => K fr h
 | .exit j, fr, h => Q (.exit j) fr h
 | .ret, fr, h => Q .ret fr h
 | .pan x, fr, h => Q (.pan x) fr h
def blockQ (id : Nat) (Q : AX → Fr → AH → Prop) : AX → Fr → AH → Prop
 | .exit j, fr, h => if j = id then Q .norm fr h else Q (.exit j) fr h
 | .norm, fr, h => Q .norm fr h
 | .ret, fr, h => Q .ret fr h
 | .pan x, fr, h => Q (.pan x) fr h
variable {nb : Bool} {fr : Fr} {h : AH} {Q : AX → Fr → AH → Prop} {c d : Code}
theorem WP.mono {Q' : AX → Fr → AH → Prop} (k : WP P G nb c fr h Q) (hq : ∀ x fr h, Q x fr h → Q' x fr h) : WP P G nb c fr h Q' :=
 fun r B0 lo Δ μ w a hr hR hl hm hf => wpIn_mono (k r B0 lo Δ μ w a hr hR hl hm hf) fun _ _ _ ⟨x, fr', h', q, z⟩ => ⟨x, fr', h', hq _ _ _ q, z⟩
theorem WP.skip (q : Q .norm fr h) : WP P G nb .skip fr h Q := fun _ _ _ _ μ _ _ _ r _ m f => wpIn_skip ⟨.norm, fr, h, q, Fin.one m (Step.refl r) f rfl⟩
theorem WP.label {l : Nat} (q : Q .norm fr h) : WP P G nb (.label l) fr h Q := fun _ _ _ _ μ _ _ _ r _ m f => wpIn_label ⟨.norm, fr, h, q, Fin.one m (Step.refl r) f rfl⟩
theorem WP.exit {id : Nat} (q : Q (.exit id) fr h) : WP P G nb (.exit id) fr h Q := fun _ _ _ _ μ _ _ _ r _ m f => wpIn_exit ⟨.exit id, fr, h, q, Fin.one m (Step.refl r) f rfl⟩
theorem WP.ret (q : Q .ret fr h) : WP P G nb .ret fr h Q := fun _ _ _ _ μ _ _ _ r _ m f => wpIn_ret ⟨.ret, fr, h, q, Fin.one m (Step.refl r) f rfl⟩
theorem WP.seq (k : WP P G nb c fr h (thenQ (fun fr h => WP P G nb d fr h Q) Q)) : WP P G nb (.seq c d) fr h Q := fun ro B0 lo Δ μ w a hr r hl m f => by
 refine wpIn_seq (wpIn_mono (k ro B0 lo Δ μ w a hr r hl m f) ?_)
 rintro ex a1 w1 ⟨x, fr1, h1, q, μ1, ms, st, f1, m1, hms, hex⟩
 cases x with
 | norm =>
  simp only [ExRel] at hex; subst hex
  exact wpIn_mono (q ro B0 lo (ms ++ Δ) μ1 w1 a1 hr st.r (Nat.le_trans hl st.size) m1 f1) fun e' a' w' ⟨x, fr', h', q', z⟩ => ⟨x, fr', h', q', z.trans st hms⟩
 | exit id => simp only [ExRel] at hex; subst hex; exact ⟨_, _, _, q, μ1, ms, st, f1, m1, hms, rfl⟩
 | ret => simp only [ExRel] at hex; subst hex; exact ⟨_, _, _, q, μ1, ms, st, f1, m1, hms, rfl⟩
 | pan z => obtain ⟨u, rfl, hv⟩ := hex; exact ⟨_, _, _, q, μ1, ms, st, f1, m1, hms, u, rfl, hv⟩
theorem WP.cond {o : Operand} {b : Bool} (e : aev G fr o = some (.v (.bool b))) (k : WP P G nb (if b then c else d) fr h Q) : WP P G nb (.cond o c d) fr h Q := fun ro B0 lo Δ μ w a hr r hl m f => by
 have hv := aev_V r.glob f e
 simp only [V] at hv
 exact wpIn_cond hv.2 (by have := k ro B0 lo Δ μ w a hr r hl m f; cases b <;> exact this)
theorem WP.block {id : Nat} (k : WP P G nb c fr h (blockQ id Q)) : WP P G nb (.block id c) fr h Q := fun ro B0 lo Δ μ w a hr r hl m f => by
 refine wpIn_block (wpIn_mono (k ro B0 lo Δ μ w a hr r hl m f) ?_)
 rintro ex a1 w1 ⟨x, fr1, h1, q, μ1, ms, st, f1, m1, hms, hex⟩
 cases x with
 | norm => simp only [ExRel] at hex; subst hex; exact ⟨_, _, _, q, μ1, ms, st, f1, m1, hms, rfl⟩
 | exit j =>
  simp only [ExRel] at hex; subst hex
  simp only [Exit.inBlock]
  simp only [blockQ] at q
  by_cases hj : j = id
  ·rw [if_pos hj] at q ⊢; exact ⟨_, _, _, q, μ1, ms, st, f1, m1, hms, rfl⟩
  ·rw [if_neg hj] at q ⊢; exact ⟨_, _, _, q, μ1, ms, st, f1, m1, hms, rfl⟩
 | ret => simp only [ExRel] at hex; subst hex; exact ⟨_, _, _, q, μ1, ms, st, f1, m1, hms, rfl⟩
 | pan z => obtain ⟨u, rfl, hv⟩ := hex; exact ⟨_, _, _, q, μ1, ms, st, f1, m1, hms, u, rfl, hv⟩
theorem WP.scope (k : WP P G nb c fr h Q) : WP P G nb (.scope c) fr h Q := fun ro B0 lo Δ μ w a hr r hl m f => by
 refine wpIn_scope (wpIn_mono (k ro B0 lo Δ μ w a hr r hl m f) ?_)
 rintro ex a1 w1 ⟨x, fr1, h1, q, μ1, ms, st, f1, m1, hms, hex⟩
 cases x with
 | norm => simp only [ExRel] at hex; subst hex; exact ⟨_, _, _, q, μ1, ms, st, f1, m1, hms, rfl⟩
 | exit j => simp only [ExRel] at hex; subst hex; exact ⟨_, _, _, q, μ1, ms, st, f1, m1, hms, rfl⟩
 | ret => simp only [ExRel] at hex; subst hex; exact ⟨_, _, _, q, μ1, ms, st, f1, m1, hms, rfl⟩
 | pan z => obtain ⟨u, rfl, hv⟩ := hex; exact ⟨_, _, _, q, μ1, ms, st, f1, m1, hms, u, rfl, hv⟩
structure Restr (no nt : Nat) (μ μ' : Mu) : Prop where
 obj : ∀ o, μ'.obj o = if o < no then μ.obj o else none
 tok : ∀ t, μ'.tok t = if t < nt then μ.tok t else none
 com : ∀ b off, μ'.com b off ↔ μ.com b off
def SubB (no nt : Nat) (x y : AV) : Prop := ∀ μ μ' w u, Restr no nt μ μ' → V μ w x u → V μ' w y u
def SubBs (no nt : Nat) : List AV → List AV → Prop
 | [], [] => True
 | x :: xs, y :: ys => SubB no nt x y ∧ SubBs no nt xs ys
 | _, _ => False
theorem SubBs.Vs {no nt : Nat} : ∀ {xs ys : List AV}, SubBs no nt xs ys → ∀ {μ μ' : Mu} {w : World} {us : List Value}, Restr no nt μ μ' → Vs μ w xs us → Vs μ' w ys us
 | [], [], _, μ, μ', w, us, _, hv => by simp only [Pg.Vs] at hv ⊢; exact hv
 | x :: xs, y :: ys, hs, μ, μ', w, us, hr, hv => by
  simp only [Pg.Vs] at hv ⊢
  obtain ⟨u, us', e, h1, h2⟩ := hv
  exact ⟨u, us', e, hs.1 μ μ' w u hr h1, hs.2.Vs hr h2⟩
 | [], _ :: _, hs, _, _, _, _, _, _ => hs.elim
 | _ :: _, [], hs, _, _, _, _, _, _ => hs.elim
theorem SubBs.Cells {no nt : Nat} : ∀ {xs ys : List AV}, SubBs no nt xs ys → ∀ {μ μ' : Mu} {w : World} {b off : Nat}, Restr no nt μ μ' → Cells μ w xs b off → Cells μ' w ys b off
 | [], [], _, μ, μ', w, b, off, _, hv => by simp only [Pg.Cells]
 | x :: xs, y :: ys, hs, μ, μ', w, b, off, hr, hv => by
  simp only [Pg.Cells] at hv ⊢
  obtain ⟨h0, ⟨u, hu, h1⟩, h2⟩ := hv
  exact ⟨(hr.com _ _).2 h0, ⟨u, hu, hs.1 μ μ' w u hr h1⟩, hs.2.Cells hr h2⟩
 | [], _ :: _, hs, _, _, _, _, _, _, _ => hs.elim
 | _ :: _, [], hs, _, _, _, _, _, _, _ => hs.elim
def OSub (no nt : Nat) : AObj → AObj → Prop
 | .cells e xs, .cells e' ys => e = e' ∧ SubBs no nt xs ys
 | .map es, .map es' => es.map (·.1) = es'.map (·.1) ∧ SubBs no nt (es.map (·.2)) (es'.map (·.2))
 | _, .dead => True
 | _, _ => False
theorem OSub.ORel {no nt : Nat} {ob ob' : AObj} (hs : OSub no nt ob ob') {μ μ' : Mu} {w : World} {b : Nat} (hr : Restr no nt μ μ') (ho : ORel μ w ob b) : ORel μ' w ob' b := by
 cases ob' with
 | dead => exact ho.lt
 | cells e' ys =>
  cases ob with
  | cells e xs =>
   obtain ⟨rfl, hs⟩ := hs
   obtain ⟨vs, hv, hc⟩ := ho
   exact ⟨vs, hv, hs.Vs hr hc⟩
  | _ => exact hs.elim
 | map es' =>
  cases ob with
  | map es =>
   obtain ⟨hk, hs⟩ := hs
   obtain ⟨ents, clock, hv, hB, hk', hc⟩ := ho
   exact ⟨ents, clock, hv, hB, hk'.trans hk, hs.Vs hr hc⟩
  | _ => exact hs.elim
 | loop => cases ob <;> exact hs.elim
section
variable {μ0 μ1 μ2 : Mu} (hobj : ∀ o, μ0.obj o ≠ none → μ2.obj o = μ1.obj o) (htok : ∀ t, μ0.tok t ≠ none → μ2.tok t = μ1.tok t) (hcom : ∀ b off, μ1.com b off → μ2.com b off)
include hobj htok hcom
mutual
theorem V.dom {w0 w : World} : ∀ (x : AV) (u0 u : Value), V μ0 w0 x u0 → V μ1 w x u → V μ2 w x u
 | .v _, _, _, _, hv => by simp only [V] at hv ⊢; exact hv
 | .ptr o off, _, _, h0, hv => by
  simp only [V] at h0 hv ⊢
  obtain ⟨b0, e0, _⟩ := h0
  obtain ⟨b, e, eu⟩ := hv
  exact ⟨b, (hobj o (by rw [e0]; simp)).trans e, eu⟩
 | .arr o off n, _, _, h0, hv => by
  simp only [V] at h0 hv ⊢
  obtain ⟨b0, _, e0, _⟩ := h0
  obtain ⟨b, c, e, eu⟩ := hv
  exact ⟨b, c, (hobj o (by rw [e0]; simp)).trans e, eu⟩
 | .mp o, _, _, h0, hv => by
  simp only [V] at h0 hv ⊢
  obtain ⟨b0, e0, _⟩ := h0
  obtain ⟨b, e, eu⟩ := hv
  exact ⟨b, (hobj o (by rw [e0]; simp)).trans e, eu⟩
 | .yld o, _, _, h0, hv => by
  simp only [V] at h0 hv ⊢
  obtain ⟨b0, e0, _⟩ := h0
  obtain ⟨b, e, eu⟩ := hv
  exact ⟨b, (hobj o (by rw [e0]; simp)).trans e, eu⟩
 | .cptr cs, _, _, h0, hv => by
  simp only [V] at h0 hv ⊢
  obtain ⟨b0, off0, _, h0⟩ := h0
  obtain ⟨b, off, e, hc⟩ := hv
  exact ⟨b, off, e, Cells.dom cs b0 off0 b off h0 hc⟩
 | .sl .nil n cs, _, _, h0, hv => by simp only [V] at hv ⊢; exact hv
 | .sl .none n cs, _, _, h0, hv => by
  simp only [V] at h0 hv ⊢
  obtain ⟨A0, c0, _, _, h0⟩ := h0
  obtain ⟨A, c, e, hn, hc⟩ := hv
  refine ⟨A, c, e, hn, fun hne => ?_⟩
  obtain ⟨b0, off0, _, h0⟩ := h0 hne
  obtain ⟨b, off, eA, hc⟩ := hc hne
  exact ⟨b, off, eA, Cells.dom cs b0 off0 b off h0 hc⟩
 | .sl (.own t k s) n cs, _, _, h0, hv => by
  simp only [V] at h0 hv ⊢
  obtain ⟨b0, off0, c0, i0, _, _, h0, ht0, _⟩ := h0
  obtain ⟨b, off, c, i, e, hn, hc, ht, rest⟩ := hv
  exact ⟨b, off, c, i, e, hn, Cells.dom cs b0 off0 b off h0 hc, (htok t (by rw [ht0]; simp)).trans ht, rest⟩
 | .fn f first cap, _, _, h0, hv => by
  simp only [V] at h0 hv ⊢
  obtain ⟨a0, b0, _, h1, h2⟩ := h0
  obtain ⟨a, b, e, h3, h4⟩ := hv
  exact ⟨a, b, e, Vs.dom first _ _ h1 h3, Vs.dom cap _ _ h2 h4⟩
 | .ifc t x, _, _, h0, hv => by
  simp only [V] at h0 hv ⊢
  obtain ⟨y0, _, h0⟩ := h0
  obtain ⟨y, e, hy⟩ := hv
  exact ⟨y, e, V.dom x _ _ h0 hy⟩
 | .agg cs, _, _, h0, hv => by
  simp only [V] at h0 hv ⊢
  obtain ⟨y0, _, h0⟩ := h0
  obtain ⟨y, e, hy⟩ := hv
  exact ⟨y, e, Vs.dom cs _ _ h0 hy⟩
 | .tup cs, _, _, h0, hv => by
  simp only [V] at h0 hv ⊢
  obtain ⟨y0, _, h0⟩ := h0
  obtain ⟨y, e, hy⟩ := hv
  exact ⟨y, e, Vs.dom cs _ _ h0 hy⟩
 | .any, _, _, _, _ => by simp only [V]
theorem Vs.dom {w0 w : World} : ∀ (xs : List AV) (u0 u : List Value), Vs μ0 w0 xs u0 → Vs μ1 w xs u → Vs μ2 w xs u
 | [], _, _, _, hv => by simp only [Vs] at hv ⊢; exact hv
 | x :: xs, _, _, h0, hv => by
  simp only [Vs] at h0 hv ⊢
  obtain ⟨u0, us0, _, h1, h2⟩ := h0
  obtain ⟨u, us, e, h3, h4⟩ := hv
  exact ⟨u, us, e, V.dom x _ _ h1 h3, Vs.dom xs _ _ h2 h4⟩
theorem Cells.dom {w0 w : World} : ∀ (xs : List AV) (b0 off0 b off : Nat), Cells μ0 w0 xs b0 off0 → Cells μ1 w xs b off → Cells μ2 w xs b off
 | [], _, _, _, _, _, hv => by simp only [Cells]
 | x :: xs, _, _, _, _, h0, hv => by
  simp only [Cells] at h0 hv ⊢
  obtain ⟨_, ⟨u0, _, h1⟩, h2⟩ := h0
  obtain ⟨c, ⟨u, e, h3⟩, h4⟩ := hv
  exact ⟨hcom _ _ c, ⟨u, e, V.dom x _ _ h1 h3⟩, Cells.dom xs _ _ _ _ h2 h4⟩
end
theorem ORel.dom {w0 w : World} {ob : AObj} {b0 b : Nat} (h0 : ORel μ0 w0 ob b0) (ho : ORel μ1 w ob b) : ORel μ2 w ob b := by
 cases ob with
 | dead => exact ho
 | cells e cs =>
  obtain ⟨_, _, h0⟩ := h0
  obtain ⟨vs, hv, hc⟩ := ho
  exact ⟨vs, hv, Vs.dom hobj htok hcom _ _ _ h0 hc⟩
 | map es =>
  obtain ⟨_, _, _, _, _, h0⟩ := h0
  obtain ⟨ents, clock, hv, hB, hk, hc⟩ := ho
  exact ⟨ents, clock, hv, hB, hk, Vs.dom hobj htok hcom _ _ _ h0 hc⟩
 | loop =>
  obtain ⟨_, _, _, _, _, h0⟩ := h0
  obtain ⟨fn, tm, df, hv, hn, hc⟩ := ho
  exact ⟨fn, tm, df, hv, hn, fun i => V.dom hobj htok hcom _ _ _ (h0 i) (hc i)⟩
end
structure DropH (hs h' h'' : AH) : Prop where
 lo : hs.next ≤ h''.next
 hi : h''.next ≤ h'.next
 tlo : hs.tnext ≤ h''.tnext
 thi : h''.tnext ≤ h'.tnext
 obj : ∀ o ob, o < h''.next → h'.get o = some ob → (o < hs.next ∧ hs.get o = some ob ∧ h''.get o = some ob) ∨ ∃ ob'', h''.get o = some ob'' ∧ OSub h''.next h''.tnext ob ob''
 tok : ∀ t, t < h''.tnext → h''.tok t = h'.tok t
def DropW (hs h' h'' : AH) : Prop := DropH hs h' h'' ∨ (h''.next = h'.next ∧ h''.get = h'.get ∧ h''.tnext = h'.tnext ∧ h''.tok = h'.tok)
structure Drop (hs : AH) (fr' : Fr) (h' : AH) (fr'' : Fr) (h'' : AH) : Prop where
 n : fr''.n = fr'.n
 fr : (∀ i, SubB h''.next h''.tnext (fr'.get i) (fr''.get i)) ∨ (fr'' = fr' ∧ h''.next = h'.next ∧ h''.tnext = h'.tnext)
 hp : DropW hs h' h''
theorem DropH.step {hs h' h'' : AH} (k : DropH hs h' h'') {μ μ' : Mu} {w w' : World} (r : R B0 G μ hs w) (st : Step B0 G μ hs w μ' h' w') :
  ∃ μ'', Restr h''.next h''.tnext μ' μ'' ∧ Step B0 G μ hs w μ'' h'' w' := by
 let μ2 : Mu := { obj := fun o => if o < h''.next then μ'.obj o else none, com := μ'.com, tok := fun t => if t < h''.tnext then μ'.tok t else none }
 have hr : Restr h''.next h''.tnext μ' μ2 := ⟨fun _ => rfl, fun _ => rfl, fun _ _ => Iff.rfl⟩
 have ho2 : ∀ o b, μ2.obj o = some b → o < h''.next ∧ μ'.obj o = some b := fun o b e => by
  simp only [μ2] at e; split at e
  ·exact ⟨‹_›, e⟩
  ·cases e
 have ht2 : ∀ t i, μ2.tok t = some i → t < h''.tnext ∧ μ'.tok t = some i := fun o b e => by
  simp only [μ2] at e; split at e
  ·exact ⟨‹_›, e⟩
  ·cases e
 have hold : ∀ o, μ.obj o ≠ none → o < hs.next := fun o ho => by
  rcases Nat.lt_or_ge o hs.next with q | q
  ·exact q
  ·exact absurd (r.next o q) ho
 have holdt : ∀ o, μ.tok o ≠ none → o < hs.tnext := fun o ho => by
  rcases Nat.lt_or_ge o hs.tnext with q | q
  ·exact q
  ·exact absurd (r.tnext o q) ho
 have hobj : ∀ o, μ.obj o ≠ none → μ2.obj o = μ'.obj o := fun o ho => by simp only [μ2]; rw [if_pos (Nat.lt_of_lt_of_le (hold o ho) k.lo)]
 have htok : ∀ o, μ.tok o ≠ none → μ2.tok o = μ'.tok o := fun o ho => by simp only [μ2]; rw [if_pos (Nat.lt_of_lt_of_le (holdt o ho) k.tlo)]
 refine ⟨μ2, hr, ⟨⟨fun o b e => ?_, fun b off e => st.le.com b off e, fun t i e => ?_⟩, ?_, st.size, st.keep, st.com, k.lo, k.tlo, fun o b e => st.newo o b (ho2 o b e).2, fun t i e => st.newt t i (ht2 t i e).2, fun b off e => st.newc b off e, st.env⟩⟩
 ·rw [hobj o (by rw [e]; simp)]; exact st.le.obj o b e
 ·rw [htok t (by rw [e]; simp)]; exact st.le.tok t i e
 ·refine ⟨st.r.base, fun o b e => ?_, fun o o' b e e' => st.r.inj o o' b (ho2 o b e).2 (ho2 o' b e').2, fun b off e => ?_, fun t i e => ?_, fun t t' i i' e e' hb => st.r.tinj t t' i i' (ht2 t i e).2 (ht2 t' i' e').2 hb,
   fun t i o e e' => st.r.sep t i o (ht2 t i e).2 (ho2 o i.b e').2, fun o ho => ?_, fun t ht => ?_, fun g cs e => ?_⟩
  ·obtain ⟨hlt, e1⟩ := ho2 o b e
   obtain ⟨hb, ob, hg, hor⟩ := st.r.obj o b e1
   refine ⟨hb, ?_⟩
   rcases k.obj o ob hlt hg with ⟨h1, h2, h3⟩ | ⟨ob2, h1, h2⟩
   ·refine ⟨ob, h3, ?_⟩
    have e0 : μ.obj o = some b := by
     rcases st.newo o b e1 with q | q
     ·exact q
     ·omega
    obtain ⟨_, ob0, hg0, hor0⟩ := r.obj o b e0
    rw [h2] at hg0; cases hg0
    exact ORel.dom hobj htok (fun _ _ q => q) hor0 hor
   ·exact ⟨ob2, h1, h2.ORel hr hor⟩
  ·obtain ⟨h1, h2, h3⟩ := st.r.com b off e
   exact ⟨fun o q => h1 o (ho2 o b q).2, fun t i q => h2 t i (ht2 t i q).2, h3⟩
  ·obtain ⟨hlt, e1⟩ := ht2 t i e
   obtain ⟨h1, h2, h3⟩ := st.r.tok t i e1
   exact ⟨h1, (k.tok t hlt).trans h2, h3⟩
  ·simp only [μ2]; rw [if_neg (by omega)]
  ·simp only [μ2]; rw [if_neg (by omega)]
  ·exact Cells.dom hobj htok (fun _ _ q => q) _ _ _ _ _ (r.glob g cs e) (st.r.glob g cs e)
theorem Restr.eq {no nt : Nat} {μ μ' : Mu} (hr : Restr no nt μ μ') (h1 : ∀ o, no ≤ o → μ.obj o = none) (h2 : ∀ t, nt ≤ t → μ.tok t = none) : μ' = μ := by
 obtain ⟨a, b, c⟩ := μ
 obtain ⟨a', b', c'⟩ := μ'
 have e1 : a' = a := funext fun o => by
  have := hr.obj o
  simp only at this h1
  rw [this]
  split
  ·rfl
  ·exact (h1 o (by omega)).symm
 have e2 : c' = c := funext fun t => by
  have := hr.tok t
  simp only at this h2
  rw [this]
  split
  ·rfl
  ·exact (h2 t (by omega)).symm
 have e3 : b' = b := funext fun x => funext fun y => propext (hr.com x y)
 rw [e1, e2, e3]
theorem MK.restr {lo no nt : Nat} {μ μ' : Mu} {w : World} {Δ : List Deferred} (m : MK lo μ w Δ) (hr : Restr no nt μ μ') : MK lo μ' w Δ :=
 ⟨fun d hd b hb => (by
  obtain ⟨h1, h2, h3, h4⟩ := m.at' d hd b hb
  refine ⟨h1, h2, fun o e => ?_, fun t i e => ?_⟩
  ·rw [hr.obj] at e; split at e
   ·exact h3 o e
   ·cases e
  ·rw [hr.tok] at e; split at e
   ·exact h4 t i e
   ·cases e), m.dist⟩
theorem R.same {μ : Mu} {h h' : AH} {w : World} (r : R B0 G μ h w) (e1 : h'.next = h.next) (e2 : h'.get = h.get) (e3 : h'.tnext = h.tnext) (e4 : h'.tok = h.tok) : R B0 G μ h' w :=
 ⟨r.base, fun o b e => by rw [e2]; exact r.obj o b e, r.inj, r.com, fun t i e => by rw [e4]; exact r.tok t i e, r.tinj, r.sep, fun o ho => r.next o (by omega), fun t ht => r.tnext t (by omega), r.glob⟩
theorem DropW.step {hs h' h'' : AH} (k : DropW hs h' h'') {μ μ' : Mu} {w w' : World} (r : R B0 G μ hs w) (st : Step B0 G μ hs w μ' h' w') :
  ∃ μ'', Restr h''.next h''.tnext μ' μ'' ∧ Step B0 G μ hs w μ'' h'' w' := by
 rcases k with k | ⟨e1, e2, e3, e4⟩
 ·exact k.step r st
 ·refine ⟨μ', ⟨fun o => ?_, fun t => ?_, fun _ _ => Iff.rfl⟩, ⟨st.le, st.r.same e1 e2 e3 e4, st.size, st.keep, st.com, by rw [e1]; exact st.next, by rw [e3]; exact st.tnext, st.newo, st.newt, st.newc, st.env⟩⟩
  ·split
   ·rfl
   ·exact st.r.next o (by omega)
  ·split
   ·rfl
   ·exact st.r.tnext t (by omega)
theorem Drop.step {hs h' h'' : AH} {fr' fr'' : Fr} (k : Drop hs fr' h' fr'' h'') {Δ : List Deferred} {μ μ' : Mu} {w w' : World} {a : Act} (r : R B0 G μ hs w) (st : Step B0 G μ hs w μ' h' w') (f : FrRel Δ μ' w' fr' a) :
  ∃ μ'', Restr h''.next h''.tnext μ' μ'' ∧ Step B0 G μ hs w μ'' h'' w' ∧ FrRel Δ μ'' w' fr'' a := by
 obtain ⟨μ'', hr, st'⟩ := k.hp.step r st
 refine ⟨μ'', hr, st', f.defers, f.size.trans k.n.symm, fun i => ?_⟩
 rcases k.fr with hf | ⟨rfl, e1, e2⟩
 ·exact hf i μ' μ'' w' _ hr (f.val i)
 ·rw [hr.eq (fun o ho => st.r.next o (by omega)) (fun t ht => st.r.tnext t (by omega))]; exact f.val i
def loopQ (I : Nat → Fr → AH → Prop) (Q : AX → Fr → AH → Prop) (n : Nat) (h1 : AH) : AX → Fr → AH → Prop
 | .norm, fr', h' => ∃ m fr2 h2, m < n ∧ Drop h1 fr' h' fr2 h2 ∧ I m fr2 h2
 | .exit j, fr, h => Q (.exit j) fr h
 | .ret, fr, h => Q .ret fr h
 | .pan x, fr, h => Q (.pan x) fr h
theorem WP.loop (I : Nat → Fr → AH → Prop) (h0 : ∃ n fr0 h0, Drop h fr h fr0 h0 ∧ I n fr0 h0) (hs : ∀ n fr1 h1, I n fr1 h1 → WP P G nb c fr1 h1 (loopQ I Q n h1)) : WP P G nb (.loop c) fr h Q := fun ro B0 lo Δ μ w a hr r hl m f => by
 obtain ⟨n0, fr0, h0, hd, hi⟩ := h0
 obtain ⟨μ0, hre0, st0, f0⟩ := hd.step r (Step.refl r) f
 refine wpIn_loop_ghost (fun n a1 w1 => ∃ fr1 h1 μ1 ms, I n fr1 h1 ∧ Step B0 G μ h w μ1 h1 w1 ∧ FrRel (ms ++ Δ) μ1 w1 fr1 a1 ∧ MK lo μ1 w1 (ms ++ Δ) ∧ Marks nb ms) n0 ⟨fr0, h0, μ0, [], hi, st0, f0, m.step st0, Marks.nil⟩ ?_
 rintro n a1 w1 ⟨fr1, h1, μ1, ms, hi, st, f1, m1, hms⟩
 refine wpIn_mono (hs n fr1 h1 hi ro B0 lo (ms ++ Δ) μ1 w1 a1 hr st.r (Nat.le_trans hl st.size) m1 f1) ?_
 rintro ex a2 w2 ⟨x, fr2, h2, q, z⟩
 cases x with
 | norm =>
  obtain ⟨μ2, ms2, st2, f2, m2, hms2, hex⟩ := z
  simp only [ExRel] at hex; subst hex
  obtain ⟨m, fr3, h3, hm, hd, hi3⟩ := q
  obtain ⟨μ3, hre, st3, f3⟩ := hd.step st.r st2 f2
  refine ⟨m, hm, fr3, h3, μ3, ms2 ++ ms, hi3, st.trans st3, by rw [List.append_assoc]; exact f3, by rw [List.append_assoc]; exact m2.restr hre, hms2.append hms⟩
 | exit j =>
  have := z.trans st hms
  obtain ⟨_, _, _, _, _, _, hex⟩ := id this
  simp only [ExRel] at hex; subst hex; exact ⟨_, _, _, q, this⟩
 | ret =>
  have := z.trans st hms
  obtain ⟨_, _, _, _, _, _, hex⟩ := id this
  simp only [ExRel] at hex; subst hex; exact ⟨_, _, _, q, this⟩
 | pan z' =>
  have := z.trans st hms
  obtain ⟨_, _, _, _, _, _, hex⟩ := id this
  obtain ⟨u, rfl, hv⟩ := hex; exact ⟨_, _, _, q, this⟩
theorem R.other {μ : Mu} {h : AH} {w w' : World} (r : R B0 G μ h w) (hs : w.heap.size ≤ w'.heap.size) (hk : ComKeep μ w w') (ho : ∀ o b, μ.obj o = some b → w'.heap[b]? = w.heap[b]?) (ht : ∀ t i, μ.tok t = some i → w'.heap[i.b]? = w.heap[i.b]?) : R B0 G μ h w' :=
 ⟨Nat.le_trans r.base hs, fun o b e => by
  obtain ⟨h0, ob, h1, h2⟩ := r.obj o b e
  exact ⟨h0, ob, h1, ORel.mono (Le.refl _) hk hs (ho o b e) h2⟩, r.inj, fun b off e => by
  obtain ⟨h0, h1, h2⟩ := r.com b off e
  exact ⟨h0, h1, by omega⟩, fun t i e => by
  obtain ⟨h0, h1, vs, ty, h2, h3⟩ := r.tok t i e
  exact ⟨h0, h1, vs, ty, (ht t i e).trans h2, h3⟩, r.tinj, r.sep, r.next, r.tnext, fun g cs e => Cells.mono (Le.refl _) hk _ _ _ (r.glob g cs e)⟩
theorem putObj_cell {w : World} {b : Nat} {x y : Obj} (hb : w.heap[b]? = some x) (hx : ∀ vs e fz, x ≠ .cells vs e fz) (hy : ∀ vs e fz, y ≠ .cells vs e fz) (b' off : Nat) : (w.putObj b y).cell? ⟨b', off, none⟩ = w.cell? ⟨b', off, none⟩ := by
 by_cases h : b' = b
 ·subst h
  simp only [World.cell?, hb, World.putObj_heap_same (Array.getElem?_eq_some_iff.1 hb).1]
  cases x <;> cases y <;> first | rfl | exact absurd rfl (hx _ _ _) | exact absurd rfl (hy _ _ _)
 ·simp only [World.cell?, World.putObj_heap_other h]
theorem Step.put {μ μ1 : Mu} {h h1 : AH} {w w1 : World} (s : Step B0 G μ h w μ1 h1 w1) {b : Nat} {x y : Option (List Deferred)} (hlo : w.heap.size ≤ b) (hb : w1.heap[b]? = some (.deferred x)) (ho : ∀ o, μ1.obj o ≠ some b) (ht : ∀ t i, μ1.tok t = some i → i.b ≠ b) :
  Step B0 G μ h w μ1 h1 (w1.putObj b (.deferred y)) ∧ ComKeep μ1 w1 (w1.putObj b (.deferred y)) := by
 have hk : ComKeep μ1 w1 (w1.putObj b (.deferred y)) := fun b' off _ => putObj_cell hb (by intros; simp) (by intros; simp) b' off
 refine ⟨⟨s.le, s.r.other (by simp) hk (fun o b' e => World.putObj_heap_other fun q => ho o (by rw [e, q])) (fun t i e => World.putObj_heap_other (ht t i e)), by simpa using s.size, fun b' hlt h1 h2 => ?_, fun b' off hc => ?_, s.next, s.tnext, s.newo, s.newt, s.newc, ?_⟩, hk⟩
 ·rw [World.putObj_heap_other (by omega)]; exact s.keep b' hlt h1 h2
 ·rw [hk b' off (s.le.com b' off hc)]; exact s.com b' off hc
 ·exact s.env.trans ⟨rfl, rfl, rfl⟩
theorem leave_marks {fn : Func} {tmps : Array Value} {Q : Ending → World → Prop} {u : FrameMode} (hu : u ≠ .run) {μ μ1 : Mu} {h h1 : AH} {w : World} : ∀ (ms : List Deferred) (w1 : World), (∀ d ∈ ms, isMark d) → MK w.heap.size μ1 w1 ms → Step B0 G μ h w μ1 h1 w1 →
  (∀ w2, Step B0 G μ h w μ1 h1 w2 → ComKeep μ1 w1 w2 → LeavesIn Fence.wide 0 P fn tmps Q [] u w2) → LeavesInM Fence.wide 0 P fn tmps Q ms u w1
 | [], w1, _, _, s, k => by
  have := k w1 s (fun _ _ _ => rfl)
  unfold LeavesInM; exact this
 | d :: ms, w1, hm, m, s, k => by
  obtain ⟨b, rfl⟩ := hm d List.mem_cons_self
  obtain ⟨k1, k2, k3, k4⟩ := m.at' _ List.mem_cons_self b rfl
  obtain ⟨s2, hk⟩ := s.put (y := none) k1 k2 k3 k4
  unfold LeavesInM
  refine ⟨hu, .inl ⟨b, _, rfl, run_takeDeferred k2, leave_marks hu ms _ (fun d hd => hm d (List.mem_cons_of_mem _ hd)) ⟨fun d hd b' hb' => ?_, (List.pairwise_cons.1 m.dist).2⟩ s2 fun w2 t2 c2 => k w2 t2 fun b' off hc => (c2 b' off hc).trans (hk b' off hc)⟩⟩
  obtain ⟨j1, j2, j3, j4⟩ := m.at' d (List.mem_cons_of_mem _ hd) b' hb'
  exact ⟨j1, (World.putObj_heap_other fun e => (List.pairwise_cons.1 m.dist).1 d hd b b' rfl hb' e.symm).trans j2, j3, j4⟩
def CALLY (P : Program) (G : Nat → Option (List AV)) (o : Nat) (args : List AV) (h : AH) (Q : AOut → AH → Prop) : Prop :=
 ∀ r B0 μ w vs b, R B0 G μ h w → Vs μ w args vs → μ.obj o = some b → ∃ f tm ca cb, (Instr.yield b vs.toArray).run P w = .ok (.round b f tm ca cb) w ∧
  RoundIn (Fw r) 0 P b f tm ca cb w fun e w' => ∃ out h', Q out h' ∧ Post B0 G μ h w out h' e w'
theorem CALLY.mono {o : Nat} {args : List AV} {h : AH} {Q Q' : AOut → AH → Prop} (c : CALLY P G o args h Q) (hq : ∀ o h', Q o h' → Q' o h') : CALLY P G o args h Q' :=
 fun r B0 μ w vs b hR hv ho => let ⟨f, tm, ca, cb, e, k⟩ := c r B0 μ w vs b hR hv ho; ⟨f, tm, ca, cb, e, k.mono fun _ _ ⟨o, h', q, p⟩ => ⟨o, h', hq o h' q, p⟩⟩
def setps (fr : Fr) : List Tmp → List AV → Fr
 | p :: ps, x :: xs => setps (fr.set p x) ps xs
 | _, _ => fr
def roundQ (o : Nat) (fr : Fr) (ps : Array Tmp) (ca cb : Code) (h : AH) (Q : AOut → AH → Prop) : AX → Fr → AH → Prop
 | .norm, _, h3 => h3.get o = some (.loop fr .busy none ps ca cb) ∧ ∃ y h'', DropW h (h3.set o (.loop fr .ready none ps ca cb)) h'' ∧ SubB h''.next h''.tnext (.v (.bool true)) y ∧ Q (.ret y) h''
 | .ret, _, h3 => h3.get o = some (.loop fr .busy none ps ca cb) ∧ ∃ y h'', DropW h (h3.set o (.loop fr .done (some .ret) ps ca cb)) h'' ∧ SubB h''.next h''.tnext (.v (.bool false)) y ∧ Q (.ret y) h''
 | .exit i, _, h3 => h3.get o = some (.loop fr .busy none ps ca cb) ∧ ∃ y h'', DropW h (h3.set o (.loop fr .done (some (.exit i)) ps ca cb)) h'' ∧ SubB h''.next h''.tnext (.v (.bool false)) y ∧ Q (.ret y) h''
 | .pan _, _, _ => False
theorem setps_rel {Δ : List Deferred} {μ : Mu} {w : World} : ∀ {ps : List Tmp} {xs : List AV} {us : List Value} {fr : Fr} {tm : Array Value}, FrRel Δ μ w fr ⟨tm, Δ⟩ → Vs μ w xs us → (∀ p ∈ ps, p < fr.n) →
  FrRel Δ μ w (setps fr ps xs) ⟨(ps.zip us).foldl (fun tmps (t, a) => tmps.setIfInBounds t a) tm, Δ⟩
 | [], xs, us, fr, tm, f, hv, hp => by simpa [setps] using f
 | p :: ps, [], us, fr, tm, f, hv, hp => by simp only [Vs] at hv; subst hv; simpa [setps] using f
 | p :: ps, x :: xs, us, fr, tm, f, hv, hp => by
  simp only [Vs] at hv
  obtain ⟨u, us', rfl, hx, hxs⟩ := hv
  simp only [setps, List.zip_cons_cons, List.foldl_cons]
  have := f.put (d := some p) (fr' := fr.set p x) (by simp only [Fr.put]; rw [if_pos (hp p List.mem_cons_self)]) hx
  exact setps_rel (by simpa [Act.put] using this) hxs fun q hq => hp q (List.mem_cons_of_mem _ hq)
theorem loop_step {μ : Mu} {h : AH} {w : World} (r : R B0 G μ h w) {o b : Nat} (ho : μ.obj o = some b) {fr : Fr} {ps : Array Tmp} {ca cb : Code} {rec rec' : Loop} {x' : AObj}
  (hb : w.heap[b]? = some (.loop rec)) (hx : ∀ w', w'.heap[b]? = some (.loop rec') → (∀ i, V μ w (fr.get i) (rec.tmps.getD i undef) → V μ w' (fr.get i) (rec.tmps.getD i undef)) → ORel μ w' x' b) :
  Step B0 G μ h w μ (h.set o x') (w.putObj b (.loop rec')) := by
 have hlt := (Array.getElem?_eq_some_iff.1 hb).1
 refine step_set_obj (x := .loop rec') r ho ⟨by simp, World.putObj_heap_same hlt, fun b' hne => World.putObj_heap_other hne⟩ ⟨rfl, rfl, rfl⟩ fun w' hk hw => hx w' hw fun i hv => V.mono (Le.refl _) hk _ _ hv
theorem CALLY.of_wp {o : Nat} {args : List AV} {h : AH} {fr : Fr} {ps : Array Tmp} {ca cb : Code} {Q : AOut → AH → Prop} (hob : h.get o = some (.loop fr .ready none ps ca cb)) (hlen : args.length = ps.size) (hps : ∀ p ∈ ps.toList, p < fr.n)
  (k : WP P G false ca (setps fr ps.toList args) h (thenQ (fun fr2 h2 => h2.get o = some (.loop fr .ready none ps ca cb) ∧ WP P G false cb fr2 (h2.set o (.loop fr .busy none ps ca cb)) (roundQ o fr ps ca cb h Q)) fun _ _ _ => False)) : CALLY P G o args h Q := by
 intro r B0 μ w vs b hR hv ho
 obtain ⟨_, ob, hg, hor⟩ := hR.obj o b ho
 rw [hob] at hg; cases hg
 obtain ⟨fn, tm, df, hb, hn, hval⟩ := hor
 have hsz : vs.toArray.size = ps.size := by simpa [hv.length] using hlen
 refine ⟨fn, _, ca, cb, run_yield hb (by simpa using hsz), ?_⟩
 have hFin : (Fw r).inRound b = Fw (some b) := by cases r <;> rfl
 refine roundIn_of_wpIn (Fw_fn r fn) ?_
 rw [hFin]
 have f0 : FrRel [] μ w (setps fr ps.toList args) ⟨((ps.zip vs.toArray).foldl (fun tmps (t, a) => tmps.setIfInBounds t a) tm), []⟩ := by
  have := setps_rel (Δ := []) (ps := ps.toList) (xs := args) (us := vs) (fr := fr) (tm := tm) ⟨rfl, hn, hval⟩ hv hps
  rw [← Array.foldl_toList, Array.toList_zip]
  exact this
 refine wpIn_mono (k (some b) B0 w.heap.size [] μ w _ (fun q => by cases q) hR (Nat.le_refl _) MK.nil f0) ?_
 rintro ex a1 w1 ⟨x, fr1, h1, q, μ1, ms, st, f1, m1, hms, hex⟩
 cases x with
 | exit j => exact q.elim
 | ret => exact q.elim
 | pan z => exact q.elim
 | norm =>
 simp only [ExRel] at hex; subst hex
 obtain ⟨hg1, kb⟩ := q
 have ho1 := st.le.obj o b ho
 obtain ⟨_, ob, hg, hor⟩ := st.r.obj o b ho1
 rw [hg1] at hg; cases hg
 obtain ⟨fn1, tm1, df1, hb1, hn1, hval1⟩ := hor
 refine ⟨_, run_beginRound hb1 rfl, ?_⟩
 have st2 : Step B0 G μ1 h1 w1 μ1 (h1.set o (.loop fr .busy none ps ca cb)) (w1.putObj b (.loop { state := .busy, pending := none, fn := fn1, tmps := tm1, params := ps, assign := ca, body := cb, defers := df1 })) :=
  loop_step (fr := fr) (ps := ps) (ca := ca) (cb := cb) st.r ho1 hb1 fun w' hw hv => ⟨fn1, tm1, df1, hw, hn1, fun i => hv i (hval1 i)⟩
 refine wpIn_mono (kb (some b) B0 w.heap.size (ms ++ []) μ1 _ a1 (fun q => by cases q) st2.r (Nat.le_trans st.size st2.size) (m1.step st2) (f1.mono st2.le st2.com)) ?_
 rintro ex a2 w2 ⟨x, fr2, h2, q, μ2, ms2, st3, f2, m2, hms2, hex⟩
 have s3 := (st.trans st2).trans st3
 have ho2 := s3.le.obj o b ho
 have fin : ∀ (jump : Option Code) (st' : LoopState) (bb : Bool), st' = (if jump.isNone then .ready else .done) → bb = jump.isNone → h2.get o = some (.loop fr .busy none ps ca cb) → (∃ y h'', DropW h (h2.set o (.loop fr st' jump ps ca cb)) h'' ∧ SubB h''.next h''.tnext (.v (.bool bb)) y ∧ Q (.ret y) h'') →
   ∃ v w', (Instr.endRound b jump).run P w2 = .ok v w' ∧ ∃ out h', Q out h' ∧ Post B0 G μ h w out h' (.returned v) w' := by
  rintro jump st' bb rfl rfl hg2 ⟨y, h'', hd, hs, hq⟩
  obtain ⟨_, ob, hg, hor⟩ := s3.r.obj o b ho2
  rw [hg2] at hg; cases hg
  obtain ⟨fn2, tm2, df2, hb2, hn2, hval2⟩ := hor
  refine ⟨_, _, run_endRound jump hb2, .ret y, h'', hq, ?_⟩
  have st4 : Step B0 G μ2 h2 w2 μ2 (h2.set o (.loop fr (if jump.isNone then .ready else .done) jump ps ca cb)) (w2.putObj b (.loop { state := if jump.isNone then .ready else .done, pending := jump, fn := fn2, tmps := tm2, params := ps, assign := ca, body := cb, defers := df2 })) :=
   loop_step (fr := fr) (ps := ps) (ca := ca) (cb := cb) s3.r ho2 hb2 fun w' hw hv => ⟨fn2, tm2, df2, hw, hn2, fun i => hv i (hval2 i)⟩
  obtain ⟨μ5, hre, s5⟩ := hd.step hR (s3.trans st4)
  exact ⟨μ5, s5, _, rfl, hs _ _ _ _ hre (by simp [V, plain])⟩
 cases x with
 | norm => simp only [ExRel] at hex; subst hex; exact fin none .ready true rfl rfl q.1 q.2
 | exit j => simp only [ExRel] at hex; subst hex; exact fin (some (.exit j)) .done false rfl rfl q.1 q.2
 | ret => simp only [ExRel] at hex; subst hex; exact fin (some .ret) .done false rfl rfl q.1 q.2
 | pan z => exact q.elim
def rngQ (Q : AX → Fr → AH → Prop) (fr : Fr) (o : Nat) : AOut → AH → Prop
 | .ret _, h' => ∃ fr1 st pe ps ca cb, h'.get o = some (.loop fr1 st pe ps ca cb) ∧ st ≠ .busy ∧ match pe with
  | none => Q .norm fr (h'.set o .dead)
  | some .ret => Q .ret fr (h'.set o .dead)
  | some (.exit i) => Q (.exit i) fr (h'.set o .dead)
  | _ => False
 | .pan _, _ => False
theorem WP.range {g : Operand} {ps : Array Tmp} {ca cb : Code} {it : FuncId} {cap : List AV} (hg : aev G fr g = some (.fn (.func it) [] cap)) (hb : hasBody P it = true)
  (k : CALL P G it (.yld h.next :: cap) (h.push (.loop fr .ready none ps ca cb)) (rngQ Q fr h.next)) : WP P G true (.rangeFunc g ps ca cb) fr h Q := by
 intro ro B0 lo Δ μ w a hr r hl m f
 cases hr rfl
 show Code.wpIn Fence.wide 0 P _ _ _ _
 have hgv := aev_V r.glob f hg
 simp only [V, Vs] at hgv
 obtain ⟨A, B, hge, hA, hB⟩ := hgv
 have hA' : A = #[] := Array.ext' (by simpa using hA)
 subst hA'
 have hlen : ∀ o b, μ.obj o = some b → b < w.heap.size := fun o b e => r.obj_lt e
 have htl : ∀ t i, μ.tok t = some i → i.b < w.heap.size := fun t i e => r.tok_lt e
 have hp0 : ∀ b, b < w.heap.size → (w.alloc (.deferred (some []))).heap[b]? = w.heap[b]? := fun b hb => push_lt (w' := w.alloc (.deferred (some []))) (o := .deferred (some [])) rfl hb
 have hk0 : ComKeep μ w (w.alloc (.deferred (some []))) := fun b off hc => cell_of_heap (hp0 b (r.com b off hc).2.2) off
 have r0 : R B0 G μ h (w.alloc (.deferred (some []))) := r.other (by simp) hk0 (fun o b e => hp0 b (hlen o b e)) (fun t i e => hp0 i.b (htl t i e))
 have s0 : Step B0 G μ h w μ h (w.alloc (.deferred (some []))) := ⟨Le.refl _, r0, by simp, fun b hb _ _ => hp0 b hb, hk0, Nat.le_refl _, Nat.le_refl _, fun _ _ e => .inl e, fun _ i e => .inl ⟨i, e, rfl⟩, fun _ _ e => .inl e, ⟨rfl, rfl, rfl⟩⟩
 have hD0 : (w.alloc (.deferred (some []))).heap[w.heap.size]? = some (.deferred (some [])) := World.alloc_heap_new w _
 refine wpIn_rangeFunc fun fn _ => ?_
 obtain ⟨w1, hw1⟩ : ∃ w1, (w.alloc (.deferred (some []))).alloc (.loop { state := .ready, pending := none, fn := fn, tmps := a.tmps, params := ps, assign := ca, body := cb, defers := w.heap.size }) = w1 := ⟨_, rfl⟩
 refine ⟨w.heap.size + 1, [{ target := .collected w.heap.size, args := #[] }], w1, { target := .fn (.func it) B, args := #[.func (.yield (w.heap.size + 1)) #[] #[]] }, w1, it, #[.func (.yield (w.heap.size + 1)) #[] #[]] ++ B, w1, by rw [← hw1]; exact run_enterLoop_outer _ _ _ _ _, ?_, fun _ _ => trivial, ?_, fun q => (by cases q), ?_⟩
 ·simp only [resolve, hge]
  simp [go_sem]
 ·unfold hasBody at hb
  cases hfn : P.funcs[it]? with
  | none => rw [hfn] at hb; simp at hb
  | some fn' =>
   rw [hfn] at hb
   simp only [Bool.and_eq_true, Bool.not_eq_true'] at hb
   obtain ⟨hb1, hb2⟩ := hb
   have hnb : fn'.body.isNone = false := by cases hq : fn'.body <;> simp [hq] at hb2 ⊢
   have hpr : ∀ w, (program).run P w = .ok P w := fun _ => rfl
   simp only [invoke, callFunc, Sem.run_bind, hpr, Result.andThen_ok, hfn, hb1, hnb, Bool.false_eq_true, if_false, Sem.run_pure]
 ·have hpush : HPush (w.alloc (.deferred (some []))) w1 (.loop { state := .ready, pending := none, fn := fn, tmps := a.tmps, params := ps, assign := ca, body := cb, defers := w.heap.size }) := by subst hw1; exact ⟨rfl, rfl, rfl, rfl⟩
  have s1 := step_new_obj r0 hpush (ob := .loop fr .ready none ps ca cb) fun μ' w' hl hk hw => ⟨fn, a.tmps, w.heap.size, hw, f.size, fun i => V.mono hl hk _ _ (V.mono (Le.refl _) hk0 _ _ (f.val i))⟩
  have hsz : (w.alloc (.deferred (some []))).heap.size = w.heap.size + 1 := by simp
  rw [hsz] at s1
  have s01 := s0.trans s1
  have hyl : (μ.addObj h.next (w.heap.size + 1)).obj h.next = some (w.heap.size + 1) := by simp [Mu.addObj]
  have hcall := k B0 _ w1 (.func (.yield (w.heap.size + 1)) #[] #[] :: B.toList) s1.r (by
   simp only [Vs]
   exact ⟨_, _, rfl, by simp only [V]; exact ⟨_, hyl, rfl⟩, Vs.mono s01.le s01.com _ _ hB⟩)
  have harr : (Value.func (.yield (w.heap.size + 1)) #[] #[] :: B.toList).toArray = #[.func (.yield (w.heap.size + 1)) #[] #[]] ++ B := by apply Array.ext'; simp
  rw [harr] at hcall
  have hD1 : w1.heap[w.heap.size]? = some (.deferred (some [])) := (push_lt hpush.1 (by simp)).trans hD0
  have hm0 : MK lo (μ.addObj h.next (w.heap.size + 1)) w1 ([{ target := .collected w.heap.size, args := #[] }] ++ Δ) := by
   refine ⟨fun d hd b hb => ?_, ?_⟩
   ·rcases List.mem_append.1 hd with hd | hd
    ·rcases List.mem_singleton.1 hd with rfl
     cases hb
     refine ⟨hl, hD1, fun o e => ?_, fun t i e => Nat.ne_of_lt (htl t i e)⟩
     simp only [Mu.addObj] at e
     split at e
     ·simp at e
     ·exact absurd (hlen o _ e) (Nat.lt_irrefl _)
    ·exact (m.step s01).at' d hd b hb
   ·refine List.pairwise_append.2 ⟨List.pairwise_singleton _ _, m.dist, fun d hd d' hd' b b' hb hb' => ?_⟩
    rcases List.mem_singleton.1 hd with rfl
    cases hb
    have := (Array.getElem?_eq_some_iff.1 (m.at' d' hd' b' hb').2.1).1
    omega
  refine callsIn_wide.2 (hcall.mono ?_)
  rintro e w2 ⟨out, h2, q, μ2, s2, hout⟩
  cases out with
  | pan x => exact q.elim
  | ret x =>
  obtain ⟨u, rfl, _⟩ := hout
  obtain ⟨fr1, st, pe, ps1, ca1, cb1, hg2, hst, q⟩ := q
  have ho2 := s2.le.obj _ _ hyl
  obtain ⟨_, ob, hgo, hor⟩ := s2.r.obj _ _ ho2
  rw [hg2] at hgo; cases hgo
  obtain ⟨fn2, tm2, df2, hb2, hn2, hval2⟩ := hor
  have s3 : Step B0 G μ2 h2 w2 μ2 (h2.set h.next .dead) (w2.putObj (w.heap.size + 1) (.loop { state := .exhausted, pending := pe, fn := fn2, tmps := tm2, params := ps1, assign := ca1, body := cb1, defers := df2 })) :=
   loop_step (fr := fr1) (ps := ps1) (ca := ca1) (cb := cb1) s2.r ho2 hb2 fun w' hw hv => (Array.getElem?_eq_some_iff.1 hw).1
  have sall := (s01.trans s2).trans s3
  have fout : FrRel ([{ target := .collected w.heap.size, args := #[] }] ++ Δ) μ2 (w2.putObj (w.heap.size + 1) (.loop { state := .exhausted, pending := pe, fn := fn2, tmps := tm2, params := ps1, assign := ca1, body := cb1, defers := df2 })) fr { a with defers := [{ target := .collected w.heap.size, args := #[] }] ++ a.defers } :=
   ⟨by rw [f.defers], f.size, fun i => V.mono sall.le sall.com _ _ (f.val i)⟩
  have mout := (hm0.step s2).step s3
  have hms : Marks true [({ target := .collected w.heap.size, args := #[] } : Deferred)] := ⟨fun d hd => ⟨_, List.mem_singleton.1 hd⟩, fun q => by cases q⟩
  refine ⟨pe, _, run_endLoop hb2 hst, ?_⟩
  cases pe with
  | none => exact ⟨.norm, fr, _, q, _, _, sall, fout, mout, hms, rfl⟩
  | some c =>
   cases c with
   | ret => exact wpIn_ret ⟨.ret, fr, _, q, _, _, sall, fout, mout, hms, rfl⟩
   | exit i => exact wpIn_exit ⟨.exit i, fr, _, q, _, _, sall, fout, mout, hms, rfl⟩
   | _ => exact q.elim
def endQ (P : Program) (rs : List ResultVar) (h : AH) (Q : AOut → AH → Prop) : AX → Fr → AH → Prop
 | .norm, fr', h' | .ret, fr', h' => ∃ xs, aresults P h' fr' rs = some xs ∧ ∃ y h'', DropW h h' h'' ∧ SubB h''.next h''.tnext (aret xs) y ∧ Q (.ret y) h''
 | .pan v, _, h' => ∃ y h'', DropW h h' h'' ∧ SubB h''.next h''.tnext v y ∧ Q (.pan y) h''
 | .exit _, _, _ => False
theorem CALL.of_wp {f : FuncId} {fn : Func} {c : Code} (hfn : P.funcs[f]? = some fn) (hb : fn.body = some c) {args : List AV} {h : AH} {Q : AOut → AH → Prop}
  (k : WP P G true c (Fr.ofArgs fn.ntmps args) h (endQ P fn.results.toList h Q)) : CALL P G f args h Q := fun B0 μ w vs r hv => by
 have f0 := ofArgs_rel (n := fn.ntmps) hv
 refine callsIn_wide.1 (callsIn_of_wp_marks (n := 0) hfn hb trivial (wpIn_mono (k none B0 w.heap.size [] μ w _ (fun _ => rfl) r (Nat.le_refl _) MK.nil f0) ?_))
 rintro ex a1 w1 ⟨x, fr1, h1, q, μ1, ms, st, f1, m1, hms, hex⟩
 simp only [List.append_nil] at f1 m1
 have fin : ∀ xs, aresults P h1 fr1 fn.results.toList = some xs → (∃ y h'', DropW h h1 h'' ∧ SubB h''.next h''.tnext (aret xs) y ∧ Q (.ret y) h'') →
   LeavesInM Fence.wide 0 P fn a1.tmps (fun e w' => ∃ out h', Q out h' ∧ Post B0 G μ h w out h' e w') a1.defers .returning w1 := by
  rintro xs hres ⟨y, h2, hd, hs, hq⟩
  rw [f1.defers]
  refine leave_marks (by simp) ms w1 hms.1 m1 st fun w2 st2 hk => ?_
  obtain ⟨u, hu, hvu⟩ := aret_run (P := P) st2.r (f1.mono (Le.refl _) hk) hres
  obtain ⟨μ2, hr, st3⟩ := hd.step r st2
  exact ⟨u, hu, .ret y, h2, hq, μ2, st3, u, rfl, hs _ _ _ _ hr hvu⟩
 cases x with
 | norm =>
  simp only [ExRel] at hex; subst hex
  obtain ⟨xs, h2, h3⟩ := q
  exact fin xs h2 h3
 | ret =>
  simp only [ExRel] at hex; subst hex
  obtain ⟨xs, h2, h3⟩ := q
  exact fin xs h2 h3
 | exit j => exact q.elim
 | pan v =>
  obtain ⟨u, rfl, hvu⟩ := hex
  obtain ⟨y, h2, hd, hs, hq⟩ := q
  show LeavesInM Fence.wide 0 P fn a1.tmps _ a1.defers (.panicking _) w1
  rw [f1.defers]
  refine leave_marks (by simp) ms w1 hms.1 m1 st fun w2 st2 hk => ?_
  obtain ⟨μ2, hr, st3⟩ := hd.step r st2
  exact ⟨.pan y, h2, hq, μ2, st3, u, rfl, hs _ _ _ _ hr (V.mono (Le.refl _) hk _ _ hvu)⟩
end
end
end Go.Proofs.YtcjlpklgnknpgaaGreatDoor.Pg
