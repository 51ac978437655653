/-
  Pg, part 8: regions, statements, calls: the abstract run, and that the model does the same.
-/
import Derived.Test.YtkcbhebbjpiibaaDoorPgOrder
set_option linter.unusedVariables false
set_option linter.unusedSimpArgs false
namespace Go.Proofs.YtkcbhebbjpiibaaDoor.Pg
open Go
section

inductive AX where
  | norm
  | exit (id : Nat)
  | ret
  | pan (x : AV)

def aloop (body : Fr → AH → Option (AX × Fr × AH)) : Nat → Fr → AH → Option (AX × Fr × AH)
  | 0, _, _ => none
  | n + 1, fr, h => match body fr h with
    | some (.norm, fr, h) => aloop body n fr h
    | r => r
def aregion (P : Program) (G : Nat → Option (List AV)) (call : FuncId → List AV → AH → Option (AOut × AH)) (ops : Array Oper) (draw : Bool) (fr : Fr) (h : AH) : Option (AX × Fr × AH) :=
  if draw then match adraw P G call ops fr h with
    | some (fr, h) => some (.norm, fr, h)
    | none => none
  else match aops P G call ops (List.range ops.size) fr h with
    | some (none, fr, h) => some (.norm, fr, h)
    | some (some x, fr, h) => some (.pan x, fr, h)
    | none => none
def aexec (P : Program) (G : Nat → Option (List AV)) (call : FuncId → List AV → AH → Option (AOut × AH)) (N : Nat) : Code → Fr → AH → Option (AX × Fr × AH)
  | .skip, fr, h => some (.norm, fr, h)
  | .label _, fr, h => some (.norm, fr, h)
  | .region _ ops draw, fr, h => aregion P G call ops draw fr h
  | .seq x y, fr, h => match aexec P G call N x fr h with
    | some (.norm, fr, h) => aexec P G call N y fr h
    | r => r
  | .cond c x y, fr, h => match aev G fr c with
    | some (.v (.bool true)) => aexec P G call N x fr h
    | some (.v (.bool false)) => aexec P G call N y fr h
    | _ => none
  | .block id x, fr, h => match aexec P G call N x fr h with
    | some (.exit j, fr, h) => if j = id then some (.norm, fr, h) else some (.exit j, fr, h)
    | r => r
  | .loop x, fr, h => aloop (fun fr h => aexec P G call N x fr h) N fr h
  | .exit id, fr, h => some (.exit id, fr, h)
  | .ret, fr, h => some (.ret, fr, h)
  | _, _, _ => none

/-- The results of a function, read off its frame. -/
def aresult (P : Program) (h : AH) (fr : Fr) : ResultVar → Option AV
  | .tmp t => some (fr.get t)
  | .cell a t => aload P h.get t (fr.get a)
def aresults (P : Program) (h : AH) (fr : Fr) : List ResultVar → Option (List AV)
  | [] => some []
  | x :: xs => match aresult P h fr x, aresults P h fr xs with
    | some y, some ys => some (y :: ys)
    | _, _ => none
def aret : List AV → AV
  | [x] => x
  | xs => .tup xs
def arun (P : Program) (G : Nat → Option (List AV)) (call : FuncId → List AV → AH → Option (AOut × AH)) (N : Nat) (f : FuncId) (args : List AV) (h : AH) : Option (AOut × AH) :=
  match P.funcs[f]? with
  | some fn => match fn.body with
    | some c => match aexec P G call N c (Fr.ofArgs fn.ntmps args) h with
      | some (.norm, fr, h) | some (.ret, fr, h) => (aresults P h fr fn.results.toList).map fun xs => (.ret (aret xs), h)
      | some (.pan x, fr, h) => some (.pan x, h)
      | _ => none
    | none => none
  | none => none
abbrev Summ := FuncId → Option (List AV → AH → Option (AOut × AH))
def acall (P : Program) (G : Nat → Option (List AV)) (S : Summ) : Nat → FuncId → List AV → AH → Option (AOut × AH)
  | 0, _, _, _ => none
  | n + 1, f, args, h => match S f with
    | some s => s args h
    | none => arun P G (acall P G S n) n f args h

section
variable {P : Program} {B0 : Nat} {G : Nat → Option (List AV)}

/-- What a statement's end says. -/
def ExRel (μ : Mu) (w : World) : AX → Exit → Prop
  | .norm, e => e = .normal
  | .exit id, e => e = .exit id
  | .ret, e => e = .ret
  | .pan x, e => ∃ u, e = .panic [{ v := u, recovered := false }] ∧ V μ w x u
def Fin (B0 : Nat) (G : Nat → Option (List AV)) (μ : Mu) (h : AH) (w : World) (x : AX) (fr' : Fr) (h' : AH) (e : Exit) (a' : Act) (w' : World) : Prop :=
  ∃ μ', Step B0 G μ h w μ' h' w' ∧ FrRel μ' w' fr' a' ∧ ExRel μ' w' x e
theorem Fin.trans {μ μ1 : Mu} {h : AH} {w w1 : World} {h1 : AH} {x : AX} {fr' : Fr} {h' : AH} (s : Step B0 G μ h w μ1 h1 w1) {e : Exit} {a' : Act} {w' : World} (k : Fin B0 G μ1 h1 w1 x fr' h' e a' w') : Fin B0 G μ h w x fr' h' e a' w' := by
  obtain ⟨μ', s', f, ex⟩ := k
  exact ⟨μ', s.trans s', f, ex⟩

theorem aops_sound {call : FuncId → List AV → AH → Option (AOut × AH)} (hc : CallOk P B0 G call) {ops : Array Oper} {Q : Exit → Act → World → Prop} : ∀ (l : List Nat) {fr fr' : Fr} {h h' : AH} {x : Option AV} {μ : Mu} {w : World} {a : Act},
    aops P G call ops l fr h = some (x, fr', h') → R B0 G μ h w → FrRel μ w fr a →
    (∀ e a' w', Fin B0 G μ h w (match x with | none => .norm | some y => .pan y) fr' h' e a' w' → Q e a' w') → wpOps P ops Q l a w
  | [], fr, fr', h, h', x, μ, w, a, e, r, f, hq => by
    simp only [aops, Option.some.injEq, Prod.mk.injEq] at e
    obtain ⟨rfl, rfl, rfl⟩ := e
    simp only [wpOps]
    exact hq _ _ _ ⟨μ, Step.refl r, f, rfl⟩
  | i :: l, fr, fr', h, h', x, μ, w, a, e, r, f, hq => by
    simp only [aops] at e
    simp only [wpOps]
    cases ho : ops[i]? with
    | none => rw [ho] at e; exact aops_sound hc l e r f hq
    | some o =>
      rw [ho] at e
      simp only at e ⊢
      cases hwt : awanted ops fr o with
      | none => rw [hwt] at e; simp at e
      | some b =>
      rw [hwt] at e
      rw [wanted_V f hwt]
      cases b with
      | true =>
        rw [if_pos rfl]
        left
        cases hs : astep P G call fr h o with
        | none => rw [hs] at e; simp at e
        | some p =>
          obtain ⟨out, h1⟩ := p
          rw [hs] at e
          refine astep_sound hc r f hs ?_ ?_
          · intro y μ' w' u hy st hv
            subst hy
            simp only at e
            cases hp : fr.put o.dst y with
            | none => rw [hp] at e; simp at e
            | some fr1 =>
              rw [hp] at e
              exact aops_sound hc l e st.r ((f.mono st.le st.com).put hp hv) fun e' a' w'' k => hq e' a' w'' (k.trans st)
          · intro y μ' w' u hy st hv
            subst hy
            simp only [Option.some.injEq, Prod.mk.injEq] at e
            obtain ⟨rfl, rfl, rfl⟩ := e
            exact hq _ _ _ ⟨μ', st, f.mono st.le st.com, u, rfl, hv⟩
      | false =>
        rw [if_neg (by simp)]
        simp only at e
        cases hp : fr.put o.dst (.v undef) with
        | none => rw [hp] at e; simp at e
        | some fr1 =>
          rw [hp] at e
          exact aops_sound hc l e r (f.put hp undef_V) hq

theorem aexec_sound {call : FuncId → List AV → AH → Option (AOut × AH)} (hc : CallOk P B0 G call) (hmix : P.follows .mixedOrders = true) (N : Nat) : ∀ (c : Code) {fr fr' : Fr} {h h' : AH} {x : AX} {μ : Mu} {w : World} {a : Act},
    aexec P G call N c fr h = some (x, fr', h') → R B0 G μ h w → FrRel μ w fr a → c.wp P (Fin B0 G μ h w x fr' h') a w
  | .skip, fr, fr', h, h', x, μ, w, a, e, r, f => by
    simp only [aexec, Option.some.injEq, Prod.mk.injEq] at e; obtain ⟨rfl, rfl, rfl⟩ := e
    exact wp_skip ⟨μ, Step.refl r, f, rfl⟩
  | .label _, fr, fr', h, h', x, μ, w, a, e, r, f => by
    simp only [aexec, Option.some.injEq, Prod.mk.injEq] at e; obtain ⟨rfl, rfl, rfl⟩ := e
    exact wp_label ⟨μ, Step.refl r, f, rfl⟩
  | .exit id, fr, fr', h, h', x, μ, w, a, e, r, f => by
    simp only [aexec, Option.some.injEq, Prod.mk.injEq] at e; obtain ⟨rfl, rfl, rfl⟩ := e
    exact wp_exit ⟨μ, Step.refl r, f, rfl⟩
  | .ret, fr, fr', h, h', x, μ, w, a, e, r, f => by
    simp only [aexec, Option.some.injEq, Prod.mk.injEq] at e; obtain ⟨rfl, rfl, rfl⟩ := e
    exact wp_ret ⟨μ, Step.refl r, f, rfl⟩
  | .region id ops draw, fr, fr', h, h', x, μ, w, a, e, r, f => by
    simp only [aexec, aregion] at e
    cases draw with
    | true =>
      simp only [if_true] at e
      cases hd : adraw P G call ops fr h with
      | none => rw [hd] at e; simp at e
      | some p =>
        obtain ⟨fr1, h1⟩ := p
        rw [hd] at e
        simp only [Option.some.injEq, Prod.mk.injEq] at e; obtain ⟨rfl, rfl, rfl⟩ := e
        have hk : ComKeep μ w { w with drawn := w.drawn + 1 } := fun _ _ _ => rfl
        have s2 : Step B0 G μ h w μ h { w with drawn := w.drawn + 1 } := R.heap r rfl ⟨rfl, rfl, rfl⟩
        refine wp_region_any hmix (adraw_sound hc hd s2.r (FrRel.mono (Le.refl μ) hk f) ?_)
        intro μ' a' w' st f'
        exact ⟨μ', s2.trans st, f', rfl⟩
    | false =>
      simp only [Bool.false_eq_true, if_false] at e
      cases hd : aops P G call ops (List.range ops.size) fr h with
      | none => rw [hd] at e; simp at e
      | some p =>
        obtain ⟨y, fr1, h1⟩ := p
        rw [hd] at e
        cases y with
        | none =>
          simp only [Option.some.injEq, Prod.mk.injEq] at e; obtain ⟨rfl, rfl, rfl⟩ := e
          exact wp_region (aops_sound hc _ hd r f fun _ _ _ k => k)
        | some y =>
          simp only [Option.some.injEq, Prod.mk.injEq] at e; obtain ⟨rfl, rfl, rfl⟩ := e
          exact wp_region (aops_sound hc _ hd r f fun _ _ _ k => k)
  | .seq c d, fr, fr', h, h', x, μ, w, a, e, r, f => by
    simp only [aexec] at e
    cases h1 : aexec P G call N c fr h with
    | none => rw [h1] at e; simp at e
    | some p =>
      obtain ⟨y, fr1, h2⟩ := p
      rw [h1] at e
      have ih := aexec_sound hc hmix N c h1 r f
      refine wp_seq (wp_mono ih ?_)
      rintro ex a1 w1 ⟨μ1, st, f1, hex⟩
      cases y with
      | norm =>
        simp only [ExRel] at hex
        subst hex
        exact wp_mono (aexec_sound hc hmix N d e st.r f1) fun e' a' w' k => k.trans st
      | exit id => simp only [Option.some.injEq, Prod.mk.injEq] at e; obtain ⟨rfl, rfl, rfl⟩ := e; simp only [ExRel] at hex; subst hex; exact ⟨μ1, st, f1, rfl⟩
      | ret => simp only [Option.some.injEq, Prod.mk.injEq] at e; obtain ⟨rfl, rfl, rfl⟩ := e; simp only [ExRel] at hex; subst hex; exact ⟨μ1, st, f1, rfl⟩
      | pan z => simp only [Option.some.injEq, Prod.mk.injEq] at e; obtain ⟨rfl, rfl, rfl⟩ := e; obtain ⟨u, rfl, hv⟩ := hex; exact ⟨μ1, st, f1, u, rfl, hv⟩
  | .cond c x1 x2, fr, fr', h, h', x, μ, w, a, e, r, f => by
    simp only [aexec] at e
    split at e
    · rename_i hcv
      have := aev_V r.glob f hcv
      simp only [V] at this
      exact wp_cond_true this.2 (aexec_sound hc hmix N x1 e r f)
    · rename_i hcv
      have := aev_V r.glob f hcv
      simp only [V] at this
      exact wp_cond_false this.2 (aexec_sound hc hmix N x2 e r f)
    · cases e
  | .block id c, fr, fr', h, h', x, μ, w, a, e, r, f => by
    simp only [aexec] at e
    cases h1 : aexec P G call N c fr h with
    | none => rw [h1] at e; simp at e
    | some p =>
      obtain ⟨y, fr1, h2⟩ := p
      rw [h1] at e
      refine wp_block (wp_mono (aexec_sound hc hmix N c h1 r f) ?_)
      rintro ex a1 w1 ⟨μ1, st, f1, hex⟩
      cases y with
      | norm => simp only [Option.some.injEq, Prod.mk.injEq] at e; obtain ⟨rfl, rfl, rfl⟩ := e; simp only [ExRel] at hex; subst hex; exact ⟨μ1, st, f1, rfl⟩
      | exit j =>
        simp only [ExRel] at hex; subst hex
        simp only at e
        simp only [Exit.inBlock]
        by_cases hj : j = id
        · rw [if_pos hj] at e ⊢
          simp only [Option.some.injEq, Prod.mk.injEq] at e; obtain ⟨rfl, rfl, rfl⟩ := e; exact ⟨μ1, st, f1, rfl⟩
        · rw [if_neg hj] at e ⊢
          simp only [Option.some.injEq, Prod.mk.injEq] at e; obtain ⟨rfl, rfl, rfl⟩ := e; exact ⟨μ1, st, f1, rfl⟩
      | ret => simp only [Option.some.injEq, Prod.mk.injEq] at e; obtain ⟨rfl, rfl, rfl⟩ := e; simp only [ExRel] at hex; subst hex; exact ⟨μ1, st, f1, rfl⟩
      | pan z => simp only [Option.some.injEq, Prod.mk.injEq] at e; obtain ⟨rfl, rfl, rfl⟩ := e; obtain ⟨u, rfl, hv⟩ := hex; exact ⟨μ1, st, f1, u, rfl, hv⟩
  | .loop c, fr, fr', h, h', x, μ, w, a, e, r, f => by
    simp only [aexec] at e
    have inv : ∀ n a1 w1, (∃ fr1 h1 μ1, aloop (fun fr h => aexec P G call N c fr h) n fr1 h1 = some (x, fr', h') ∧ Step B0 G μ h w μ1 h1 w1 ∧ FrRel μ1 w1 fr1 a1) →
        c.wp P (Exit.then (fun a' w' => ∃ n', n' < n ∧ ∃ fr1 h1 μ1, aloop (fun fr h => aexec P G call N c fr h) n' fr1 h1 = some (x, fr', h') ∧ Step B0 G μ h w μ1 h1 w' ∧ FrRel μ1 w' fr1 a') (Fin B0 G μ h w x fr' h')) a1 w1 := by
      rintro n a1 w1 ⟨fr1, h1, μ1, e1, st, f1⟩
      cases n with
      | zero => simp [aloop] at e1
      | succ n =>
        simp only [aloop] at e1
        cases h2 : aexec P G call N c fr1 h1 with
        | none => rw [h2] at e1; simp at e1
        | some p =>
          obtain ⟨y, fr2, h3⟩ := p
          rw [h2] at e1
          refine wp_mono (aexec_sound hc hmix N c h2 st.r f1) ?_
          rintro ex a2 w2 ⟨μ2, st2, f2, hex⟩
          cases y with
          | norm => simp only [ExRel] at hex; subst hex; exact ⟨n, by omega, fr2, h3, μ2, e1, st.trans st2, f2⟩
          | exit j => simp only [Option.some.injEq, Prod.mk.injEq] at e1; obtain ⟨rfl, rfl, rfl⟩ := e1; simp only [ExRel] at hex; subst hex; exact ⟨μ2, st.trans st2, f2, rfl⟩
          | ret => simp only [Option.some.injEq, Prod.mk.injEq] at e1; obtain ⟨rfl, rfl, rfl⟩ := e1; simp only [ExRel] at hex; subst hex; exact ⟨μ2, st.trans st2, f2, rfl⟩
          | pan z => simp only [Option.some.injEq, Prod.mk.injEq] at e1; obtain ⟨rfl, rfl, rfl⟩ := e1; obtain ⟨u, rfl, hv⟩ := hex; exact ⟨μ2, st.trans st2, f2, u, rfl, hv⟩
    exact wp_loop_ghost (fun n a1 w1 => ∃ fr1 h1 μ1, aloop (fun fr h => aexec P G call N c fr h) n fr1 h1 = some (x, fr', h') ∧ Step B0 G μ h w μ1 h1 w1 ∧ FrRel μ1 w1 fr1 a1) N ⟨fr, h, μ, e, Step.refl r, f⟩ inv
  | .rangeFunc _ _ _ _, fr, fr', h, h', x, μ, w, a, e, r, f => by simp [aexec] at e
  | .scope _, fr, fr', h, h', x, μ, w, a, e, r, f => by simp [aexec] at e
  | .goto _, fr, fr', h, h', x, μ, w, a, e, r, f => by simp [aexec] at e
  | .refuse _, fr, fr', h, h', x, μ, w, a, e, r, f => by simp [aexec] at e

theorem foldl_set_get : ∀ (l : List AV) (k : Nat) (t : T AV) (i : Nat), ((l.zipIdx k).foldl (fun t p => t.set p.2 p.1) t).get i = if k ≤ i ∧ i < k + l.length then l[i - k]? else t.get i
  | [], k, t, i => by simp; omega
  | x :: l, k, t, i => by
    simp only [List.zipIdx_cons, List.foldl_cons, List.length_cons]
    rw [foldl_set_get l (k + 1)]
    by_cases h1 : k + 1 ≤ i ∧ i < k + 1 + l.length
    · rw [if_pos h1, if_pos (by omega), show i - k = (i - (k + 1)) + 1 from by omega]; simp
    · rw [if_neg h1, T.get_set]
      by_cases h2 : i = k
      · subst h2; simp
      · rw [if_neg h2, if_neg (by omega)]
theorem Fr.get_ofArgs (n : Nat) (args : List AV) (i : Nat) : (Fr.ofArgs n args).get i = (args[i]?).getD .any := by
  unfold Fr.get Fr.ofArgs
  simp only
  rw [foldl_set_get]
  by_cases h : i < args.length
  · rw [if_pos (by omega)]; simp
  · rw [if_neg (by omega), List.getElem?_eq_none (by omega)]; rfl
theorem ofArgs_rel {μ : Mu} {w : World} {n : Nat} {args : List AV} {vs : List Value} (hv : Vs μ w args vs) : FrRel μ w (Fr.ofArgs n args) { tmps := vs.toArray ++ Array.replicate (n - vs.toArray.size) undef, defers := [] } := by
  have hl := hv.length
  refine ⟨rfl, by simp [Fr.ofArgs]; omega, fun i => ?_⟩
  rw [Fr.get_ofArgs]
  simp only [Array.getD_eq_getD_getElem?]
  by_cases hi : i < args.length
  · obtain ⟨u, hu, hx⟩ := hv.get i _ (List.getElem?_eq_getElem hi)
    rw [List.getElem?_eq_getElem hi, Array.getElem?_append_left (by simp; omega)]
    have : vs.toArray[i]? = some u := by simpa using hu
    rw [this]; exact hx
  · rw [List.getElem?_eq_none (by omega), Array.getElem?_append_right (by simp; omega)]
    simp only [Option.getD_none, V]
def resOf (tmps : Array Value) : ResultVar → Sem Value
  | .tmp t => pure (tmps.getD t undef)
  | .cell p t => do loadVar t (← asAddr (tmps.getD p undef))
theorem results_eq (fn : Func) (tmps : Array Value) : results fn tmps = (do let vs ← fn.results.mapM (resOf tmps); pure (if h : vs.size = 1 then vs[0] else .tuple vs)) := by
  unfold results
  congr 1
theorem aresults_V {μ : Mu} {h : AH} {w : World} {fr : Fr} {a : Act} (r : R B0 G μ h w) (f : FrRel μ w fr a) : ∀ {l : List ResultVar} {xs : List AV}, aresults P h fr l = some xs →
    ∃ us : List Value, (l.mapM (resOf a.tmps)).run P w = .ok us w ∧ Vs μ w xs us
  | [], xs, e => by simp [aresults] at e; subst e; exact ⟨[], by simp, by simp [Vs]⟩
  | x :: l, xs, e => by
    simp only [aresults] at e
    cases h1 : aresult P h fr x with
    | none => rw [h1] at e; simp at e
    | some y =>
      cases h2 : aresults P h fr l with
      | none => rw [h1, h2] at e; simp at e
      | some ys =>
        rw [h1, h2] at e; simp at e; subst e
        obtain ⟨us, hr, hv⟩ := aresults_V r f h2
        have hx : ∃ u, (resOf a.tmps x).run P w = .ok u w ∧ V μ w y u := by
          cases x with
          | tmp t => simp only [aresult, Option.some.injEq] at h1; subst h1; exact ⟨_, rfl, f.val t⟩
          | cell p t =>
            simp only [resOf]
            simp only [aresult] at h1
            have hp := f.val p
            obtain ⟨u, hld, hvv⟩ := load_run (P := P) r.objs hp h1
            refine ⟨u, ?_, hvv⟩
            rw [← hld]
            cases hq : fr.get p with
            | ptr o off =>
              rw [hq] at hp; simp only [V] at hp
              obtain ⟨b, _, hb⟩ := hp
              rw [hb]
              simp only [asAddr, Instr.loadAt, Instr.sureAddr, Sem.run_bind, Sem.run_pure, Result.andThen_ok]
            | cptr cs =>
              rw [hq] at hp; simp only [V] at hp
              obtain ⟨b, off, hb, hcs⟩ := hp
              rw [hb]
              simp only [asAddr, Instr.loadAt, Instr.sureAddr, Sem.run_bind, Sem.run_pure, Result.andThen_ok]
            | _ => rw [hq] at h1; simp [aload] at h1
        obtain ⟨u, hu, hvu⟩ := hx
        refine ⟨u :: us, ?_, by simp only [Vs]; exact ⟨u, us, rfl, hvu, hv⟩⟩
        rw [List.mapM_cons]
        simp only [Sem.run_bind, hu, Result.andThen_ok, hr, Sem.run_pure]
theorem aret_run {μ : Mu} {h : AH} {w : World} {fr : Fr} {a : Act} (r : R B0 G μ h w) (f : FrRel μ w fr a) {fn : Func} {xs : List AV} (e : aresults P h fr fn.results.toList = some xs) :
    ∃ u, (results fn a.tmps).run P w = .ok u w ∧ V μ w (aret xs) u := by
  obtain ⟨us, hr, hv⟩ := aresults_V r f e
  have hm : (fn.results.mapM (resOf a.tmps)).run P w = .ok us.toArray w := by
    rw [Array.mapM_eq_mapM_toList]
    simp only [Sem.run_map, hr, Result.andThen_ok]
  refine ⟨if h : us.toArray.size = 1 then us.toArray[0] else .tuple us.toArray, ?_, ?_⟩
  · rw [results_eq]
    simp only [Sem.run_bind, hm, Result.andThen_ok, Sem.run_pure]
  · have hl := hv.length
    cases xs with
    | nil => simp at hl; subst hl; simp [aret, V, Vs]
    | cons x xs =>
      simp only [Vs] at hv
      obtain ⟨u, us', rfl, hx, hxs⟩ := hv
      cases xs with
      | nil => simp only [Vs] at hxs; subst hxs; simpa [aret] using hx
      | cons y ys =>
        have hl' := hxs.length
        simp only [aret]
        rw [dif_neg (by simp; intro q; rw [q] at hl'; simp at hl')]
        simp only [V]
        exact ⟨_, rfl, by simp only [Vs]; exact ⟨u, us', rfl, hx, by simpa [Vs] using hxs⟩⟩

theorem arun_sound {call : FuncId → List AV → AH → Option (AOut × AH)} (hc : CallOk P B0 G call) (hmix : P.follows .mixedOrders = true) (N : Nat) : CallOk P B0 G (arun P G call N) := by
  intro f args h out h' e μ w vs r hv
  unfold arun at e
  split at e
  · rename_i fn hfn
    split at e
    · rename_i c hb
      refine calls_of_wp hfn hb ?_
      have f0 := ofArgs_rel (n := fn.ntmps) hv
      have fin : ∀ {x : AX} {fr1 : Fr} {h1 : AH}, (x = .norm ∨ x = .ret) → aexec P G call N c (Fr.ofArgs fn.ntmps args) h = some (x, fr1, h1) → (aresults P h1 fr1 fn.results.toList).map (fun xs => (AOut.ret (aret xs), h1)) = some (out, h') →
          c.wp P (bodyPost P fn (Post B0 G μ h w out h')) { tmps := vs.toArray ++ Array.replicate (fn.ntmps - vs.toArray.size) undef, defers := [] } w := by
        intro x fr1 h1 hx he hres
        cases hr : aresults P h1 fr1 fn.results.toList with
        | none => rw [hr] at hres; simp at hres
        | some xs =>
          rw [hr] at hres; simp only [Option.map_some, Option.some.injEq, Prod.mk.injEq] at hres; obtain ⟨rfl, rfl⟩ := hres
          refine wp_mono (aexec_sound hc hmix N c he r f0) ?_
          rintro ex a1 w1 ⟨μ1, st, f1, hex⟩
          obtain ⟨u, hu, hvu⟩ := aret_run (P := P) st.r f1 hr
          rcases hx with rfl | rfl <;> (simp only [ExRel] at hex; subst hex; exact ⟨f1.defers, u, hu, μ1, st, u, rfl, hvu⟩)
      split at e
      · rename_i fr1 h1 he; exact fin (.inl rfl) he e
      · rename_i fr1 h1 he; exact fin (.inr rfl) he e
      · rename_i x fr1 h1 he
        simp only [Option.some.injEq, Prod.mk.injEq] at e; obtain ⟨rfl, rfl⟩ := e
        refine wp_mono (aexec_sound hc hmix N c he r f0) ?_
        rintro ex a1 w1 ⟨μ1, st, f1, hex⟩
        obtain ⟨u, rfl, hvu⟩ := hex
        exact ⟨f1.defers, μ1, st, u, rfl, hvu⟩
      · cases e
    · cases e
  · cases e
def SummOk (P : Program) (B0 : Nat) (G : Nat → Option (List AV)) (S : Summ) : Prop :=
  ∀ f s, S f = some s → ∀ args h out h', s args h = some (out, h') → ∀ μ w vs, R B0 G μ h w → Vs μ w args vs → Calls P f vs.toArray w (Post B0 G μ h w out h')
theorem acall_sound {S : Summ} (hS : SummOk P B0 G S) (hmix : P.follows .mixedOrders = true) : ∀ n, CallOk P B0 G (acall P G S n)
  | 0 => by intro f args h out h' e; simp [acall] at e
  | n + 1 => by
    intro f args h out h' e μ w vs r hv
    simp only [acall] at e
    cases hs : S f with
    | some s => rw [hs] at e; exact hS f s hs args h out h' e μ w vs r hv
    | none => rw [hs] at e; exact arun_sound (acall_sound hS hmix n) hmix n f args h out h' e μ w vs r hv
end
end

/-! ### Pg, part 9: contracts as predicates: calls, statements, loops; what may be forgotten. -/
section
set_option linter.unusedSectionVars false

section
variable {P : Program} {B0 : Nat} {G : Nat → Option (List AV)}

/-- What a call does. -/
def CALL (P : Program) (G : Nat → Option (List AV)) (f : FuncId) (args : List AV) (h : AH) (Q : AOut → AH → Prop) : Prop :=
  ∀ B0 μ w vs, R B0 G μ h w → Vs μ w args vs → Calls P f vs.toArray w fun e w' => ∃ out h', Q out h' ∧ Post B0 G μ h w out h' e w'
theorem CALL.mono {f : FuncId} {args : List AV} {h : AH} {Q Q' : AOut → AH → Prop} (c : CALL P G f args h Q) (hq : ∀ o h', Q o h' → Q' o h') : CALL P G f args h Q' :=
  fun B0 μ w vs r hv => (c B0 μ w vs r hv).mono fun _ _ ⟨o, h', q, p⟩ => ⟨o, h', hq o h' q, p⟩
theorem CALL.of_call {call : FuncId → List AV → AH → Option (AOut × AH)} (hc : ∀ B0, CallOk P B0 G call) {f : FuncId} {args : List AV} {h h' : AH} {out : AOut} (e : call f args h = some (out, h')) :
    CALL P G f args h fun o k => o = out ∧ k = h' :=
  fun B0 μ w vs r hv => (hc B0 f args h out h' e μ w vs r hv).mono fun _ _ p => ⟨out, h', ⟨rfl, rfl⟩, p⟩

/-- What a statement does. -/
def WP (P : Program) (G : Nat → Option (List AV)) (c : Code) (fr : Fr) (h : AH) (Q : AX → Fr → AH → Prop) : Prop :=
  ∀ B0 μ w a, R B0 G μ h w → FrRel μ w fr a → c.wp P (fun e a' w' => ∃ x fr' h', Q x fr' h' ∧ Fin B0 G μ h w x fr' h' e a' w') a w
def thenQ (K : Fr → AH → Prop) (Q : AX → Fr → AH → Prop) : AX → Fr → AH → Prop
  | .norm, fr, h => K fr h
  | .exit j, fr, h => Q (.exit j) fr h
  | .ret, fr, h => Q .ret fr h
  | .pan x, fr, h => Q (.pan x) fr h
def blockQ (id : Nat) (Q : AX → Fr → AH → Prop) : AX → Fr → AH → Prop
  | .exit j, fr, h => if j = id then Q .norm fr h else Q (.exit j) fr h
  | .norm, fr, h => Q .norm fr h
  | .ret, fr, h => Q .ret fr h
  | .pan x, fr, h => Q (.pan x) fr h
variable {fr : Fr} {h : AH} {Q : AX → Fr → AH → Prop} {c d : Code}
theorem WP.mono {Q' : AX → Fr → AH → Prop} (k : WP P G c fr h Q) (hq : ∀ x fr h, Q x fr h → Q' x fr h) : WP P G c fr h Q' :=
  fun B0 μ w a r f => wp_mono (k B0 μ w a r f) fun _ _ _ ⟨x, fr', h', q, z⟩ => ⟨x, fr', h', hq _ _ _ q, z⟩
theorem WP.skip (q : Q .norm fr h) : WP P G .skip fr h Q := fun _ μ _ _ r f => wp_skip ⟨.norm, fr, h, q, μ, Step.refl r, f, rfl⟩
theorem WP.label {l : Nat} (q : Q .norm fr h) : WP P G (.label l) fr h Q := fun _ μ _ _ r f => wp_label ⟨.norm, fr, h, q, μ, Step.refl r, f, rfl⟩
theorem WP.exit {id : Nat} (q : Q (.exit id) fr h) : WP P G (.exit id) fr h Q := fun _ μ _ _ r f => wp_exit ⟨.exit id, fr, h, q, μ, Step.refl r, f, rfl⟩
theorem WP.ret (q : Q .ret fr h) : WP P G .ret fr h Q := fun _ μ _ _ r f => wp_ret ⟨.ret, fr, h, q, μ, Step.refl r, f, rfl⟩
theorem WP.seq (k : WP P G c fr h (thenQ (fun fr h => WP P G d fr h Q) Q)) : WP P G (.seq c d) fr h Q := fun B0 μ w a r f => by
  refine wp_seq (wp_mono (k B0 μ w a r f) ?_)
  rintro ex a1 w1 ⟨x, fr1, h1, q, μ1, st, f1, hex⟩
  cases x with
  | norm =>
    simp only [ExRel] at hex; subst hex
    exact wp_mono (q B0 μ1 w1 a1 st.r f1) fun e' a' w' ⟨x, fr', h', q', z⟩ => ⟨x, fr', h', q', z.trans st⟩
  | exit id => simp only [ExRel] at hex; subst hex; exact ⟨_, _, _, q, μ1, st, f1, rfl⟩
  | ret => simp only [ExRel] at hex; subst hex; exact ⟨_, _, _, q, μ1, st, f1, rfl⟩
  | pan z => obtain ⟨u, rfl, hv⟩ := hex; exact ⟨_, _, _, q, μ1, st, f1, u, rfl, hv⟩
theorem WP.cond {o : Operand} {b : Bool} (e : aev G fr o = some (.v (.bool b))) (k : WP P G (if b then c else d) fr h Q) : WP P G (.cond o c d) fr h Q := fun B0 μ w a r f => by
  have hv := aev_V r.glob f e
  simp only [V] at hv
  exact wp_cond hv.2 (k B0 μ w a r f)
theorem WP.block {id : Nat} (k : WP P G c fr h (blockQ id Q)) : WP P G (.block id c) fr h Q := fun B0 μ w a r f => by
  refine wp_block (wp_mono (k B0 μ w a r f) ?_)
  rintro ex a1 w1 ⟨x, fr1, h1, q, μ1, st, f1, hex⟩
  cases x with
  | norm => simp only [ExRel] at hex; subst hex; exact ⟨_, _, _, q, μ1, st, f1, rfl⟩
  | exit j =>
    simp only [ExRel] at hex; subst hex
    simp only [Exit.inBlock]
    simp only [blockQ] at q
    by_cases hj : j = id
    · rw [if_pos hj] at q ⊢; exact ⟨_, _, _, q, μ1, st, f1, rfl⟩
    · rw [if_neg hj] at q ⊢; exact ⟨_, _, _, q, μ1, st, f1, rfl⟩
  | ret => simp only [ExRel] at hex; subst hex; exact ⟨_, _, _, q, μ1, st, f1, rfl⟩
  | pan z => obtain ⟨u, rfl, hv⟩ := hex; exact ⟨_, _, _, q, μ1, st, f1, u, rfl, hv⟩

/-! ### What may be forgotten -/
structure Restr (no nt : Nat) (μ μ' : Mu) : Prop where
  obj : ∀ o, μ'.obj o = if o < no then μ.obj o else none
  tok : ∀ t, μ'.tok t = if t < nt then μ.tok t else none
  com : ∀ b off, μ'.com b off ↔ μ.com b off
/-- All that 'x' says, 'y' may say, where objects and tokens beyond two bounds are forgotten. -/
def SubB (no nt : Nat) (x y : AV) : Prop := ∀ μ μ' w u, Restr no nt μ μ' → V μ w x u → V μ' w y u
def SubBs (no nt : Nat) : List AV → List AV → Prop
  | [], [] => True
  | x :: xs, y :: ys => SubB no nt x y ∧ SubBs no nt xs ys
  | _, _ => False
theorem SubBs.Vs {no nt : Nat} : ∀ {xs ys : List AV}, SubBs no nt xs ys → ∀ {μ μ' : Mu} {w : World} {us : List Value}, Restr no nt μ μ' → Vs μ w xs us → Vs μ' w ys us
  | [], [], _, μ, μ', w, us, _, hv => by simp only [Pg.Vs] at hv ⊢; exact hv
  | x :: xs, y :: ys, hs, μ, μ', w, us, hr, hv => by
    simp only [Pg.Vs] at hv ⊢
    obtain ⟨u, us', e, h1, h2⟩ := hv
    exact ⟨u, us', e, hs.1 μ μ' w u hr h1, hs.2.Vs hr h2⟩
  | [], _ :: _, hs, _, _, _, _, _, _ => hs.elim
  | _ :: _, [], hs, _, _, _, _, _, _ => hs.elim
theorem SubBs.Cells {no nt : Nat} : ∀ {xs ys : List AV}, SubBs no nt xs ys → ∀ {μ μ' : Mu} {w : World} {b off : Nat}, Restr no nt μ μ' → Cells μ w xs b off → Cells μ' w ys b off
  | [], [], _, μ, μ', w, b, off, _, hv => by simp only [Pg.Cells]
  | x :: xs, y :: ys, hs, μ, μ', w, b, off, hr, hv => by
    simp only [Pg.Cells] at hv ⊢
    obtain ⟨h0, ⟨u, hu, h1⟩, h2⟩ := hv
    exact ⟨(hr.com _ _).2 h0, ⟨u, hu, hs.1 μ μ' w u hr h1⟩, hs.2.Cells hr h2⟩
  | [], _ :: _, hs, _, _, _, _, _, _, _ => hs.elim
  | _ :: _, [], hs, _, _, _, _, _, _, _ => hs.elim
def OSub (no nt : Nat) : AObj → AObj → Prop
  | .cells e xs, .cells e' ys => e = e' ∧ SubBs no nt xs ys
  | .map es, .map es' => es.map (·.1) = es'.map (·.1) ∧ SubBs no nt (es.map (·.2)) (es'.map (·.2))
  | _, .dead => True
  | _, _ => False
theorem OSub.ORel {no nt : Nat} {ob ob' : AObj} (hs : OSub no nt ob ob') {μ μ' : Mu} {w : World} {b : Nat} (hr : Restr no nt μ μ') (ho : ORel μ w ob b) : ORel μ' w ob' b := by
  cases ob' with
  | dead => exact ho.lt
  | cells e' ys =>
    cases ob with
    | cells e xs =>
      obtain ⟨rfl, hs⟩ := hs
      obtain ⟨vs, hv, hc⟩ := ho
      exact ⟨vs, hv, hs.Vs hr hc⟩
    | _ => exact hs.elim
  | map es' =>
    cases ob with
    | map es =>
      obtain ⟨hk, hs⟩ := hs
      obtain ⟨ents, clock, hv, hk', hc⟩ := ho
      exact ⟨ents, clock, hv, hk'.trans hk, hs.Vs hr hc⟩
    | _ => exact hs.elim

section
variable {μ0 μ1 μ2 : Mu} (hobj : ∀ o, μ0.obj o ≠ none → μ2.obj o = μ1.obj o) (htok : ∀ t, μ0.tok t ≠ none → μ2.tok t = μ1.tok t) (hcom : ∀ b off, μ1.com b off → μ2.com b off)
include hobj htok hcom
mutual
/-- What was known before names nothing new. -/
theorem V.dom {w0 w : World} : ∀ (x : AV) (u0 u : Value), V μ0 w0 x u0 → V μ1 w x u → V μ2 w x u
  | .v _, _, _, _, hv => by simp only [V] at hv ⊢; exact hv
  | .ptr o off, _, _, h0, hv => by
    simp only [V] at h0 hv ⊢
    obtain ⟨b0, e0, _⟩ := h0
    obtain ⟨b, e, eu⟩ := hv
    exact ⟨b, (hobj o (by rw [e0]; simp)).trans e, eu⟩
  | .arr o off n, _, _, h0, hv => by
    simp only [V] at h0 hv ⊢
    obtain ⟨b0, _, e0, _⟩ := h0
    obtain ⟨b, c, e, eu⟩ := hv
    exact ⟨b, c, (hobj o (by rw [e0]; simp)).trans e, eu⟩
  | .mp o, _, _, h0, hv => by
    simp only [V] at h0 hv ⊢
    obtain ⟨b0, e0, _⟩ := h0
    obtain ⟨b, e, eu⟩ := hv
    exact ⟨b, (hobj o (by rw [e0]; simp)).trans e, eu⟩
  | .cptr cs, _, _, h0, hv => by
    simp only [V] at h0 hv ⊢
    obtain ⟨b0, off0, _, h0⟩ := h0
    obtain ⟨b, off, e, hc⟩ := hv
    exact ⟨b, off, e, Cells.dom cs b0 off0 b off h0 hc⟩
  | .sl .nil n cs, _, _, h0, hv => by simp only [V] at hv ⊢; exact hv
  | .sl .none n cs, _, _, h0, hv => by
    simp only [V] at h0 hv ⊢
    obtain ⟨A0, c0, _, _, h0⟩ := h0
    obtain ⟨A, c, e, hn, hc⟩ := hv
    refine ⟨A, c, e, hn, fun hne => ?_⟩
    obtain ⟨b0, off0, _, h0⟩ := h0 hne
    obtain ⟨b, off, eA, hc⟩ := hc hne
    exact ⟨b, off, eA, Cells.dom cs b0 off0 b off h0 hc⟩
  | .sl (.own t k s) n cs, _, _, h0, hv => by
    simp only [V] at h0 hv ⊢
    obtain ⟨b0, off0, c0, i0, _, _, h0, ht0, _⟩ := h0
    obtain ⟨b, off, c, i, e, hn, hc, ht, rest⟩ := hv
    exact ⟨b, off, c, i, e, hn, Cells.dom cs b0 off0 b off h0 hc, (htok t (by rw [ht0]; simp)).trans ht, rest⟩
  | .fn f first cap, _, _, h0, hv => by
    simp only [V] at h0 hv ⊢
    obtain ⟨a0, b0, _, h1, h2⟩ := h0
    obtain ⟨a, b, e, h3, h4⟩ := hv
    exact ⟨a, b, e, Vs.dom first _ _ h1 h3, Vs.dom cap _ _ h2 h4⟩
  | .ifc t x, _, _, h0, hv => by
    simp only [V] at h0 hv ⊢
    obtain ⟨y0, _, h0⟩ := h0
    obtain ⟨y, e, hy⟩ := hv
    exact ⟨y, e, V.dom x _ _ h0 hy⟩
  | .agg cs, _, _, h0, hv => by
    simp only [V] at h0 hv ⊢
    obtain ⟨y0, _, h0⟩ := h0
    obtain ⟨y, e, hy⟩ := hv
    exact ⟨y, e, Vs.dom cs _ _ h0 hy⟩
  | .tup cs, _, _, h0, hv => by
    simp only [V] at h0 hv ⊢
    obtain ⟨y0, _, h0⟩ := h0
    obtain ⟨y, e, hy⟩ := hv
    exact ⟨y, e, Vs.dom cs _ _ h0 hy⟩
  | .any, _, _, _, _ => by simp only [V]
theorem Vs.dom {w0 w : World} : ∀ (xs : List AV) (u0 u : List Value), Vs μ0 w0 xs u0 → Vs μ1 w xs u → Vs μ2 w xs u
  | [], _, _, _, hv => by simp only [Vs] at hv ⊢; exact hv
  | x :: xs, _, _, h0, hv => by
    simp only [Vs] at h0 hv ⊢
    obtain ⟨u0, us0, _, h1, h2⟩ := h0
    obtain ⟨u, us, e, h3, h4⟩ := hv
    exact ⟨u, us, e, V.dom x _ _ h1 h3, Vs.dom xs _ _ h2 h4⟩
theorem Cells.dom {w0 w : World} : ∀ (xs : List AV) (b0 off0 b off : Nat), Cells μ0 w0 xs b0 off0 → Cells μ1 w xs b off → Cells μ2 w xs b off
  | [], _, _, _, _, _, hv => by simp only [Cells]
  | x :: xs, _, _, _, _, h0, hv => by
    simp only [Cells] at h0 hv ⊢
    obtain ⟨_, ⟨u0, _, h1⟩, h2⟩ := h0
    obtain ⟨c, ⟨u, e, h3⟩, h4⟩ := hv
    exact ⟨hcom _ _ c, ⟨u, e, V.dom x _ _ h1 h3⟩, Cells.dom xs _ _ _ _ h2 h4⟩
end
theorem ORel.dom {w0 w : World} {ob : AObj} {b0 b : Nat} (h0 : ORel μ0 w0 ob b0) (ho : ORel μ1 w ob b) : ORel μ2 w ob b := by
  cases ob with
  | dead => exact ho
  | cells e cs =>
    obtain ⟨_, _, h0⟩ := h0
    obtain ⟨vs, hv, hc⟩ := ho
    exact ⟨vs, hv, Vs.dom hobj htok hcom _ _ _ h0 hc⟩
  | map es =>
    obtain ⟨_, _, _, _, h0⟩ := h0
    obtain ⟨ents, clock, hv, hk, hc⟩ := ho
    exact ⟨ents, clock, hv, hk, Vs.dom hobj htok hcom _ _ _ h0 hc⟩
end

/-- From a heap 'h'', reached from 'hs', to 'h''': what is new may be forgotten, and what is kept may say less. -/
structure DropH (hs h' h'' : AH) : Prop where
  lo : hs.next ≤ h''.next
  hi : h''.next ≤ h'.next
  tlo : hs.tnext ≤ h''.tnext
  thi : h''.tnext ≤ h'.tnext
  obj : ∀ o ob, o < h''.next → h'.get o = some ob → (o < hs.next ∧ hs.get o = some ob ∧ h''.get o = some ob) ∨ ∃ ob'', h''.get o = some ob'' ∧ OSub h''.next h''.tnext ob ob''
  tok : ∀ t, t < h''.tnext → h''.tok t = h'.tok t
structure Drop (hs : AH) (fr' : Fr) (h' : AH) (fr'' : Fr) (h'' : AH) : Prop where
  n : fr''.n = fr'.n
  fr : ∀ i, SubB h''.next h''.tnext (fr'.get i) (fr''.get i)
  hp : DropH hs h' h''

theorem DropH.step {hs h' h'' : AH} (k : DropH hs h' h'') {μ μ' : Mu} {w w' : World} (r : R B0 G μ hs w) (st : Step B0 G μ hs w μ' h' w') :
    ∃ μ'', Restr h''.next h''.tnext μ' μ'' ∧ Step B0 G μ hs w μ'' h'' w' := by
  let μ2 : Mu := { obj := fun o => if o < h''.next then μ'.obj o else none, com := μ'.com, tok := fun t => if t < h''.tnext then μ'.tok t else none }
  have hr : Restr h''.next h''.tnext μ' μ2 := ⟨fun _ => rfl, fun _ => rfl, fun _ _ => Iff.rfl⟩
  have ho2 : ∀ o b, μ2.obj o = some b → o < h''.next ∧ μ'.obj o = some b := fun o b e => by
    simp only [μ2] at e; split at e
    · exact ⟨‹_›, e⟩
    · cases e
  have ht2 : ∀ t i, μ2.tok t = some i → t < h''.tnext ∧ μ'.tok t = some i := fun o b e => by
    simp only [μ2] at e; split at e
    · exact ⟨‹_›, e⟩
    · cases e
  have hold : ∀ o, μ.obj o ≠ none → o < hs.next := fun o ho => by
    rcases Nat.lt_or_ge o hs.next with q | q
    · exact q
    · exact absurd (r.next o q) ho
  have holdt : ∀ o, μ.tok o ≠ none → o < hs.tnext := fun o ho => by
    rcases Nat.lt_or_ge o hs.tnext with q | q
    · exact q
    · exact absurd (r.tnext o q) ho
  have hobj : ∀ o, μ.obj o ≠ none → μ2.obj o = μ'.obj o := fun o ho => by simp only [μ2]; rw [if_pos (Nat.lt_of_lt_of_le (hold o ho) k.lo)]
  have htok : ∀ o, μ.tok o ≠ none → μ2.tok o = μ'.tok o := fun o ho => by simp only [μ2]; rw [if_pos (Nat.lt_of_lt_of_le (holdt o ho) k.tlo)]
  refine ⟨μ2, hr, ⟨⟨fun o b e => ?_, fun b off e => st.le.com b off e, fun t i e => ?_⟩, ?_, st.size, st.keep, st.com, k.lo, k.tlo, fun o b e => st.newo o b (ho2 o b e).2, fun t i e => st.newt t i (ht2 t i e).2, fun b off e => st.newc b off e, st.env⟩⟩
  · rw [hobj o (by rw [e]; simp)]; exact st.le.obj o b e
  · rw [htok t (by rw [e]; simp)]; exact st.le.tok t i e
  · refine ⟨st.r.base, fun o b e => ?_, fun o o' b e e' => st.r.inj o o' b (ho2 o b e).2 (ho2 o' b e').2, fun b off e => ?_, fun t i e => ?_, fun t t' i i' e e' hb => st.r.tinj t t' i i' (ht2 t i e).2 (ht2 t' i' e').2 hb,
      fun t i o e e' => st.r.sep t i o (ht2 t i e).2 (ho2 o i.b e').2, fun o ho => ?_, fun t ht => ?_, fun g cs e => ?_⟩
    · obtain ⟨hlt, e1⟩ := ho2 o b e
      obtain ⟨hb, ob, hg, hor⟩ := st.r.obj o b e1
      refine ⟨hb, ?_⟩
      rcases k.obj o ob hlt hg with ⟨h1, h2, h3⟩ | ⟨ob2, h1, h2⟩
      · refine ⟨ob, h3, ?_⟩
        have e0 : μ.obj o = some b := by
          rcases st.newo o b e1 with q | q
          · exact q
          · omega
        obtain ⟨_, ob0, hg0, hor0⟩ := r.obj o b e0
        rw [h2] at hg0; cases hg0
        exact ORel.dom hobj htok (fun _ _ q => q) hor0 hor
      · exact ⟨ob2, h1, h2.ORel hr hor⟩
    · obtain ⟨h1, h2, h3⟩ := st.r.com b off e
      exact ⟨fun o q => h1 o (ho2 o b q).2, fun t i q => h2 t i (ht2 t i q).2, h3⟩
    · obtain ⟨hlt, e1⟩ := ht2 t i e
      obtain ⟨h1, h2, h3⟩ := st.r.tok t i e1
      exact ⟨h1, (k.tok t hlt).trans h2, h3⟩
    · simp only [μ2]; rw [if_neg (by omega)]
    · simp only [μ2]; rw [if_neg (by omega)]
    · exact Cells.dom hobj htok (fun _ _ q => q) _ _ _ _ _ (r.glob g cs e) (st.r.glob g cs e)
theorem Drop.step {hs h' h'' : AH} {fr' fr'' : Fr} (k : Drop hs fr' h' fr'' h'') {μ μ' : Mu} {w w' : World} {a : Act} (r : R B0 G μ hs w) (st : Step B0 G μ hs w μ' h' w') (f : FrRel μ' w' fr' a) :
    ∃ μ'', Step B0 G μ hs w μ'' h'' w' ∧ FrRel μ'' w' fr'' a := by
  obtain ⟨μ'', hr, st'⟩ := k.hp.step r st
  exact ⟨μ'', st', f.defers, f.size.trans k.n.symm, fun i => k.fr i μ' μ'' w' _ hr (f.val i)⟩

def loopQ (I : Nat → Fr → AH → Prop) (Q : AX → Fr → AH → Prop) (n : Nat) (h1 : AH) : AX → Fr → AH → Prop
  | .norm, fr', h' => ∃ m fr2 h2, m < n ∧ Drop h1 fr' h' fr2 h2 ∧ I m fr2 h2
  | .exit j, fr, h => Q (.exit j) fr h
  | .ret, fr, h => Q .ret fr h
  | .pan x, fr, h => Q (.pan x) fr h
theorem WP.loop (I : Nat → Fr → AH → Prop) (h0 : ∃ n fr0 h0, Drop h fr h fr0 h0 ∧ I n fr0 h0) (hs : ∀ n fr1 h1, I n fr1 h1 → WP P G c fr1 h1 (loopQ I Q n h1)) : WP P G (.loop c) fr h Q := fun B0 μ w a r f => by
  obtain ⟨n0, fr0, h0, hd, hi⟩ := h0
  obtain ⟨μ0, st0, f0⟩ := hd.step r (Step.refl r) f
  refine wp_loop_ghost (fun n a1 w1 => ∃ fr1 h1 μ1, I n fr1 h1 ∧ Step B0 G μ h w μ1 h1 w1 ∧ FrRel μ1 w1 fr1 a1) n0 ⟨fr0, h0, μ0, hi, st0, f0⟩ ?_
  rintro n a1 w1 ⟨fr1, h1, μ1, hi, st, f1⟩
  refine wp_mono (hs n fr1 h1 hi B0 μ1 w1 a1 st.r f1) ?_
  rintro ex a2 w2 ⟨x, fr2, h2, q, μ2, st2, f2, hex⟩
  cases x with
  | norm =>
    simp only [ExRel] at hex; subst hex
    obtain ⟨m, fr3, h3, hm, hd, hi3⟩ := q
    obtain ⟨μ3, st3, f3⟩ := hd.step st.r st2 f2
    exact ⟨m, hm, fr3, h3, μ3, hi3, st.trans st3, f3⟩
  | exit j => simp only [ExRel] at hex; subst hex; exact ⟨_, _, _, q, μ2, st.trans st2, f2, rfl⟩
  | ret => simp only [ExRel] at hex; subst hex; exact ⟨_, _, _, q, μ2, st.trans st2, f2, rfl⟩
  | pan z => obtain ⟨u, rfl, hv⟩ := hex; exact ⟨_, _, _, q, μ2, st.trans st2, f2, u, rfl, hv⟩

/-- The end of a function. -/
def endQ (P : Program) (rs : List ResultVar) (h : AH) (Q : AOut → AH → Prop) : AX → Fr → AH → Prop
  | .norm, fr', h' | .ret, fr', h' => ∃ xs, aresults P h' fr' rs = some xs ∧ ∃ y h'', DropH h h' h'' ∧ SubB h''.next h''.tnext (aret xs) y ∧ Q (.ret y) h''
  | .pan v, _, h' => ∃ y h'', DropH h h' h'' ∧ SubB h''.next h''.tnext v y ∧ Q (.pan y) h''
  | .exit _, _, _ => False
theorem CALL.of_wp {f : FuncId} {fn : Func} {c : Code} (hfn : P.funcs[f]? = some fn) (hb : fn.body = some c) {args : List AV} {h : AH} {Q : AOut → AH → Prop}
    (k : WP P G c (Fr.ofArgs fn.ntmps args) h (endQ P fn.results.toList h Q)) : CALL P G f args h Q := fun B0 μ w vs r hv => by
  refine calls_of_wp hfn hb ?_
  have f0 := ofArgs_rel (n := fn.ntmps) hv
  refine wp_mono (k B0 μ w _ r f0) ?_
  rintro ex a1 w1 ⟨x, fr1, h1, q, μ1, st, f1, hex⟩
  have fin : ∀ xs, aresults P h1 fr1 fn.results.toList = some xs → (∃ y h'', DropH h h1 h'' ∧ SubB h''.next h''.tnext (aret xs) y ∧ Q (.ret y) h'') →
      ∃ u, (results fn a1.tmps).run P w1 = .ok u w1 ∧ ∃ out h', Q out h' ∧ Post B0 G μ h w out h' (.returned u) w1 := by
    rintro xs hres ⟨y, h2, hd, hs, hq⟩
    obtain ⟨u, hu, hvu⟩ := aret_run (P := P) st.r f1 hres
    obtain ⟨μ2, hr, st2⟩ := hd.step r st
    exact ⟨u, hu, .ret y, h2, hq, μ2, st2, u, rfl, hs _ _ _ _ hr hvu⟩
  cases x with
  | norm =>
    simp only [ExRel] at hex; subst hex
    obtain ⟨xs, h2, h3⟩ := q
    obtain ⟨u, hu, hp⟩ := fin xs h2 h3
    exact ⟨f1.defers, u, hu, hp⟩
  | ret =>
    simp only [ExRel] at hex; subst hex
    obtain ⟨xs, h2, h3⟩ := q
    obtain ⟨u, hu, hp⟩ := fin xs h2 h3
    exact ⟨f1.defers, u, hu, hp⟩
  | exit j => exact q.elim
  | pan v =>
    obtain ⟨u, rfl, hvu⟩ := hex
    obtain ⟨y, h2, hd, hs, hq⟩ := q
    obtain ⟨μ2, hr, st2⟩ := hd.step r st
    exact ⟨f1.defers, .pan y, h2, hq, μ2, st2, u, rfl, hs _ _ _ _ hr hvu⟩
end
end
end Go.Proofs.YtkcbhebbjpiibaaDoor.Pg
