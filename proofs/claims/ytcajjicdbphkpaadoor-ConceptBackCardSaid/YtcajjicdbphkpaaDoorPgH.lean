/-
  Pg, part 18: a region whose order is open and in which a call may panic: what only reads is taken first, the rest is a chain.
-/
import Derived.Test.YtcajjicdbphkpaaDoorPgM
import Derived.OrdersHeld
set_option linter.unusedVariables false
set_option linter.unusedSimpArgs false
set_option linter.unusedSectionVars false
namespace Go.Proofs.YtcajjicdbphkpaaDoor.Pg
open Go
def rigid : AV → Bool
  | .v _ | .ptr _ _ => true
  | _ => false
theorem rigid_eq {μ μ' : Mu} {w w' : World} (hl : Le μ μ') {x : AV} (hx : rigid x = true) {u u' : Value} (h : V μ w x u) (h' : V μ' w' x u') : u' = u := by
  cases x with
  | v x => simp only [V] at h h'; rw [h.2, h'.2]
  | ptr o off =>
    simp only [V] at h h'
    obtain ⟨b, hb, rfl⟩ := h
    obtain ⟨b', hb', rfl⟩ := h'
    rw [hl.obj _ _ hb] at hb'; cases hb'; rfl
  | _ => cases hx
def pre (n : Nat) : Nat → Array Bool
  | 0 => Array.replicate n false
  | k + 1 => (pre n k).setIfInBounds k true
def noCv : I → Bool
  | .callv _ _ | .gen _ => false
  | _ => true
def heldOk (ops : Array Oper) (n : Nat) : Bool :=
  decide (n ≤ ops.size) && Region.noSelect ops && ops.toList.all (fun o => o.guard.isNone) &&
  (List.range n).all (fun k => (kindAt ops k == .p || kindAt ops k == .l) && Region.free .any ops (pre ops.size k) k && (Region.ready .any ops (pre ops.size k)).contains k) &&
  (List.range ops.size).all (fun k => decide (k < n) || Region.ready .any ops (pre ops.size k) == [k]) && Region.ready .any ops (pre ops.size ops.size) == []
section
variable {P : Program} {B0 : Nat} {G : Nat → Option (List AV)}
/-- A frame some of whose slots are forgotten. -/
def sets (fr : Fr) : List Nat → Fr
  | [] => fr
  | d :: ds => sets (fr.set d .any) ds
def Held (P : Program) (G : Nat → Option (List AV)) (es : List (Fr × I × AV)) (h : AH) : Prop := ∀ e ∈ es, istep P G e.1 h e.2.1 fun q k => q = .ret e.2.2
def Early : List IOp → Fr → List (Fr × I × AV) → Fr → Prop
  | [], fr, [], fr' => fr' = fr
  | o :: r, fr, e :: es, fr' => e.1 = fr ∧ e.2.1 = o.i ∧ rigid e.2.2 = true ∧ ∃ fr1, fr.put o.d e.2.2 = some fr1 ∧ Early r fr1 es fr'
  | _, _, _, _ => False
def wchain (P : Program) (G : Nat → Option (List AV)) (es : List (Fr × I × AV)) : List IOp → Fr → AH → (AX → Fr → AH → Prop) → Prop
  | [], fr, h, Q => Q .norm fr h
  | o :: r, fr, h, Q => noCv o.i = true ∧ istep P G fr h o.i fun out h' => match out with
    | .ret x => Held P G es h' ∧ wput fr o.d x fun fr' => wchain P G es r fr' h' Q
    | .pan x => ∀ ds, Q (.pan x) (sets fr ds) h'
def wheld (P : Program) (G : Nat → Option (List AV)) (n : Nat) (l : List IOp) (fr : Fr) (h : AH) (Q : AX → Fr → AH → Prop) : Prop :=
  ∃ es frn, Early (l.take n) fr es frn ∧ Held P G es h ∧ wchain P G es (l.drop n) frn h Q
/-- The ends of such a region: where it panics, whatever the frame is. -/
def FinH (nb : Bool) (Q : AX → Fr → AH → Prop) (B0 : Nat) (G : Nat → Option (List AV)) (lo : Nat) (Δ : List Deferred) (μ : Mu) (h : AH) (w : World) : Exit → Act → World → Prop := fun e a' w' => match e with
  | .panic c => ∃ y h' fr', (∀ ds, Q (.pan y) (sets fr' ds) h') ∧ Fin nb B0 G lo Δ μ h w (.pan y) fr' h' (.panic c) a' w'
  | e => FinQ nb Q B0 G lo Δ μ h w e a' w'
theorem FinH.q {nb : Bool} {Q : AX → Fr → AH → Prop} {lo : Nat} {Δ : List Deferred} {μ : Mu} {h : AH} {w : World} {e : Exit} {a' : Act} {w' : World} (k : FinH nb Q B0 G lo Δ μ h w e a' w') : FinQ nb Q B0 G lo Δ μ h w e a' w' := by
  cases e with
  | panic c => obtain ⟨y, h', fr', hq, k⟩ := k; exact ⟨_, fr', h', hq [], k⟩
  | _ => exact k
theorem FrRel.unput {Δ : List Deferred} {μ : Mu} {w : World} {fr : Fr} {a : Act} {d : Option Tmp} {v : Value} (f : FrRel Δ μ w fr (a.put d v)) : ∃ ds, FrRel Δ μ w (sets fr ds) a := by
  cases d with
  | none => exact ⟨[], by simpa [Act.put, sets] using f⟩
  | some d =>
    have hs : (a.put (some d) v).tmps.size = a.tmps.size := by simp [Act.put]
    have hd : (a.put (some d) v).defers = a.defers := rfl
    refine ⟨[d], hd ▸ f.defers, by rw [← hs]; exact f.size, fun i => ?_⟩
    simp only [sets]
    rw [Fr.get_set]
    by_cases e : i = d
    · rw [if_pos e]; simp only [V]
    · rw [if_neg e]
      have := f.val i
      simp only [Act.put] at this
      rw [Array.getD_eq_getD_getElem?, Array.getElem?_setIfInBounds_ne (fun q => e q.symm), ← Array.getD_eq_getD_getElem?] at this
      exact this
theorem sets_append : ∀ (a b : List Nat) (fr : Fr), sets fr (a ++ b) = sets (sets fr a) b
  | [], b, fr => rfl
  | d :: a, b, fr => sets_append a b (fr.set d .any)
theorem FinH.unput {nb : Bool} {Q : AX → Fr → AH → Prop} {lo : Nat} {Δ : List Deferred} {μ : Mu} {h : AH} {w : World} {c : List PanicEntry} {a' : Act} {w' : World} {d : Option Tmp} {v : Value} (k : FinH nb Q B0 G lo Δ μ h w (.panic c) (a'.put d v) w') : FinH nb Q B0 G lo Δ μ h w (.panic c) a' w' := by
  obtain ⟨y, h', fr', hq, μ', ms, s, f, m, hm, ex⟩ := k
  obtain ⟨ds, f2⟩ := f.unput
  exact ⟨y, h', sets fr' ds, fun es => by rw [← sets_append]; exact hq _, μ', ms, s, f2, m, hm, ex⟩
/-- What is kept while the region runs. -/
def SHw (P : Program) (B0 : Nat) (G : Nat → Option (List AV)) (es : List (Fr × I × AV)) (μ : Mu) (w : World) : World → Prop := fun w' => ∃ μ' h', R B0 G μ' h' w' ∧ Le μ μ' ∧ ComKeep μ w w' ∧ Held P G es h'
theorem early_yields {es : List (Fr × I × AV)} {μ : Mu} {w : World} {ops : Array Oper} {o : Oper} {fr : Fr} {a : Act} {Δ : List Deferred} {x : AV} {v : Value} (hg : o.guard = none) (hk : kindOf o = .p ∨ kindOf o = .l) (f : FrRel Δ μ w fr a) (he : (fr, cop' P o, x) ∈ es) (hx : rigid x = true) (hv : V μ w x v) : YieldsIf P ops (SHw P B0 G es μ w) o v a := by
  refine .inl ⟨by unfold Region.wanted; rw [hg], fun w' hs => ?_⟩
  obtain ⟨μ', h', r, hl, hc, hh⟩ := hs
  have f' := f.mono hl hc
  have nv : ∀ (c : Call) (g : Operand), o.op = .call c → c.callee = .value g → False := fun c g h1 h2 => by
    have : kindOf o = .e := by simp [kindOf, h1, h2]
    rw [this] at hk; rcases hk with q | q <;> cases q
  rcases cop'_sound (hh _ he) with ⟨out, h2, e, rfl⟩ | ⟨c, g, g', first, cap, xs, h1, h2, _⟩ | ⟨c, g, ob, xs, h1, h2, _⟩ | ⟨y, z, b, h1, h2, h3, h4⟩
  rotate_left 3
  · simp only [AOut.ret.injEq] at h4
    rw [b2s_run h1 h2 h3 r f', rigid_eq hl hx hv (show V μ' w' x (.string b) by rw [← h4]; simp [V, plain])]
  · unfold astep at e
    rcases hk with hk | hk
    · rw [hk] at e
      cases h1 : pop P G fr o with
      | none => rw [h1] at e; simp at e
      | some y =>
        rw [h1] at e; simp only [Option.map_some, Option.some.injEq, Prod.mk.injEq, AOut.ret.injEq] at e
        obtain ⟨rfl, _⟩ := e
        obtain ⟨u, hr, hu⟩ := pop_run (P := P) (f'.ops r.glob o) hk h1
        rw [hr, rigid_eq hl hx hv hu]
    · rw [hk] at e
      cases h1 : lop P G fr h'.get o with
      | none => rw [h1] at e; simp at e
      | some y =>
        rw [h1] at e; simp only [Option.map_some, Option.some.injEq, Prod.mk.injEq, AOut.ret.injEq] at e
        obtain ⟨rfl, _⟩ := e
        obtain ⟨u, hr, hu⟩ := lop_run (P := P) r.objs (f'.ops r.glob o) h1
        rw [hr, rigid_eq hl hx hv hu]
  · exact (nv c g h1 h2).elim
  · exact (nv c g h1 h2).elim
theorem sim_plain {μ : Mu} {h : AH} {w : World} {fr : Fr} {a : Act} {o : Oper} {K' : AOut → AH → Prop} (hn : noCv (cop' P o) = true) (s : Sim P G fr h o K') (r : R B0 G μ h w) {Δ : List Deferred} (f : FrRel Δ μ w fr a)
    {K : Act → World → Prop} {Q : Exit → Act → World → Prop}
    (hret : ∀ x h' μ' w' u, K' (.ret x) h' → Step B0 G μ h w μ' h' w' → V μ' w' x u → K (a.put o.dst u) w')
    (hpan : ∀ x h' μ' w' u, K' (.pan x) h' → Step B0 G μ h w μ' h' w' → V μ' w' x u → Q (.panic [{ v := u, recovered := false }]) a w') : o.wp P a w K Q := by
  rcases s with ⟨out, h', e, k⟩ | ⟨c, g, g', first, cap, xs, h1, h2, h3, h4, h5, h6⟩ | ⟨c, g, ob, xs, h1, h2, h3, h4, h5⟩ | s
  rotate_left 3
  · exact b2s_wp s r f hret
  · exact astep_sound nocall_ok r f e (fun x μ' w' u e => by subst e; exact hret x h' μ' w' u k) (fun x μ' w' u e => by subst e; exact hpan x h' μ' w' u k)
  · exact call_wp r f h1 h2 h3 h4 h5 h6 hret hpan
  · exfalso
    unfold cop' at hn
    cases hc : cop P o with
    | none => rw [hc] at hn; simp [noCv] at hn
    | some i =>
      rw [hc] at hn
      refine cop_noyld (G := G) (fr := fr) hc (fun f' xs' e => ?_) c g ob h1 h2 h3
      subst e; simp [noCv] at hn
theorem FinH.no {nb : Bool} {Q : AX → Fr → AH → Prop} {lo : Nat} {Δ : List Deferred} {μ : Mu} {h : AH} {w : World} : ¬ LetsOut (FinH nb Q B0 G lo Δ μ h w) := by
  rintro ⟨a, w', k⟩; exact FinQ.no ⟨a, w', FinH.q k⟩
theorem ciop_none {ops : Array Oper} {o : Oper} {i : IOp} (hg : o.guard = none) (h : ciop P ops o = some i) : i = ⟨o.dst, none, ctouch o, cop' P o⟩ := by
  unfold ciop cguard at h
  rw [hg] at h
  simp only [Option.map_some, Option.some.injEq] at h
  exact h.symm
theorem early_val {es : List (Fr × I × AV)} {μ : Mu} {h : AH} {w : World} {o : Oper} {fr : Fr} {a : Act} {Δ : List Deferred} {x : AV} (hk : kindOf o = .p ∨ kindOf o = .l) (r : R B0 G μ h w) (f : FrRel Δ μ w fr a) (hh : Held P G es h) (he : (fr, cop' P o, x) ∈ es) : ∃ v, V μ w x v := by
  have nv : ∀ (c : Call) (g : Operand), o.op = .call c → c.callee = .value g → False := fun c g h1 h2 => by
    have : kindOf o = .e := by simp [kindOf, h1, h2]
    rw [this] at hk; rcases hk with q | q <;> cases q
  rcases cop'_sound (hh _ he) with ⟨out, h2, e, rfl⟩ | ⟨c, g, g', first, cap, xs, h1, h2, _⟩ | ⟨c, g, ob, xs, h1, h2, _⟩ | ⟨y, z, b, h1, h2, h3, h4⟩
  rotate_left 3
  · simp only [AOut.ret.injEq] at h4
    exact ⟨.string b, by rw [← h4]; simp [V, plain]⟩
  · unfold astep at e
    rcases hk with hk | hk
    · rw [hk] at e
      cases h1 : pop P G fr o with
      | none => rw [h1] at e; simp at e
      | some y =>
        rw [h1] at e; simp only [Option.map_some, Option.some.injEq, Prod.mk.injEq, AOut.ret.injEq] at e
        obtain ⟨rfl, _⟩ := e
        obtain ⟨u, _, hu⟩ := pop_run (P := P) (f.ops r.glob o) hk h1
        exact ⟨u, hu⟩
    · rw [hk] at e
      cases h1 : lop P G fr h.get o with
      | none => rw [h1] at e; simp at e
      | some y =>
        rw [h1] at e; simp only [Option.map_some, Option.some.injEq, Prod.mk.injEq, AOut.ret.injEq] at e
        obtain ⟨rfl, _⟩ := e
        obtain ⟨u, _, hu⟩ := lop_run (P := P) r.objs (f.ops r.glob o) h1
        exact ⟨u, hu⟩
  · exact (nv c g h1 h2).elim
  · exact (nv c g h1 h2).elim
theorem held_at {ops : Array Oper} {n : Nat} (hok : heldOk ops n = true) : n ≤ ops.size ∧ Region.noSelect ops = true ∧ (∀ o ∈ ops.toList, o.guard = none) ∧ (∀ k, k < n → (kindAt ops k = .p ∨ kindAt ops k = .l) ∧ Region.free .any ops (pre ops.size k) k = true ∧ (Region.ready .any ops (pre ops.size k)).contains k = true) ∧ (∀ k, n ≤ k → k < ops.size → Region.ready .any ops (pre ops.size k) = [k]) ∧ Region.ready .any ops (pre ops.size ops.size) = [] := by
  unfold heldOk at hok
  simp only [Bool.and_eq_true, decide_eq_true_eq, List.all_eq_true, List.mem_range, Bool.or_eq_true, beq_iff_eq] at hok
  obtain ⟨⟨⟨⟨⟨h1, h2⟩, h3⟩, h4⟩, h5⟩, h6⟩ := hok
  exact ⟨h1, h2, fun o ho => by simpa using h3 o ho, fun k hk => ⟨(h4 k hk).1.1, (h4 k hk).1.2, (h4 k hk).2⟩, fun k hk hk2 => (h5 k hk2).resolve_left (by omega), h6⟩
theorem early_go {ops : Array Oper} {n : Nat} (hok : heldOk ops n = true) {es : List (Fr × I × AV)} {μ : Mu} {h : AH} {w : World} {Δ : List Deferred} (r : R B0 G μ h w) (hh : Held P G es h) {QQ : Exit → Act → World → Prop}
    (hQ : ∀ c a d v w, QQ (.panic c) (Act.put a d v) w → QQ (.panic c) a w) {tl : List Oper} : ∀ (os : List Oper) (s : Nat) (l : List IOp) (es2 : List (Fr × I × AV)) (fr frn : Fr) (A : Act), ciops P ops os = some l → ops.toList.drop s = os ++ tl → s + os.length = n → Early l fr es2 frn → (∀ e ∈ es2, e ∈ es) → FrRel Δ μ w fr A →
    (∀ A', FrRel Δ μ w frn A' → wpAnyH P .any ops QQ (SHw P B0 G es μ w) (ops.size - n) (pre ops.size n) A' w) → wpAnyH P .any ops QQ (SHw P B0 G es μ w) (ops.size - s) (pre ops.size s) A w
  | [], s, l, es2, fr, frn, A, hl, hd, hs, he, hm, f, k => by
    simp only [ciops, Option.some.injEq] at hl; subst hl
    simp only [List.length_nil, Nat.add_zero] at hs; subst hs
    cases es2 with
    | nil => simp only [Early] at he; subst he; exact k A f
    | cons _ _ => exact he.elim
  | o :: os, s, l, es2, fr, frn, A, hl, hd, hs, he, hm, f, k => by
    obtain ⟨a1, a2, a3, a4, a5, a6⟩ := held_at hok
    simp only [List.length_cons] at hs
    simp only [ciops] at hl
    have hget : ops[s]? = some o := by
      have := congrArg (·[0]?) hd
      simpa using this
    have hd' : ops.toList.drop (s + 1) = os ++ tl := by
      have := congrArg List.tail hd
      simpa using this
    have hmem : o ∈ ops.toList := by
      have : o ∈ ops.toList.drop s := by rw [hd]; simp
      exact List.mem_of_mem_drop this
    cases h1 : ciop P ops o with
    | none => rw [h1] at hl; simp at hl
    | some i =>
      cases h2 : ciops P ops os with
      | none => rw [h1, h2] at hl; simp at hl
      | some l' =>
        rw [h1, h2] at hl; simp only [Option.some.injEq] at hl; subst hl
        have hi := ciop_none (a3 o hmem) h1
        subst hi
        cases es2 with
        | nil => exact he.elim
        | cons e es3 =>
          obtain ⟨rfl, hei, hx, fr1, hp, he'⟩ := he
          obtain ⟨frk, ik, x⟩ := e
          simp only at hei hx hp he'
          subst hei
          obtain ⟨b1, b2, b3⟩ := a4 s (by omega)
          have hk : kindOf o = .p ∨ kindOf o = .l := by simpa [kindAt, hget] using b1
          have hin : (frk, cop' P o, x) ∈ es := hm _ List.mem_cons_self
          obtain ⟨v, hv⟩ := early_val hk r f hh hin
          rw [show ops.size - s = (ops.size - (s + 1)) + 1 by omega]
          refine wpAnyH_take hget a2 b2 b3 (fun c a w => hQ c a o.dst v w) (early_yields (a3 o hmem) hk f hin hx hv) ⟨μ, h, r, Le.refl _, fun _ _ _ => rfl, hh⟩ ?_
          exact early_go hok r hh hQ os (s + 1) l' es3 fr1 frn _ h2 hd' (by omega) he' (fun e he => hm e (List.mem_cons_of_mem _ he)) (f.put hp hv) k
theorem chain_go {ops : Array Oper} {n : Nat} (hok : heldOk ops n = true) {es : List (Fr × I × AV)} {nb : Bool} {Q : AX → Fr → AH → Prop} {lo : Nat} {μ : Mu} {h : AH} {w w1 : World} {Δ : List Deferred} (m : MK lo μ w Δ) (s2 : Step B0 G μ h w μ h w1) : ∀ (os : List Oper) (s : Nat) (l : List IOp) (fr : Fr) (hc : AH) (μc : Mu) (wc : World) (A : Act), ciops P ops os = some l → ops.toList.drop s = os → n ≤ s → s ≤ ops.size → wchain P G es l fr hc Q → Step B0 G μ h w1 μc hc wc → FrRel Δ μc wc fr A →
    wpAnyH P .any ops (FinH nb Q B0 G lo Δ μ h w) (SHw P B0 G es μ w1) (ops.size - s) (pre ops.size s) A wc
  | [], s, l, fr, hc, μc, wc, A, hl, hd, hs, hs2, k, st, f => by
    obtain ⟨a1, a2, a3, a4, a5, a6⟩ := held_at hok
    simp only [ciops, Option.some.injEq] at hl; subst hl
    have : ops.size ≤ s := by
      have := congrArg List.length hd
      simp at this; omega
    have e : s = ops.size := by omega
    subst e
    have q : FinH nb Q B0 G lo Δ μ h w .normal A wc := ⟨.norm, fr, hc, k, Fin.one m (s2.trans st) f rfl⟩
    exact wpAnyH_done a6 q _
  | o :: os, s, l, fr, hc, μc, wc, A, hl, hd, hs, hs2, k, st, f => by
    obtain ⟨a1, a2, a3, a4, a5, a6⟩ := held_at hok
    simp only [ciops] at hl
    have hget : ops[s]? = some o := by
      have := congrArg (·[0]?) hd
      simpa using this
    have hlt : s < ops.size := (Array.getElem?_eq_some_iff.1 hget).1
    have hd' : ops.toList.drop (s + 1) = os := by
      have := congrArg List.tail hd
      simpa using this
    have hmem : o ∈ ops.toList := by
      have : o ∈ ops.toList.drop s := by rw [hd]; simp
      exact List.mem_of_mem_drop this
    cases h1 : ciop P ops o with
    | none => rw [h1] at hl; simp at hl
    | some i =>
      cases h2 : ciops P ops os with
      | none => rw [h1, h2] at hl; simp at hl
      | some l' =>
        rw [h1, h2] at hl; simp only [Option.some.injEq] at hl; subst hl
        have hi := ciop_none (a3 o hmem) h1
        subst hi
        obtain ⟨hn, hk⟩ := k
        rw [show ops.size - s = (ops.size - (s + 1)) + 1 by omega]
        refine wpAnyH_all (a5 s hs hlt) (by simp) fun i hi => ?_
        obtain rfl : i = s := by simpa using hi
        unfold wpOp
        have hw : Region.wanted o (yielded ops A.tmps) = true := by unfold Region.wanted; rw [a3 o hmem]
        simp only [hget, hw, if_true]
        refine .inl (sim_plain hn (cop'_sound hk) st.r f ?_ ?_)
        · rintro x h' μ' w' u ⟨hh, hx⟩ st' hv
          have hp : ∃ fr', fr.put o.dst x = some fr' ∧ wchain P G es l' fr' h' Q := by
            unfold wput at hx
            split at hx
            · rename_i hdst
              have hdst' : o.dst = none := hdst
              exact ⟨fr, by simp only [hdst', Fr.put], hx⟩
            · rename_i d hdst
              have hdst' : o.dst = some d := hdst
              exact ⟨fr.set d x, by simp only [hdst', Fr.put]; rw [if_pos hx.1], hx.2⟩
          obtain ⟨fr', hp, hx⟩ := hp
          have st2 := st.trans st'
          exact ⟨⟨μ', h', st2.r, st2.le, st2.com, hh⟩, chain_go hok m s2 os (i + 1) l' fr' h' μ' w' _ h2 hd' (by omega) (by omega) hx st2 ((f.mono st'.le st'.com).put hp hv)⟩
        · intro x h' μ' w' u hx st' hv
          exact ⟨x, h', fr, hx, Fin.one m (s2.trans (st.trans st')) (f.mono st'.le st'.com) ⟨u, rfl, hv⟩⟩
theorem wheld_any {ops : Array Oper} {n : Nat} {l : List IOp} {nb : Bool} {fr : Fr} {h : AH} {Q : AX → Fr → AH → Prop} (hok : heldOk ops n = true) (hl : ciops P ops ops.toList = some l) (k : wheld P G n l fr h Q) {lo : Nat} {Δ : List Deferred} {μ : Mu} {w : World} {a : Act} (r : R B0 G μ h w) (m : MK lo μ w Δ) (f : FrRel Δ μ w fr a) :
    wpAny P .any ops (FinH nb Q B0 G lo Δ μ h w) ops.size (Array.replicate ops.size false) a { w with drawn := w.drawn + 1 } := by
  obtain ⟨es, frn, he, hh, hc⟩ := k
  have hk : ComKeep μ w { w with drawn := w.drawn + 1 } := fun _ _ _ => rfl
  have s2 : Step B0 G μ h w μ h { w with drawn := w.drawn + 1 } := R.heap r rfl ⟨rfl, rfl, rfl⟩
  refine wpAny_of_held (S := SHw P B0 G es μ { w with drawn := w.drawn + 1 }) _ _ _ _ ?_
  have hsz := (held_at hok).1
  have sp : ∀ (os : List Oper) (l : List IOp), ciops P ops os = some l → ∀ k, ciops P ops (os.take k) = some (l.take k) ∧ ciops P ops (os.drop k) = some (l.drop k) := by
    intro os
    induction os with
    | nil => intro l hl k; simp only [ciops, Option.some.injEq] at hl; subst hl; simp [ciops]
    | cons o os ih =>
      intro l hl k
      simp only [ciops] at hl
      cases h1 : ciop P ops o with
      | none => rw [h1] at hl; simp at hl
      | some i =>
        cases h2 : ciops P ops os with
        | none => rw [h1, h2] at hl; simp at hl
        | some l' =>
          rw [h1, h2] at hl; simp only [Option.some.injEq] at hl; subst hl
          cases k with
          | zero => simp [ciops, h1, h2]
          | succ k => obtain ⟨i1, i2⟩ := ih l' h2 k; simp [ciops, h1, i1, i2]
  obtain ⟨g1, g2⟩ := sp _ _ hl n
  have := early_go (tl := ops.toList.drop n) hok s2.r hh (QQ := FinH nb Q B0 G lo Δ μ h w) (fun c a d v w k => FinH.unput k) (ops.toList.take n) 0 (l.take n) es fr frn a g1 (by simp) (by simp; omega) he (fun e he => he) (f.mono (Le.refl _) hk) fun A' f' =>
    chain_go hok m s2 (ops.toList.drop n) n (l.drop n) frn h μ _ A' g2 rfl (Nat.le_refl _) hsz hc (Step.refl s2.r) f'
  simpa [pre] using this
/-! ### Code with such regions -/
inductive IRH where
  | base (a : IR)
  | seq (a b : IRH)
  | cond (x : X) (a b : IRH)
  | block (id : Nat) (a : IRH)
  | held (n : Nat) (l : List IOp)
def earlyOf (ops : Array Oper) : List Nat :=
  (List.range ops.size).foldl (fun acc i => if (kindAt ops i == .p || kindAt ops i == .l) && (List.range ops.size).all (fun j => !(anc ops i).testBit j || acc.contains j) then acc ++ [i] else acc) []
def hreg (ops : Array Oper) : Option (Nat × Array Oper) :=
  let e := earlyOf ops
  let π := e ++ (List.range ops.size).filter fun i => !e.contains i
  let σ := invOf ops.size π
  if permOk ops.size π σ && edgesOk ops && heldOk (permOps ops π σ) e.length && ops.toList.all nodef && ops.toList.any (fun o => kindOf o == .e && (match o.op with | .call _ => true | _ => false)) && (crcv ops.toList).isNone then some (e.length, permOps ops π σ) else none
def ccodeH (P : Program) : Code → IRH
  | .seq a b => .seq (ccodeH P a) (ccodeH P b)
  | .cond c a b => match X.of c with
    | some x => .cond x (ccodeH P a) (ccodeH P b)
    | none => .base .bad
  | .block id a => .block id (ccodeH P a)
  | .scope a => ccodeH P a
  | .region id ops true => match hreg ops with
    | some (n, ops') => match ciops P ops' ops'.toList with
      | some l => .held n l
      | none => .base .bad
    | none => .base (ccode P true (.region id ops true))
  | c => .base (ccode P true c)
def iwpH (P : Program) (G : Nat → Option (List AV)) : IRH → Fr → AH → (AX → Fr → AH → Prop) → Prop
  | .base a, fr, h, Q => iwp P G a fr h Q
  | .seq a b, fr, h, Q => iwpH P G a fr h (thenQ (fun fr h => iwpH P G b fr h Q) Q)
  | .cond x a b, fr, h, Q => wv (x.ev G fr) fun c => wv (ibool c) fun t => wb t (iwpH P G a fr h Q) (iwpH P G b fr h Q)
  | .block id a, fr, h, Q => iwpH P G a fr h (blockQ id Q)
  | .held n l, fr, h, Q => wheld P G n l fr h Q
theorem wheld_region (hmix : P.follows .mixedOrders = true) {ops ops' : Array Oper} {n id : Nat} {l : List IOp} {nb : Bool} {fr : Fr} {h : AH} {Q : AX → Fr → AH → Prop} (hr : hreg ops = some (n, ops')) (hl : ciops P ops' ops'.toList = some l) (k : wheld P G n l fr h Q) : WP P G nb (.region id ops true) fr h Q := by
  unfold hreg at hr
  simp only at hr
  split at hr
  rotate_left
  · cases hr
  rename_i q
  simp only [Bool.and_eq_true] at hr q
  obtain ⟨⟨⟨⟨⟨q1, q2⟩, q3⟩, q4⟩, q5⟩, q6⟩ := q
  cases hr
  have hnd : ∀ o ∈ ops.toList, nodef o = true := List.all_eq_true.1 q4
  intro ro B0 lo Δ μ w a hr r hlo m f
  obtain ⟨es, frn, he, hh, hc⟩ := k
  have hk : ComKeep μ w { w with drawn := w.drawn + 1 } := fun _ _ _ => rfl
  have s2 : Step B0 G μ h w μ h { w with drawn := w.drawn + 1 } := R.heap r rfl ⟨rfl, rfl, rfl⟩
  refine wpIn_mono (wpIn_region_any hmix (wpAny_in (FinH.no (nb := nb) (Q := Q) (lo := lo) (Δ := Δ) (μ := μ) (h := h) (w := w)) hnd _ _ _ _ ?_)) (fun e a w k => FinH.q k)
  have main := wheld_any (nb := nb) q3 hl ⟨es, frn, he, hh, hc⟩ r m f
  rw [permOps_size q1] at main
  refine wpAny_perm q1 q2 _ (by simp) (by simp) (fun i hi => ?_) main
  have := permOk_at q1 hi
  rw [Array.getElem?_replicate, Array.getElem?_replicate, if_pos this.2.1, if_pos hi]
theorem iwpH_sound (hmix : P.follows .mixedOrders = true) : ∀ (c : Code) {fr : Fr} {h : AH} {Q : AX → Fr → AH → Prop}, iwpH P G (ccodeH P c) fr h Q → WP P G true c fr h Q
  | .seq a b, fr, h, Q, k => by
    refine WP.seq ((iwpH_sound hmix a (show iwpH P G (ccodeH P a) fr h _ from k)).mono ?_)
    intro x fr h q
    cases x with
    | norm => exact iwpH_sound hmix b q
    | _ => exact q
  | .cond c a b, fr, h, Q, k => by
    simp only [ccodeH] at k
    cases hx : X.of c with
    | none => rw [hx] at k; exact k.elim
    | some x =>
      rw [hx] at k
      simp only [iwpH] at k
      obtain ⟨v, hv, k⟩ := wv_ex k
      obtain ⟨t, ht, k⟩ := wv_ex k
      rw [ibool_eq ht] at hv
      refine WP.cond ((X.of_ev hx).trans hv) ?_
      cases t with
      | true => exact iwpH_sound hmix a (k.1 rfl)
      | false => exact iwpH_sound hmix b (k.2 rfl)
  | .scope a, fr, h, Q, k => WP.scope (iwpH_sound hmix a (show iwpH P G (ccodeH P a) fr h _ from k))
  | .block id a, fr, h, Q, k => WP.block (iwpH_sound hmix a (show iwpH P G (ccodeH P a) fr h _ from k))
  | .region id ops true, fr, h, Q, k => by
    simp only [ccodeH] at k
    cases hr : hreg ops with
    | none => rw [hr] at k; exact iwp_sound hmix _ true k
    | some p =>
      obtain ⟨n, ops'⟩ := p
      rw [hr] at k
      simp only at k
      cases hl : ciops P ops' ops'.toList with
      | none => rw [hl] at k; exact k.elim
      | some l => rw [hl] at k; exact wheld_region hmix hr hl k
  | .region id ops false, fr, h, Q, k => iwp_sound hmix _ true (show iwp P G (ccode P true (.region id ops false)) fr h Q from k)
  | .skip, fr, h, Q, k => iwp_sound hmix .skip true k
  | .label i, fr, h, Q, k => iwp_sound hmix (.label i) true k
  | .exit i, fr, h, Q, k => iwp_sound hmix (.exit i) true k
  | .ret, fr, h, Q, k => iwp_sound hmix .ret true k
  | .loop a, fr, h, Q, k => iwp_sound hmix (.loop a) true k
  | .rangeFunc g ps a b, fr, h, Q, k => iwp_sound hmix (.rangeFunc g ps a b) true k
  | .goto i, fr, h, Q, k => iwp_sound hmix (.goto i) true k
  | .refuse i, fr, h, Q, k => iwp_sound hmix (.refuse i) true k
structure IFnH where
  n : Nat
  rs : List IRes
  ir : IRH
def cfuncH (P : Program) (f : FuncId) : Option IFnH :=
  match P.funcs[f]? with
  | some fn => match fn.body, cres P fn.results.toList with
    | some c, some rs => some ⟨fn.ntmps, rs, ccodeH P c⟩
    | _, _ => none
  | none => none
theorem CALL.of_irH (hmix : P.follows .mixedOrders = true) {f : FuncId} {k : IFnH} (hf : cfuncH P f = some k) {args : List AV} {h : AH} {Q : AOut → AH → Prop} (hw : iwpH P G k.ir (Fr.ofArgs k.n args) h (iend k.rs h Q)) : CALL P G f args h Q := by
  unfold cfuncH at hf
  split at hf
  · rename_i fn hfn
    split at hf
    · rename_i c rs hb hr
      cases hf
      refine CALL.of_wp hfn hb ((iwpH_sound hmix c hw).mono ?_)
      intro x fr' h' q
      cases x with
      | norm => obtain ⟨xs, h1, h2⟩ := wv_ex (show wv (iress fr' h' rs) _ from q); exact ⟨xs, iress_eq hr h1, h2⟩
      | ret => obtain ⟨xs, h1, h2⟩ := wv_ex (show wv (iress fr' h' rs) _ from q); exact ⟨xs, iress_eq hr h1, h2⟩
      | _ => exact q
    · cases hf
  · cases hf

/-! ### By lists -/
def JHeld (P : Program) (G : Nat → Option (List AV)) (es : List (L × I × AV)) (j : JH) : Prop := ∀ e ∈ es, jstep P G e.1 j e.2.1 fun q k => q = .ret e.2.2
def jchain (P : Program) (G : Nat → Option (List AV)) (es : List (L × I × AV)) : List IOp → L → JH → (AX → L → JH → Prop) → Prop
  | [], l, j, Q => Q .norm l j
  | o :: r, l, j, Q => noCv o.i = true ∧ jstep P G l j o.i fun out j' => match out with
    | .ret x => JHeld P G es j' ∧ jput l o.d x fun l' => jchain P G es r l' j' Q
    | .pan x => ∀ l', Q (.pan x) l' j'
def jearly (P : Program) (G : Nat → Option (List AV)) : Nat → List IOp → List (L × I × AV) → L → JH → (AX → L → JH → Prop) → Prop
  | 0, ops, es, l, j, Q => jchain P G es ops l j Q
  | n + 1, o :: r, es, l, j, Q => ∃ x, rigid x = true ∧ jstep P G l j o.i (fun q k => q = .ret x) ∧ jput l o.d x fun l' => jearly P G n r (es ++ [(l, o.i, x)]) l' j Q
  | _ + 1, [], _, _, _, _ => False
def jwpH (P : Program) (G : Nat → Option (List AV)) : IRH → L → JH → (AX → L → JH → Prop) → Prop
  | .base a, l, j, Q => jwp P G a l j Q
  | .seq a b, l, j, Q => jwpH P G a l j (jthen (fun l j => jwpH P G b l j Q) Q)
  | .cond x a b, l, j, Q => jx G l x fun c => jbool c fun t => wb t (jwpH P G a l j Q) (jwpH P G b l j Q)
  | .block id a, l, j, Q => jwpH P G a l j (jblock id Q)
  | .held n ops, l, j, Q => jearly P G n ops [] l j Q
def okIRH (N : Nat) : IRH → Bool
  | .base a => okIR N a
  | .seq a b => okIRH N a && okIRH N b
  | .cond _ a b => okIRH N a && okIRH N b
  | .block _ a => okIRH N a
  | .held n ops => okOps N ops && decide (n ≤ ops.length)
theorem FR.sets {N : Nat} : ∀ (ds : List Nat) {fr : Fr} {l : L}, FR N fr l → ∃ l', FR N (sets fr ds) l'
  | [], fr, l, f => ⟨l, f⟩
  | d :: ds, fr, l, f => FR.sets ds (f.set d .any)
/-- Entries by frames and by lists. -/
def EntR (N : Nat) : List (Fr × I × AV) → List (L × I × AV) → Prop
  | [], [] => True
  | (fr, i, x) :: es, (l, i', x') :: es' => FR N fr l ∧ i' = i ∧ x' = x ∧ EntR N es es'
  | _, _ => False
theorem EntR.append {N : Nat} {fr : Fr} {l : L} {i : I} {x : AV} (f : FR N fr l) : ∀ {es : List (Fr × I × AV)} {es' : List (L × I × AV)}, EntR N es es' → EntR N (es ++ [(fr, i, x)]) (es' ++ [(l, i, x)])
  | [], [], _ => ⟨f, rfl, rfl, True.intro⟩
  | (fr1, i1, x1) :: es, (l1, i2, x2) :: es', h => ⟨h.1, h.2.1, h.2.2.1, EntR.append f h.2.2.2⟩
  | [], _ :: _, h => h.elim
  | _ :: _, [], h => h.elim
theorem JHeld.h {N : Nat} {h : AH} : ∀ {es : List (Fr × I × AV)} {es' : List (L × I × AV)}, EntR N es es' → JHeld P G es' h.j → Held P G es h
  | [], [], _, _ => fun e he => by cases he
  | (fr1, i1, x1) :: es, (l1, i2, x2) :: es', r, hj => by
    obtain ⟨f, rfl, rfl, r'⟩ := r
    intro e he
    rcases List.mem_cons.1 he with rfl | he
    · have := jstep_sound f (hj _ List.mem_cons_self)
      exact this
    · exact JHeld.h r' (fun e he => hj e (List.mem_cons_of_mem _ he)) e he
  | [], _ :: _, h, _ => h.elim
  | _ :: _, [], h, _ => h.elim
theorem wchain_mono {es : List (Fr × I × AV)} : ∀ (l : List IOp) {fr : Fr} {h : AH} {Q Q' : AX → Fr → AH → Prop}, wchain P G es l fr h Q → (∀ x fr h, Q x fr h → Q' x fr h) → wchain P G es l fr h Q'
  | [], fr, h, Q, Q', k, hk => hk _ _ _ k
  | o :: l, fr, h, Q, Q', k, hk => by
    refine ⟨k.1, istep_mono k.2 fun out h' q => ?_⟩
    cases out with
    | ret x =>
      refine ⟨q.1, ?_⟩
      have q2 := q.2
      unfold wput at q2 ⊢
      split
      · rename_i e; rw [e] at q2; exact wchain_mono l q2 hk
      · rename_i d e; rw [e] at q2; exact ⟨q2.1, wchain_mono l q2.2 hk⟩
    | pan x => exact fun ds => hk _ _ _ (q ds)
theorem iwpH_mono : ∀ (ir : IRH) {fr : Fr} {h : AH} {Q Q' : AX → Fr → AH → Prop}, iwpH P G ir fr h Q → (∀ x fr h, Q x fr h → Q' x fr h) → iwpH P G ir fr h Q'
  | .base a, fr, h, Q, Q', k, hk => iwp_mono a k hk
  | .seq a b, fr, h, Q, Q', k, hk => iwpH_mono a (show iwpH P G a fr h _ from k) fun x fr h q => by
      cases x with
      | norm => exact iwpH_mono b q hk
      | _ => exact hk _ _ _ q
  | .cond x a b, fr, h, Q, Q', k, hk => wv_mono (show wv (x.ev G fr) _ from k) fun c k => wv_mono k fun t k => ⟨fun e => iwpH_mono a (k.1 e) hk, fun e => iwpH_mono b (k.2 e) hk⟩
  | .block id a, fr, h, Q, Q', k, hk => iwpH_mono a (show iwpH P G a fr h _ from k) fun x fr h q => by
      cases x with
      | exit i =>
        simp only [blockQ] at q ⊢
        split at q
        · rename_i e; rw [if_pos e]; exact hk _ _ _ q
        · rename_i e; rw [if_neg e]; exact hk _ _ _ q
      | _ => exact hk _ _ _ q
  | .held n l, fr, h, Q, Q', ⟨es, frn, he, hh, hc⟩, hk => ⟨es, frn, he, hh, wchain_mono _ hc hk⟩
theorem jput_ex {N : Nat} {fr : Fr} {l : L} {d : Option Nat} {x : AV} {K : L → Prop} (hd : (match d with | none => true | some d => decide (d < N)) = true) (f : FR N fr l) (k : jput l d x K) : ∃ fr' l', fr.put d x = some fr' ∧ FR N fr' l' ∧ K l' := by
  unfold jput at k
  cases d with
  | none => exact ⟨fr, l, rfl, f, k⟩
  | some d =>
    simp only [decide_eq_true_eq] at hd
    exact ⟨fr.set d x, (d, x) :: l, by simp only [Fr.put]; rw [if_pos (by rw [f.1]; exact hd)], f.set d x, k⟩
theorem jchain_sound {N : Nat} {es : List (Fr × I × AV)} {es' : List (L × I × AV)} (r : EntR N es es') : ∀ (ops : List IOp) {fr : Fr} {l : L} {h : AH} {Q : AX → L → JH → Prop}, okOps N ops = true → FR N fr l → jchain P G es' ops l h.j Q → wchain P G es ops fr h (JQ N Q)
  | [], fr, l, h, Q, ho, f, k => ⟨l, f, k⟩
  | o :: ops, fr, l, h, Q, ho, f, k => by
    obtain ⟨h1, h2, h3⟩ := okOps_cons ho
    obtain ⟨hn, k⟩ := k
    refine ⟨hn, istep_mono (jstep_sound f k) fun out h' q => ?_⟩
    cases out with
    | ret x =>
      obtain ⟨q1, q2⟩ := q
      refine ⟨JHeld.h r q1, ?_⟩
      obtain ⟨fr', l', e1, e2, e3⟩ := jput_ex h1 f q2
      have := jchain_sound r ops h3 e2 e3
      unfold wput
      cases hd : o.d with
      | none => rw [hd] at e1; simp only [Fr.put, Option.some.injEq] at e1; subst e1; exact this
      | some d =>
        rw [hd] at e1
        simp only [Fr.put] at e1
        split at e1
        · rename_i hlt; simp only [Option.some.injEq] at e1; subst e1; exact ⟨hlt, this⟩
        · cases e1
    | pan x => intro ds; obtain ⟨l', f'⟩ := FR.sets ds f; exact ⟨l', f', q l'⟩
theorem jearly_sound {N : Nat} : ∀ (n : Nat) (ops : List IOp) {es : List (Fr × I × AV)} {es' : List (L × I × AV)} {fr : Fr} {l : L} {h : AH} {Q : AX → L → JH → Prop}, EntR N es es' → Held P G es h → okOps N ops = true → FR N fr l → jearly P G n ops es' l h.j Q →
    ∃ es2 frn, Early (ops.take n) fr es2 frn ∧ Held P G (es ++ es2) h ∧ wchain P G (es ++ es2) (ops.drop n) frn h (JQ N Q)
  | 0, ops, es, es', fr, l, h, Q, r, hh, ho, f, k => ⟨[], fr, by simp [Early], by simpa using hh, by simpa using jchain_sound r ops ho f k⟩
  | n + 1, [], es, es', fr, l, h, Q, r, hh, ho, f, k => k.elim
  | n + 1, o :: ops, es, es', fr, l, h, Q, r, hh, ho, f, k => by
    obtain ⟨h1, h2, h3⟩ := okOps_cons ho
    obtain ⟨x, hx, ks, kp⟩ := k
    obtain ⟨fr', l', e1, e2, e3⟩ := jput_ex h1 f kp
    have hs : Held P G (es ++ [(fr, o.i, x)]) h := by
      intro e he
      rcases List.mem_append.1 he with he | he
      · exact hh e he
      · rw [List.mem_singleton.1 he]; exact jstep_sound f ks
    obtain ⟨es2, frn, g1, g2, g3⟩ := jearly_sound n ops (EntR.append f r) hs h3 e2 e3
    refine ⟨(fr, o.i, x) :: es2, frn, ?_, by simpa using g2, by simpa using g3⟩
    simp only [List.take_succ_cons, Early]
    exact ⟨True.intro, True.intro, hx, fr', e1, g1⟩
theorem jwpH_sound {N : Nat} : ∀ (ir : IRH) {fr : Fr} {l : L} {h : AH} {Q : AX → L → JH → Prop}, okIRH N ir = true → FR N fr l → jwpH P G ir l h.j Q → iwpH P G ir fr h (JQ N Q)
  | .base a, fr, l, h, Q, ho, f, k => jwp_sound a ho f k
  | .seq a b, fr, l, h, Q, ho, f, k => by
    simp only [okIRH, Bool.and_eq_true] at ho
    exact iwpH_mono a (jwpH_sound a ho.1 f (show jwpH P G a l h.j _ from k)) fun x fr h ⟨l', f', k⟩ => by
      cases x with
      | norm => exact jwpH_sound b ho.2 f' k
      | _ => exact ⟨l', f', k⟩
  | .cond x a b, fr, l, h, Q, ho, f, k => by
    simp only [okIRH, Bool.and_eq_true] at ho
    exact jx_ev' f k fun c k => wv_mono (jbool_sound k) fun t k => ⟨fun e => jwpH_sound a ho.1 f (k.1 e), fun e => jwpH_sound b ho.2 f (k.2 e)⟩
  | .block id a, fr, l, h, Q, ho, f, k =>
    iwpH_mono a (jwpH_sound a ho f (show jwpH P G a l h.j _ from k)) fun x fr h ⟨l', f', k⟩ => by
      cases x with
      | exit i =>
        simp only [jblock] at k
        simp only [blockQ]
        split at k
        · rename_i e; rw [if_pos e]; exact ⟨l', f', k⟩
        · rename_i e; rw [if_neg e]; exact ⟨l', f', k⟩
      | _ => exact ⟨l', f', k⟩
  | .held n ops, fr, l, h, Q, ho, f, k => by
    simp only [okIRH, Bool.and_eq_true] at ho
    obtain ⟨es, frn, g1, g2, g3⟩ := jearly_sound n ops (es := []) (es' := []) True.intro (fun e he => by cases he) ho.1 f k
    exact ⟨es, frn, g1, by simpa using g2, by simpa using g3⟩
theorem JC.runH (hmix : P.follows .mixedOrders = true) {f : FuncId} {k : IFnH} (hf : cfuncH P f = some k) {args : List AV} (hok : okIRH (max args.length k.n) k.ir = true) {j : JH} {Q : AOut → JH → Prop}
    (hw : jwpH P G k.ir (args0 0 args) (ext j []) (jend k.rs (ext j []) Q)) : JC P G f args j Q := by
  refine JC.low ?_
  rintro h hj
  rw [← hj] at hw
  refine CALL.of_irH hmix hf (iwpH_mono k.ir (jwpH_sound (N := max args.length k.n) k.ir hok ⟨rfl, fun i => ?_⟩ hw) ?_)
  · rw [Fr.get_ofArgs, lk_args0, if_pos (Nat.zero_le _), List.getD_eq_getElem?_getD]; rfl
  · rintro x fr' h' ⟨l', f', k⟩
    cases x with
    | norm => exact wv_mono (jress_sound f' (show jress l' h'.j _ _ from k)) fun xs ⟨y, j'', d, s, q⟩ => ⟨y, j''.a, d.a, s, q⟩
    | ret => exact wv_mono (jress_sound f' (show jress l' h'.j _ _ from k)) fun xs ⟨y, j'', d, s, q⟩ => ⟨y, j''.a, d.a, s, q⟩
    | exit j => exact k
    | pan v => obtain ⟨y, j'', d, s, q⟩ := k; exact ⟨y, j''.a, d.a, s, q⟩
/-! ### Rules -/
def JHLD (P : Program) (G : Nat → Option (List AV)) (n : Nat) (ops : List IOp) (es : List (L × I × AV)) (l : L) (j : JH) [Q : Hid (AX → L → JH → Prop)] : Prop := jearly P G n ops es l j Q.v
def joutC (P : Program) (G : Nat → Option (List AV)) (es : List (L × I × AV)) (d : Option Nat) (r : List IOp) (l : L) (Q : AX → L → JH → Prop) : AOut → JH → Prop
  | .ret x, j' => JHeld P G es j' ∧ jput l d x fun l' => jchain P G es r l' j' Q
  | .pan x, j' => ∀ l', Q (.pan x) l' j'
theorem rh1 {a : IR} {l : L} {j : JH} {Q : AX → L → JH → Prop} : jwpH P G (.base a) l j Q = jwp P G a l j Q := rfl
theorem rh2 {a b : IRH} {l : L} {j : JH} {Q : AX → L → JH → Prop} : jwpH P G (.seq a b) l j Q = jwpH P G a l j (jthen (fun l j => jwpH P G b l j Q) Q) := rfl
theorem rh3 {x : X} {a b : IRH} {l : L} {j : JH} {Q : AX → L → JH → Prop} : jwpH P G (.cond x a b) l j Q = jx G l x fun c => jbool c fun t => @ww t ⟨jwpH P G a l j Q⟩ ⟨jwpH P G b l j Q⟩ := rfl
theorem rh4 {id : Nat} {a : IRH} {l : L} {j : JH} {Q : AX → L → JH → Prop} : jwpH P G (.block id a) l j Q = jwpH P G a l j (jblock id Q) := rfl
theorem rh5 {n : Nat} {ops : List IOp} {l : L} {j : JH} {Q : AX → L → JH → Prop} : jwpH P G (.held n ops) l j Q = @JHLD P G n ops [] l j ⟨Q⟩ := rfl
theorem rh6 {es : List (L × I × AV)} {l : L} {j : JH} {Q : AX → L → JH → Prop} : jchain P G es [] l j Q = Q .norm l j := rfl
theorem rh7 {es : List (L × I × AV)} {d : Option Nat} {g : Option (Nat × Bool)} {tx : Option X} {i : I} {r : List IOp} {l : L} {j : JH} {Q : AX → L → JH → Prop} : jchain P G es (⟨d, g, tx, i⟩ :: r) l j Q = (noCv i = true ∧ jstep P G l j i (joutC P G es d r l Q)) := by
  simp only [jchain]
  congr 1
  congr 1
  funext out j'
  cases out <;> rfl
theorem rh8 {es : List (L × I × AV)} {d : Option Nat} {r : List IOp} {l : L} {j : JH} {x : AV} {Q : AX → L → JH → Prop} : joutC P G es d r l Q (.ret x) j = @wc (JHeld P G es j) ⟨jput l d x fun l' => jchain P G es r l' j Q⟩ := rfl
theorem rh9 {es : List (L × I × AV)} {d : Option Nat} {r : List IOp} {l : L} {j : JH} {x : AV} {Q : AX → L → JH → Prop} : joutC P G es d r l Q (.pan x) j = ∀ l', Q (.pan x) l' j := rfl
theorem rh11 {n es : Nat} {z : List AV} {ps : List (Nat × Nat × X)} : (noCv (.bsl n es z ps) = true) = True := by simp [noCv]
theorem rh12 {x : X} : (noCv (.nchk x) = true) = True := by simp [noCv]
theorem rh13 {n : Nat} {x : X} : (noCv (.fadr n x) = true) = True := by simp [noCv]
theorem rh14 {n : Nat} {x y : X} : (noCv (.store n x y) = true) = True := by simp [noCv]
theorem rh15 {f : FuncId} {xs : List X} : (noCv (.call f xs) = true) = True := by simp [noCv]
theorem JHLD.early {n : Nat} {o : IOp} {r : List IOp} {es : List (L × I × AV)} {l : L} {j : JH} {Q : AX → L → JH → Prop} (x : AV) (hx : rigid x = true) (h1 : jstep P G l j o.i fun q _ => q = .ret x) (h2 : jput l o.d x fun l' => @JHLD P G n r (es ++ [(l, o.i, x)]) l' j ⟨Q⟩) : @JHLD P G (n + 1) (o :: r) es l j ⟨Q⟩ := ⟨x, hx, h1, h2⟩
theorem JHLD.go {ops : List IOp} {es : List (L × I × AV)} {l : L} {j : JH} {Q : AX → L → JH → Prop} (h : jchain P G es ops l j Q) : @JHLD P G 0 ops es l j ⟨Q⟩ := h
theorem JHeld.nil {j : JH} : JHeld P G [] j := fun _ h => by cases h
theorem JHeld.snoc {es : List (L × I × AV)} {e : L × I × AV} {j : JH} (h : JHeld P G es j) (k : jstep P G e.1 j e.2.1 fun q _ => q = .ret e.2.2) : JHeld P G (es ++ [e]) j := by
  intro e' he
  rcases List.mem_append.1 he with q | q
  · exact h e' q
  · rw [List.mem_singleton.1 q]; exact k
theorem JHeld.cons {es : List (L × I × AV)} {e : L × I × AV} {j : JH} (k : jstep P G e.1 j e.2.1 fun q _ => q = .ret e.2.2) (h : JHeld P G es j) : JHeld P G (e :: es) j := by
  intro e' he
  rcases List.mem_cons.1 he with q | q
  · rw [q]; exact k
  · exact h e' q
end
end Go.Proofs.YtcajjicdbphkpaaDoor.Pg
