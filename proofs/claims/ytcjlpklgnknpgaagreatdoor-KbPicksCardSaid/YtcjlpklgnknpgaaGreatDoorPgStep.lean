/-
  Pg, part 7: one operation of a region: its abstract step, and that the model does the same.
-/
import Derived.Test.YtcjlpklgnknpgaaGreatDoorPgOps
import Derived.Deep.LoopGhost
set_option linter.unusedVariables false
set_option linter.unusedSimpArgs false
namespace Go.Proofs.YtcjlpklgnknpgaaGreatDoor.Pg
open Go
section
inductive AOut where
 | ret (x : AV)
 | pan (x : AV)
def aevs (G : Nat → Option (List AV)) (fr : Fr) : List Operand → Option (List AV)
 | [] => some []
 | x :: xs => match aev G fr x, aevs G fr xs with
  | some y, some ys => some (y :: ys)
  | _, _ => none
def aparts (G : Nat → Option (List AV)) (fr : Fr) : List (Nat × Operand) → Option (List (Nat × AV))
 | [] => some []
 | (i, x) :: xs => match aev G fr x, aparts G fr xs with
  | some y, some ys => some ((i, y) :: ys)
  | _, _ => none
def anil (P : Program) (t : TypeId) (x y : AV) : Option Bool :=
 match P.underlying t, x, y with
 | some (.pointer _), .ptr _ _, .v (.pointer none) | some (.pointer _), .v (.pointer none), .ptr _ _
 | some (.pointer _), .cptr _, .v (.pointer none) | some (.pointer _), .v (.pointer none), .cptr _ => some false
 | some (.func _ _ _), .fn _ _ _, .v .nilFunc | some (.func _ _ _), .v .nilFunc, .fn _ _ _ => some false
 | some (.map _ _), .mp _, .v (.map none) | some (.map _ _), .v (.map none), .mp _ => some false
 | some (.interface _), .ifc _ _, .v .nilIface | some (.interface _), .v .nilIface, .ifc _ _ => some false
 | some (.slice _), .sl (.own _ _ _) _ _, .sl .nil _ _ | some (.slice _), .sl .nil _ _, .sl (.own _ _ _) _ _ => some false
 | some (.slice _), .arr _ _ _, .sl .nil _ _ | some (.slice _), .sl .nil _ _, .arr _ _ _ => some false
 | _, _, _ => none
def aopt (G : Nat → Option (List AV)) (fr : Fr) : Option Operand → Option (Option AV)
 | none => some none
 | some x => (aev G fr x).map some
def callable : AV → Bool
 | .ptr _ _ | .cptr _ | .ifc _ _ => true
 | .fn (.func _) _ _ => true
 | .yld _ => true
 | _ => false
inductive Kind where
 | p | l | a | e
 deriving DecidableEq
def kindOf (o : Oper) : Kind :=
 match o.op with
 | .move _ | .assign _ | .pick _ _ _ | .build _ _ | .nilCheck _ | .makeInterface _ _ | .makeFunc _ _ _ | .slice _ _ _ _ _ | .fieldAddr _ _ _ | .field _ _ _ | .indexAddr _ _ _ | .index _ _ _ | .extract _ _
 | .binOp _ _ _ _ _ | .unOp _ _ _ | .convert _ _ _ | .typeAssert _ _ _ _ => .p
 | .load _ _ | .lookup _ _ _ _ => .l
 | .alloc _ | .box _ _ | .buildSlice _ _ _ | .makeMap _ _ | .makeSlice _ _ _ => .a
 | .call c => match c.callee with
  | .builtin .min | .builtin .max => .p
  | .builtin .len => .l
  | _ => .e
 | _ => .e
def inilv (P : Program) (op : BinOp) (t : TypeId) (y : Operand) (x : Option AV) : Option AV :=
 match op, y, P.underlying t, x with
 | .eql, .const .nilIface, some (.interface _), some (.ifc _ _) => some (.v (.bool false))
 | .neq, .const .nilIface, some (.interface _), some (.ifc _ _) => some (.v (.bool true))
 | .eql, .const .nilIface, some (.interface _), some (.v .nilIface) => some (.v (.bool true))
 | .neq, .const .nilIface, some (.interface _), some (.v .nilIface) => some (.v (.bool false))
 | _, _, _, _ => none
theorem inilv_none {P : Program} {op : BinOp} {t : TypeId} {y : Operand} {x : Option AV} (h : ∀ m, P.underlying t ≠ some (.interface m)) : inilv P op t y x = none := by
 unfold inilv
 split <;> first | rfl | (rename_i hu; exact absurd hu (h _)) | (rename_i hu _; exact absurd hu (h _))
def atas (P : Program) (t : TypeId) (ok : Bool) (x : AV) : Option AV :=
 match P.underlying t with
 | some (.interface _) | none => none
 | some _ => match x with
  | .ifc t' y => if t' = t then some (if ok then .tup [y, .v (.bool true)] else y) else if ok then (azeroV P t).map fun z => .tup [z, .v (.bool false)] else none
  | .v .nilIface => if ok then (azeroV P t).map fun z => .tup [z, .v (.bool false)] else none
  | _ => none
def pop (P : Program) (G : Nat → Option (List AV)) (fr : Fr) (o : Oper) : Option AV :=
 match o.op with
 | .move x | .assign x => aev G fr x
 | .pick c a b => match aev G fr c with
  | some (.v (.bool t)) => if t then aev G fr a else aev G fr b
  | _ => none
 | .build t ps => match aparts G fr ps.toList with
  | some qs => abuild P t qs
  | none => none
 | .nilCheck x => match aev G fr x with
  | some p => if callable p then some p else none
  | none => none
 | .makeInterface t x => if P.concrete t then (aev G fr x).map fun y => .ifc t y else none
 | .makeFunc f first cap => match aevs G fr first.toList, aevs G fr cap.toList with
  | some a, some b => some (.fn f a b)
  | _, _ => none
 | .slice t x lo hi none => match aev G fr x, aopt G fr lo, aopt G fr hi with
  | some x, some lo, some hi => aslice P t x lo hi
  | _, _, _ => none
 | .fieldAddr t x f => match aev G fr x with
  | some x => afieldAddr P t f x
  | none => none
 | .field t x f => match aev G fr x with
  | some x => afield P t f x
  | none => none
 | .indexAddr t x i => match aev G fr x, aev G fr i with
  | some x, some i => aindexAddr P t x i
  | _, _ => none
 | .index t x i => match aev G fr x, aev G fr i with
  | some x, some i => aindex P t x i
  | _, _ => none
 | .extract x i => match aev G fr x with
  | some (.tup vs) => vs[i]?
  | _ => none
 | .binOp op t x y _ => match inilv P op t y (aev G fr x) with
  | some z => some z
  | none => match alit P G fr o with
   | some z => some z
   | none => match aev G fr x, aev G fr y with
    | some x, some y => match anil P t x y, op with
     | some b, .eql => some (.v (.bool b))
     | some b, .neq => some (.v (.bool !b))
     | _, _ => none
    | _, _ => none
 | .typeAssert x _ t ok => match aev G fr x with
  | some x => atas P t ok x
  | none => none
 | .unOp _ _ _ | .convert _ _ _ | .call _ => alit P G fr o
 | _ => none
def lop (P : Program) (G : Nat → Option (List AV)) (fr : Fr) (C : Nat → Option AObj) (o : Oper) : Option AV :=
 match o.op with
 | .load t a => match aev G fr a with
  | some p => aload P C t p
  | none => none
 | .lookup t m k ok => match aev G fr m, aev G fr k with
  | some m, some k => alookup P C t m k ok
  | _, _ => none
 | .call c => match c.callee with
  | .builtin .len => match c.args.toList, c.argTypes.toList with
   | [x], [t] => match aev G fr x with
    | some x => alen P C t x
    | none => none
   | _, _ => none
  | _ => none
 | _ => none
def mkop (P : Program) (G : Nat → Option (List AV)) (fr : Fr) (o : Oper) : Option (Ev × (Nat → AV)) :=
 match o.op with
 | .alloc t => (azero P t).map fun cs => (.obj (.cells t cs), fun id => .ptr id 0)
 | .box t x => (aev G fr x).bind fun y => if y.known then some (.obj (.cells t y.cells), fun id => .ptr id 0) else none
 | .buildSlice t n ps => match aparts G fr ps.toList with
  | some qs => abuildSlice P t n qs
  | none => none
 | .makeMap _ none => some (.obj (.map []), fun id => .mp id)
 | .makeSlice t l c => match aev G fr l, aev G fr c with
  | some l, some c => amake P t l c
  | _, _ => none
 | _ => none
def mkput (h : AH) : Ev × (Nat → AV) → AV × AH
 | (.obj ob, f) => (f h.next, h.push ob)
 | (.row n _ _, f) => (f h.tnext, h.pushTok n)
section
variable {P : Program} {B0 : Nat} {G : Nat → Option (List AV)} {μ : Mu} {h : AH} {w : World} {fr : Fr} {a : Act}
theorem aevs_V : ∀ {xs : List Operand} {ys : List AV}, (∀ x ∈ xs, ∀ y, aev G fr x = some y → V μ w y (a.eval x)) → aevs G fr xs = some ys → Vs μ w ys (xs.map a.eval)
 | [], ys, _, e => by simp [aevs] at e; subst e; simp [Vs]
 | x :: xs, ys, f, e => by
  simp only [aevs] at e
  cases h1 : aev G fr x with
  | none => rw [h1] at e; simp at e
  | some y =>
   cases h2 : aevs G fr xs with
   | none => rw [h1, h2] at e; simp at e
   | some zs => rw [h1, h2] at e; simp at e; subst e; simp only [Vs, List.map_cons]; exact ⟨_, _, rfl, f x (by simp) _ h1, aevs_V (fun z hz => f z (by simp [hz])) h2⟩
theorem aparts_V : ∀ {xs : List (Nat × Operand)} {ys : List (Nat × AV)}, (∀ x ∈ xs.map (·.2), ∀ y, aev G fr x = some y → V μ w y (a.eval x)) → aparts G fr xs = some ys → VParts μ w ys (xs.map fun (i, x) => (i, a.eval x))
 | [], ys, _, e => by simp [aparts] at e; subst e; simp [VParts]
 | (i, x) :: xs, ys, f, e => by
  simp only [aparts] at e
  cases h1 : aev G fr x with
  | none => rw [h1] at e; simp at e
  | some y =>
   cases h2 : aparts G fr xs with
   | none => rw [h1, h2] at e; simp at e
   | some zs => rw [h1, h2] at e; simp at e; subst e; simp only [VParts, List.map_cons]; exact ⟨_, _, rfl, f x (by simp) _ h1, aparts_V (fun z hz => f z (by simp only [List.map_cons, List.mem_cons]; exact .inr hz)) h2⟩
theorem aopt_V {x : Option Operand} {y : Option AV} (f : ∀ z ∈ x.toArray, ∀ y, aev G fr z = some y → V μ w y (a.eval z)) (e : aopt G fr x = some y) : VOpt μ w y (x.map a.eval) := by
 cases x with
 | none => simp [aopt] at e; subst e; rfl
 | some x =>
  simp only [aopt] at e
  cases h1 : aev G fr x with
  | none => rw [h1] at e; simp at e
  | some z => rw [h1] at e; simp at e; subst e; exact ⟨_, rfl, f x (by simp) _ h1⟩
theorem eql_run {t : TypeId} {u v : Value} {b : Bool} (hg : ∀ op X Y, (eqGuard op t X Y u v).run P w = .ok () w) (h1 : binOp .eql t u v = do pure (.bool (← Op.equal t u v))) (h2 : binOp .neq t u v = do pure (.bool (!(← Op.equal t u v))))
  (he : (Op.equalIn (9999 + 1) t u v).run P w = .ok b w) (X Y : Operand) :
  (eqGuard .eql t X Y u v).run P w = .ok () w ∧ (eqGuard .neq t X Y u v).run P w = .ok () w ∧ (binOp .eql t u v).run P w = .ok (.bool b) w ∧ (binOp .neq t u v).run P w = .ok (.bool !b) w := by
 have he' : (Op.equal t u v).run P w = .ok b w := he
 exact ⟨hg _ _ _, hg _ _ _, by rw [h1]; simp only [Sem.run_bind, he', Result.andThen_ok, Sem.run_pure], by rw [h2]; simp only [Sem.run_bind, he', Result.andThen_ok, Sem.run_pure]⟩
theorem anil_run {t : TypeId} {x y : AV} {u v : Value} {b : Bool} (hx : V μ w x u) (hy : V μ w y v) (e : anil P t x y = some b) (X Y : Operand) :
  (eqGuard .eql t X Y u v).run P w = .ok () w ∧ (eqGuard .neq t X Y u v).run P w = .ok () w ∧ (binOp .eql t u v).run P w = .ok (.bool b) w ∧ (binOp .neq t u v).run P w = .ok (.bool !b) w := by
 unfold anil at e
 split at e <;> (try cases e)
 all_goals
  rename_i hu
  simp only [V] at hx hy
 ·obtain ⟨_, _, rfl⟩ := hx; obtain ⟨_, rfl⟩ := hy; exact eql_run (fun op X Y => by simp [eqGuard]) rfl rfl (by rw [Op.equalIn]; simp only [Sem.run_bind, run_underlying hu, Result.andThen_ok]; rfl) X Y
 ·obtain ⟨_, rfl⟩ := hx; obtain ⟨_, _, rfl⟩ := hy; exact eql_run (fun op X Y => by simp [eqGuard]) rfl rfl (by rw [Op.equalIn]; simp only [Sem.run_bind, run_underlying hu, Result.andThen_ok]; rfl) X Y
 ·obtain ⟨_, _, rfl, _⟩ := hx; obtain ⟨_, rfl⟩ := hy; exact eql_run (fun op X Y => by simp [eqGuard]) rfl rfl (by rw [Op.equalIn]; simp only [Sem.run_bind, run_underlying hu, Result.andThen_ok]; rfl) X Y
 ·obtain ⟨_, rfl⟩ := hx; obtain ⟨_, _, rfl, _⟩ := hy; exact eql_run (fun op X Y => by simp [eqGuard]) rfl rfl (by rw [Op.equalIn]; simp only [Sem.run_bind, run_underlying hu, Result.andThen_ok]; rfl) X Y
 ·obtain ⟨_, _, rfl, _⟩ := hx; obtain ⟨_, rfl⟩ := hy; exact eql_run (fun op X Y => by simp [eqGuard]) rfl rfl (by rw [Op.equalIn]; simp only [Sem.run_bind, run_underlying hu, Result.andThen_ok]; rfl) X Y
 ·obtain ⟨_, rfl⟩ := hx; obtain ⟨_, _, rfl, _⟩ := hy; exact eql_run (fun op X Y => by simp [eqGuard]) rfl rfl (by rw [Op.equalIn]; simp only [Sem.run_bind, run_underlying hu, Result.andThen_ok]; rfl) X Y
 ·obtain ⟨_, _, rfl⟩ := hx; obtain ⟨_, rfl⟩ := hy; exact eql_run (fun op X Y => by simp [eqGuard]) rfl rfl (by rw [Op.equalIn]; simp only [Sem.run_bind, run_underlying hu, Result.andThen_ok]; rfl) X Y
 ·obtain ⟨_, rfl⟩ := hx; obtain ⟨_, _, rfl⟩ := hy; exact eql_run (fun op X Y => by simp [eqGuard]) rfl rfl (by rw [Op.equalIn]; simp only [Sem.run_bind, run_underlying hu, Result.andThen_ok]; rfl) X Y
 ·obtain ⟨_, rfl, _⟩ := hx; obtain ⟨_, rfl⟩ := hy; exact eql_run (fun op X Y => by simp [eqGuard]) rfl rfl (by rw [Op.equalIn]; simp only [Sem.run_bind, run_underlying hu, Result.andThen_ok]; rfl) X Y
 ·obtain ⟨_, rfl⟩ := hx; obtain ⟨_, rfl, _⟩ := hy; exact eql_run (fun op X Y => by simp [eqGuard]) rfl rfl (by rw [Op.equalIn]; simp only [Sem.run_bind, run_underlying hu, Result.andThen_ok]; rfl) X Y
 ·obtain ⟨_, _, _, _, rfl, _⟩ := hx; obtain ⟨rfl, _⟩ := hy; exact eql_run (fun op X Y => by simp [eqGuard]) rfl rfl (by rw [Op.equalIn]; simp only [Sem.run_bind, run_underlying hu, Result.andThen_ok]; rfl) X Y
 ·obtain ⟨rfl, _⟩ := hx; obtain ⟨_, _, _, _, rfl, _⟩ := hy; exact eql_run (fun op X Y => by simp [eqGuard]) rfl rfl (by rw [Op.equalIn]; simp only [Sem.run_bind, run_underlying hu, Result.andThen_ok]; rfl) X Y
 ·obtain ⟨_, _, _, rfl, _⟩ := hx; obtain ⟨rfl, _⟩ := hy; exact eql_run (fun op X Y => by simp [eqGuard]) rfl rfl (by rw [Op.equalIn]; simp only [Sem.run_bind, run_underlying hu, Result.andThen_ok]; rfl) X Y
 ·obtain ⟨rfl, _⟩ := hx; obtain ⟨_, _, _, rfl, _⟩ := hy; exact eql_run (fun op X Y => by simp [eqGuard]) rfl rfl (by rw [Op.equalIn]; simp only [Sem.run_bind, run_underlying hu, Result.andThen_ok]; rfl) X Y
def PRes (P : Program) (μ : Mu) (w : World) (x : AV) (s : Sem Next) : Prop := ∃ u, s.run P w = .ok (.value u) w ∧ V μ w x u
theorem PRes.of {x : AV} {s : Sem Value} (e : ∃ u, s.run P w = .ok u w ∧ V μ w x u) : PRes P μ w x (do pure (.value (← s))) := by
 obtain ⟨u, hr, hv⟩ := e
 exact ⟨u, by simp only [Sem.run_bind, hr, Result.andThen_ok, Sem.run_pure], hv⟩
theorem atas_run {t xt : TypeId} {ok : Bool} {x y : AV} {u : Value} (hx : V μ w x u) (e : atas P t ok x = some y) : ∃ v, (Instr.typeAssert u xt t ok).run P w = .ok v w ∧ V μ w y v := by
 unfold atas at e
 split at e
 ·cases e
 ·cases e
 ·rename_i d hni hu
  have fail : ∀ (s q : Option TypeId) (m : String), (if ok then (azeroV P t).map (fun z => AV.tup [z, .v (.bool false)]) else none) = some y → ∃ v, ((if ok then do pure (.tuple #[← zeroValue t, .bool false]) else runtimePanic (.typeAssertion s q t m)) : Sem Value).run P w = .ok v w ∧ V μ w y v := by
   intro s q m e
   cases ok with
   | false => cases e
   | true =>
    simp only [if_true] at e ⊢
    cases hz : azeroV P t with
    | none => rw [hz] at e; cases e
    | some z =>
     rw [hz] at e; simp only [Option.map_some, Option.some.injEq] at e; subst e
     obtain ⟨v, h1, h2⟩ := azeroV_V (P := P) (μ := μ) (w := w) hz
     refine ⟨.tuple #[v, .bool false], by simp only [Sem.run_bind, h1, Result.andThen_ok, Sem.run_pure], ?_⟩
     simp only [V, Vs]
     exact ⟨_, rfl, _, _, rfl, h2, _, _, rfl, ⟨rfl, rfl⟩, rfl⟩
  split at e
  ·rename_i t' y'
   simp only [V] at hx
   obtain ⟨v, rfl, hv⟩ := hx
   by_cases ht : t' = t
   ·rw [if_pos ht] at e; cases e
    refine ⟨if ok then .tuple #[v, .bool true] else v, ?_, ?_⟩
    ·unfold Instr.typeAssert
     simp only [Sem.run_bind, run_underlying hu, Result.andThen_ok]
     cases d <;> first | exact absurd rfl (hni _) | (simp only [ht, if_true, Sem.run_pure])
    ·cases ok with
     | false => exact hv
     | true => simp only [if_true, V, Vs]; exact ⟨_, rfl, _, _, rfl, hv, _, _, rfl, ⟨rfl, rfl⟩, rfl⟩
   ·rw [if_neg ht] at e
    obtain ⟨v', h1, h2⟩ := fail (some xt) (some t') "" e
    refine ⟨v', ?_, h2⟩
    unfold Instr.typeAssert
    simp only [Sem.run_bind, run_underlying hu, Result.andThen_ok]
    cases d <;> first | exact absurd rfl (hni _) | (simp only [ht, if_false]; exact h1)
  ·simp only [V] at hx
   obtain ⟨_, rfl⟩ := hx
   obtain ⟨v', h1, h2⟩ := fail (some xt) none "" e
   refine ⟨v', ?_, h2⟩
   unfold Instr.typeAssert
   simp only [Sem.run_bind, run_underlying hu, Result.andThen_ok]
   cases d <;> first | exact absurd rfl (hni _) | exact h1
  ·cases e
theorem inilv_run {op : BinOp} {t : TypeId} {p q : Operand} {x : Option AV} {z : AV} {a : Act} (hx : ∀ y, x = some y → V μ w y (a.eval p)) (e : inilv P op t q x = some z) : ∃ u, (do eqGuard op t p q (a.eval p) (a.eval q); binOp op t (a.eval p) (a.eval q) : Sem Value).run P w = .ok u w ∧ V μ w z u := by
 unfold inilv at e
 split at e
 ·rename_i ms tt pay hu; cases e
  have hv := hx _ rfl
  simp only [V] at hv
  obtain ⟨y, hy, _⟩ := hv
  obtain ⟨h1, h2, h3, h4⟩ := eql_run (P := P) (w := w) (t := t) (u := .iface tt y) (v := .nilIface) (b := false) (fun op X Y => by simp [eqGuard]) rfl rfl (by rw [Op.equalIn]; simp only [Sem.run_bind, run_underlying hu, Result.andThen_ok]; rfl) p (.const .nilIface)
  rw [hy, show a.eval (.const .nilIface) = .nilIface from rfl]
  exact ⟨.bool false, by simp only [Sem.run_bind, h1, Result.andThen_ok, h3], plain_V rfl⟩
 ·rename_i ms tt pay hu; cases e
  have hv := hx _ rfl
  simp only [V] at hv
  obtain ⟨y, hy, _⟩ := hv
  obtain ⟨h1, h2, h3, h4⟩ := eql_run (P := P) (w := w) (t := t) (u := .iface tt y) (v := .nilIface) (b := false) (fun op X Y => by simp [eqGuard]) rfl rfl (by rw [Op.equalIn]; simp only [Sem.run_bind, run_underlying hu, Result.andThen_ok]; rfl) p (.const .nilIface)
  rw [hy, show a.eval (.const .nilIface) = .nilIface from rfl]
  exact ⟨.bool true, by simp only [Sem.run_bind, h2, Result.andThen_ok, h4]; rfl, plain_V rfl⟩
 ·rename_i hu; cases e
  have hv := hx _ rfl
  simp only [V] at hv
  obtain ⟨_, hy⟩ := hv
  have he : (Op.equal t .nilIface .nilIface).run P w = .ok true w := by
   show (Op.equalIn (9999 + 1) t .nilIface .nilIface).run P w = _
   rw [Op.equalIn]; simp only [Sem.run_bind, run_underlying hu, Result.andThen_ok]; rfl
  rw [hy, show a.eval (.const .nilIface) = .nilIface from rfl]
  refine ⟨.bool true, ?_, plain_V rfl⟩
  have hg : (eqGuard .eql t p (.const .nilIface) .nilIface .nilIface).run P w = .ok () w := by simp [eqGuard]
  simp only [Sem.run_bind, hg, Result.andThen_ok, binOp, he, Sem.run_pure]
 ·rename_i hu; cases e
  have hv := hx _ rfl
  simp only [V] at hv
  obtain ⟨_, hy⟩ := hv
  have he : (Op.equal t .nilIface .nilIface).run P w = .ok true w := by
   show (Op.equalIn (9999 + 1) t .nilIface .nilIface).run P w = _
   rw [Op.equalIn]; simp only [Sem.run_bind, run_underlying hu, Result.andThen_ok]; rfl
  rw [hy, show a.eval (.const .nilIface) = .nilIface from rfl]
  refine ⟨.bool false, ?_, plain_V rfl⟩
  have hg : (eqGuard .neq t p (.const .nilIface) .nilIface .nilIface).run P w = .ok () w := by simp [eqGuard]
  simp only [Sem.run_bind, hg, Result.andThen_ok, binOp, he, Sem.run_pure]; rfl
 ·cases e
theorem pop_run {o : Oper} (f : OpsV G μ w fr a o) (hk : kindOf o = .p) {x : AV} (e : pop P G fr o = some x) : PRes P μ w x (execOp a.eval o) := by
 unfold pop at e
 split at e
 ·rename_i y ho; exact ⟨_, by simp only [execOp, ho, Sem.run_pure], f _ (by simp [ho, Op.operands]) _ e⟩
 ·rename_i y ho; exact ⟨_, by simp only [execOp, ho, Sem.run_pure], f _ (by simp [ho, Op.operands]) _ e⟩
 ·rename_i c p q ho
  split at e
  ·rename_i t hc
   have hcv := f _ (by simp [ho, Op.operands]) _ hc
   simp only [V] at hcv
   cases t with
   | true =>
    simp only [if_true] at e
    exact ⟨_, by simp only [execOp, ho, hcv.2, asBool, Sem.run_bind, Sem.run_pure, Result.andThen_ok, if_true], f _ (by simp [ho, Op.operands]) _ e⟩
   | false =>
    simp only [Bool.false_eq_true, if_false] at e
    exact ⟨_, by simp only [execOp, ho, hcv.2, asBool, Sem.run_bind, Sem.run_pure, Result.andThen_ok, Bool.false_eq_true, if_false], f _ (by simp [ho, Op.operands]) _ e⟩
  ·cases e
 ·rename_i t ps ho
  split at e
  ·rename_i qs hq
   simp only [execOp, ho]
   exact PRes.of (build_run (by rw [Array.toList_map]; exact aparts_V (fun z hz => f z (by simpa [ho, Op.operands] using hz)) hq) e)
  ·cases e
 ·rename_i y ho
  split at e
  ·rename_i p hp
   have hv := f _ (by simp [ho, Op.operands]) _ hp
   split at e
   ·rename_i hc
    cases e
    refine ⟨a.eval y, ?_, hv⟩
    cases x with
    | ptr o off => simp only [V] at hv; obtain ⟨b, _, hv⟩ := hv; simp only [execOp, ho, hv, Sem.run_pure]
    | cptr cs => simp only [V] at hv; obtain ⟨b, off, hv, _⟩ := hv; simp only [execOp, ho, hv, Sem.run_pure]
    | ifc t z => simp only [V] at hv; obtain ⟨b, hv, _⟩ := hv; simp only [execOp, ho, hv, Sem.run_pure]
    | fn g p q =>
     cases g with
     | func g => simp only [V] at hv; obtain ⟨_, _, hv, _⟩ := hv; simp only [execOp, ho, hv, Sem.run_pure]
     | _ => simp [callable] at hc
    | yld q => simp only [V] at hv; obtain ⟨b, _, hv⟩ := hv; simp only [execOp, ho, hv, Sem.run_pure]
    | _ => simp [callable] at hc
   ·cases e
  ·cases e
 ·rename_i t y ho
  split at e
  ·rename_i hc
   cases h1 : aev G fr y with
   | none => rw [h1] at e; simp at e
   | some z =>
    rw [h1] at e; simp only [Option.map_some, Option.some.injEq] at e; subst e
    simp only [execOp, ho]
    exact PRes.of ⟨_, run_makeInterface w t _ hc, by simp only [V]; exact ⟨_, rfl, f _ (by simp [ho, Op.operands]) _ h1⟩⟩
  ·cases e
 ·rename_i g first cap ho
  split at e
  ·rename_i p q hp hq
   cases e
   simp only [execOp, ho]
   exact PRes.of ⟨_, rfl, by simp only [V]; exact ⟨_, _, rfl, by rw [Array.toList_map]; exact aevs_V (fun z hz => f z (by simp only [ho, Op.operands, Array.mem_append]; exact .inl (by simpa using hz))) hp, by rw [Array.toList_map]; exact aevs_V (fun z hz => f z (by simp only [ho, Op.operands, Array.mem_append]; exact .inr (by simpa using hz))) hq⟩⟩
  ·cases e
 ·rename_i t y lo hi ho
  split at e
  ·rename_i y' lo' hi' hy hlo hhi
   simp only [execOp, ho]
   exact PRes.of (slice_run (f _ (by simp [ho, Op.operands]) _ hy) (aopt_V (fun z hz => f z (by simp only [ho, Op.operands, Array.mem_append]; simp only [hz, true_or, or_true])) hlo) (aopt_V (fun z hz => f z (by simp only [ho, Op.operands, Array.mem_append]; simp only [hz, true_or, or_true])) hhi) e)
  ·cases e
 ·rename_i t y g ho
  split at e
  ·rename_i y' hy
   simp only [execOp, ho]
   exact PRes.of (fieldAddr_run (f _ (by simp [ho, Op.operands]) _ hy) e)
  ·cases e
 ·rename_i t y g ho
  split at e
  ·rename_i y' hy
   simp only [execOp, ho]
   exact PRes.of (field_run (f _ (by simp [ho, Op.operands]) _ hy) e)
  ·cases e
 ·rename_i t y g ho
  split at e
  ·rename_i y' g' hy hg
   simp only [execOp, ho]
   exact PRes.of (indexAddr_run (f _ (by simp [ho, Op.operands]) _ hy) (f _ (by simp [ho, Op.operands]) _ hg) e)
  ·cases e
 ·rename_i t y g ho
  split at e
  ·rename_i y' g' hy hg
   simp only [execOp, ho]
   exact PRes.of (index_run (f _ (by simp [ho, Op.operands]) _ hy) (f _ (by simp [ho, Op.operands]) _ hg) e)
  ·cases e
 ·rename_i y i ho
  split at e
  ·rename_i vs hy
   have hv := f _ (by simp [ho, Op.operands]) _ hy
   simp only [V] at hv
   obtain ⟨us, hus, hvs⟩ := hv
   obtain ⟨u, hu, hz⟩ := hvs.get i _ e
   simp only [execOp, ho]
   exact PRes.of ⟨u, by
    have hu' : us[i]? = some u := by simpa using hu
    simp [Instr.extract, hus, hu'], hz⟩
  ·cases e
 ·rename_i op t p q yt ho
  split at e
  ·rename_i z hz
   cases e
   simp only [execOp, ho]
   exact PRes.of (inilv_run (fun y e => f _ (by simp [ho, Op.operands]) _ e) hz)
  rename_i hin
  clear hin
  split at e
  ·rename_i z hz
   cases e
   exact alit_run f (by simp [ho]) hz
  ·split at e
   ·rename_i p' q' hp hq
    split at e
    ·rename_i b hn
     cases e
     obtain ⟨h1, h2, h3, h4⟩ := anil_run (P := P) (f _ (by simp [ho, Op.operands]) _ hp) (f _ (by simp [ho, Op.operands]) _ hq) hn p q
     simp only [execOp, ho]
     exact PRes.of ⟨.bool b, by simp only [Sem.run_bind, h1, Result.andThen_ok, h3], plain_V rfl⟩
    ·rename_i b hn
     cases e
     obtain ⟨h1, h2, h3, h4⟩ := anil_run (P := P) (f _ (by simp [ho, Op.operands]) _ hp) (f _ (by simp [ho, Op.operands]) _ hq) hn p q
     simp only [execOp, ho]
     exact PRes.of ⟨.bool !b, by simp only [Sem.run_bind, h2, Result.andThen_ok, h4], plain_V rfl⟩
    ·cases e
   ·cases e
 ·rename_i p xt t ok ho
  split at e
  ·rename_i p' hp
   simp only [execOp, ho]
   exact PRes.of (atas_run (f _ (by simp [ho, Op.operands]) _ hp) e)
  ·cases e
 ·rename_i ho; exact alit_run f (by simp [ho]) e
 ·rename_i ho; exact alit_run f (by simp [ho]) e
 ·rename_i ho; exact alit_run f (by simp [ho]) e
 ·cases e
theorem lop_run {C : Nat → Option AObj} (hC : ObjsOk μ w C) {o : Oper} (f : OpsV G μ w fr a o) {x : AV} (e : lop P G fr C o = some x) : PRes P μ w x (execOp a.eval o) := by
 unfold lop at e
 split at e
 ·rename_i t y ho
  split at e
  ·rename_i p hp
   simp only [execOp, ho]
   exact PRes.of (load_run hC (f _ (by simp [ho, Op.operands]) _ hp) e)
  ·cases e
 ·rename_i t y g ok ho
  split at e
  ·rename_i y' g' hy hg
   simp only [execOp, ho]
   exact PRes.of (lookup_run hC (f _ (by simp [ho, Op.operands]) _ hy) (f _ (by simp [ho, Op.operands]) _ hg) e)
  ·cases e
 ·rename_i c ho
  split at e
  ·rename_i hcal
   split at e
   ·rename_i y t hargs htys
    split at e
    ·rename_i y' hy
     obtain ⟨u, hr, hv⟩ := len_run (ty := o.type) hC (f y (by rw [ho]; simp only [Op.operands, Call.operands, Array.mem_append]; exact .inr (by rw [← Array.mem_toList_iff, hargs]; simp)) _ hy) e
     refine ⟨u, ?_, hv⟩
     have ha : c.args.map a.eval = #[a.eval y] := by apply Array.ext'; simp [hargs]
     have ht : c.argTypes = #[t] := by apply Array.ext'; simp [htys]
     simp only [execOp, ho, resolve, hcal, Sem.run_bind, Sem.run_pure, Result.andThen_ok, invoke, builtin, ha, ht, hr]
    ·cases e
   ·cases e
  ·cases e
 ·cases e
theorem EvRes.next {ev : Ev} {g : Nat → AV} {s : Sem Value} (e : EvRes P μ w ev g s) : ∃ u o w', (do pure (.value (← s)) : Sem Next).run P w = .ok (.value u) w' ∧ HPush w w' o ∧ EvOk μ w g u o ev := by
 obtain ⟨u, o, w', hr, h1, h2⟩ := e
 exact ⟨u, o, w', by simp only [Sem.run_bind, hr, Result.andThen_ok, Sem.run_pure], h1, h2⟩
theorem mkop_run {o : Oper} (f : OpsV G μ w fr a o) {ev : Ev} {g : Nat → AV} (e : mkop P G fr o = some (ev, g)) : ∃ u ob w', (execOp a.eval o).run P w = .ok (.value u) w' ∧ HPush w w' ob ∧ EvOk μ w g u ob ev := by
 unfold mkop at e
 split at e
 ·rename_i t ho
  cases h1 : azero P t with
  | none => rw [h1] at e; simp at e
  | some cs =>
   rw [h1] at e; simp only [Option.map_some, Option.some.injEq, Prod.mk.injEq] at e; obtain ⟨rfl, rfl⟩ := e
   simp only [execOp, ho]
   exact (alloc_ev h1).next
 ·rename_i t y ho
  cases h1 : aev G fr y with
  | none => rw [h1] at e; simp at e
  | some z =>
   rw [h1] at e; simp only [Option.bind_some] at e
   split at e
   ·rename_i hkn
    simp only [Option.some.injEq, Prod.mk.injEq] at e; obtain ⟨rfl, rfl⟩ := e
    simp only [execOp, ho]
    exact (box_ev (f _ (by simp [ho, Op.operands]) _ h1) hkn).next
   ·cases e
 ·rename_i t n ps ho
  split at e
  ·rename_i qs hq
   simp only [execOp, ho]
   exact (buildSlice_ev (by rw [Array.toList_map]; exact aparts_V (fun z hz => f z (by simpa [ho, Op.operands] using hz)) hq) e).next
  ·cases e
 ·rename_i t ho
  simp only [Option.some.injEq, Prod.mk.injEq] at e; obtain ⟨rfl, rfl⟩ := e
  simp only [execOp, ho]
  exact EvRes.next ⟨.map (some w.heap.size), .map #[] 0, { w with heap := w.heap.push (.map #[] 0) }, rfl, ⟨rfl, rfl, rfl, rfl⟩, fun μ' w' hl hk hb => ⟨#[], 0, hb, Born.nil 0, rfl, by simp [Vs]⟩, fun μ' w' id hid => by simp only [V]; exact ⟨_, hid, rfl⟩⟩
 ·rename_i t l c ho
  split at e
  ·rename_i l' c' hl hc
   simp only [execOp, ho]
   exact (make_ev (f _ (by simp [ho, Op.operands]) _ hl) (f _ (by simp [ho, Op.operands]) _ hc) e).next
  ·cases e
 ·cases e
theorem mkput_step (r : R B0 G μ h w) {w' : World} {ev : Ev} {g : Nat → AV} {u : Value} {ob : Obj} (hp : HPush w w' ob) (hev : EvOk μ w g u ob ev) :
  ∃ μ', Step B0 G μ h w μ' (mkput h (ev, g)).2 w' ∧ V μ' w' (mkput h (ev, g)).1 u := by
 cases ev with
 | obj x =>
  obtain ⟨h1, h2⟩ := hev
  exact ⟨_, step_new_obj r hp h1, h2 _ _ _ (by simp [Mu.addObj])⟩
 | row n sz cs =>
  obtain ⟨vs, ty, sp, rfl, h1, h2, h3, rfl, rfl⟩ := hev
  obtain ⟨st, hcells, htok⟩ := step_new_row (B0 := B0) (G := G) r (vs := vs) (ty := ty) hp (t := h.tnext) (F := n) (n := n) (sz := sz) (sp := sp) (cs := cs) (h' := h.pushTok n)
   h1 h2 h3 ⟨rfl, rfl, fun x => AH.tok_pushTok h n x, by simp [AH.pushTok], by simp [AH.pushTok]⟩ (fun j hj => by rw [r.tnext _ (Nat.le_refl _)] at hj; cases hj) (.inl (Nat.le_refl _))
  refine ⟨_, st, ?_⟩
  simp only [mkput, V]
  exact ⟨_, 0, _, _, rfl, by omega, hcells, htok, rfl, by simp, fun _ => ⟨rfl, by simp, by simp⟩⟩
def Post (B0 : Nat) (G : Nat → Option (List AV)) (μ : Mu) (h : AH) (w : World) (out : AOut) (h' : AH) (e : Ending) (w' : World) : Prop :=
 ∃ μ', Step B0 G μ h w μ' h' w' ∧ match out with
  | .ret x => ∃ u, e = .returned u ∧ V μ' w' x u
  | .pan x => ∃ u, e = .panicked [{ v := u, recovered := false }] ∧ V μ' w' x u
def CallOk (P : Program) (B0 : Nat) (G : Nat → Option (List AV)) (call : FuncId → List AV → AH → Option (AOut × AH)) : Prop :=
 ∀ f args h out h', call f args h = some (out, h') → ∀ μ w vs, R B0 G μ h w → Vs μ w args vs → Calls P f vs.toArray w (Post B0 G μ h w out h')
def hasBody (P : Program) (f : FuncId) : Bool :=
 match P.funcs[f]? with
 | some fn => !(fn.name == "runtime.NumGoroutine") && fn.body.isSome
 | none => false
def mtd (P : Program) (t : TypeId) (m : String) : Option FuncId :=
 match P.info? t with
 | some i => match i.methods.find? (·.name == m) with
  | some r => match P.underlying t, r.path.toList, r.func with
   | some (.pointer _), [], some (f, true) => some f
   | some (.pointer _), _, _ => none
   | some _, [], some (f, false) => some f
   | _, _, _ => none
  | none => none
 | none => none
def mtv (P : Program) (t : TypeId) (m : String) : Option FuncId :=
 match mtd P t m with
 | some g => if hasBody P g then some g else none
 | none => none
theorem mtv_mtd {P : Program} {t : TypeId} {m : String} {g : FuncId} (e : mtv P t m = some g) : mtd P t m = some g ∧ hasBody P g = true := by
 unfold mtv at e
 split at e
 ·rename_i g' h
  split at e
  ·cases e; exact ⟨h, by assumption⟩
  ·cases e
 ·cases e
theorem mtd_run {P : Program} {t : TypeId} {m : String} {g : FuncId} (e : mtd P t m = some g) (n : Nat) (v : Value) (w : World) : (method (n + 1) t v m).run P w = .ok (g, v) w := by
 unfold mtd at e
 split at e
 ·rename_i i hi
  have hti : (typeInfo t).run P w = .ok i w := by
   unfold typeInfo
   simp only [Sem.run_bind, show (program).run P w = .ok P w from rfl, Result.andThen_ok, hi]
   rfl
  split at e
  ·rename_i r hr
   split at e
   ·rename_i x f hu hp hf
    cases e
    simp only [method, Sem.run_bind, hti, Result.andThen_ok, hr, hp, follow, Sem.run_pure, hf, receiverAt, run_underlying hu, Place.get]
   ·cases e
   ·rename_i x d f hnp hu hp hf
    cases e
    simp only [method, Sem.run_bind, hti, Result.andThen_ok, hr, hp, follow, Sem.run_pure, hf, receiverAt, run_underlying hu, Place.get]
   ·cases e
  ·cases e
 ·cases e
def eop (P : Program) (G : Nat → Option (List AV)) (call : FuncId → List AV → AH → Option (AOut × AH)) (fr : Fr) (h : AH) (o : Oper) : Option (AOut × AH) :=
 match o.op with
 | .store t p x => match aev G fr p, aev G fr x with
  | some p, some x => (astore P h t p x).map fun h' => (.ret (.v undef), h')
  | _, _ => none
 | .mapUpdate t m k x | .insert t m k x => match aev G fr m, aev G fr k, aev G fr x with
  | some m, some k, some x => (amapUpdate P h t m k x).map fun h' => (.ret (.v undef), h')
  | _, _, _ => none
 | .panic x => match aev G fr x with
  | some (.ifc t y) => some (.pan (.ifc t y), h)
  | _ => none
 | .call c => match c.callee with
  | .builtin .panic => match c.args.toList with
   | [x] => match aev G fr x with
    | some (.ifc t y) => some (.pan (.ifc t y), h)
    | _ => none
   | _ => none
  | .builtin .append => match c.args.toList, c.argTypes.toList with
   | [a, b], [t, t'] => if t = t' then match aev G fr a, aev G fr b with
    | some a, some b => (aappend P h t a b).map fun p => (.ret p.1, p.2)
    | _, _ => none
    else none
   | _, _ => none
  | .value g => match aev G fr g, aevs G fr c.args.toList with
   | some (.fn (.func g) first cap), some xs => if hasBody P g then call g (first ++ xs ++ cap) h else none
   | _, _ => none
  | .invoke r m => match aev G fr r, aevs G fr c.args.toList with
   | some (.ifc t y), some xs => match mtv P t m with
    | some g => call g (y :: xs) h
    | none => none
   | _, _ => none
  | _ => none
 | _ => none
def astep (P : Program) (G : Nat → Option (List AV)) (call : FuncId → List AV → AH → Option (AOut × AH)) (fr : Fr) (h : AH) (o : Oper) : Option (AOut × AH) :=
 match kindOf o with
 | .p => (pop P G fr o).map fun x => (.ret x, h)
 | .l => (lop P G fr h.get o).map fun x => (.ret x, h)
 | .a => (mkop P G fr o).map fun p => (.ret (mkput h p).1, (mkput h p).2)
 | .e => eop P G call fr h o
theorem undef_V : V μ w (.v undef) undef := plain_V rfl
theorem invoke_wp {o : Oper} {c : Call} {rv : Operand} {m : String} {t : TypeId} {z : Value} {g : FuncId} {K : Act → World → Prop} {Q : Exit → Act → World → Prop} (ho : o.op = .call c) (hcal : c.callee = .invoke rv m) (hz : a.eval rv = .iface t z) (hm : mtd P t m = some g) (hb : hasBody P g = true)
  (k : Calls P g (z :: c.args.toList.map a.eval).toArray w fun
   | .returned v, w'' => K (a.put o.dst v) w''
   | .panicked chain, w'' => Q (.panic chain) a w''
   | .outgrown, _ => LetsOut Q) : o.wp P a w K Q := by
 unfold hasBody at hb
 cases hfn : P.funcs[g]? with
 | none => rw [hfn] at hb; simp at hb
 | some fn =>
  rw [hfn] at hb
  simp only [Bool.and_eq_true, Bool.not_eq_true'] at hb
  obtain ⟨hb1, hb2⟩ := hb
  have hnb : fn.body.isNone = false := by cases hq : fn.body <;> simp [hq] at hb2 ⊢
  have hpr : (program).run P w = .ok P w := rfl
  have h0 : (#[Value.iface t z] ++ c.args.map a.eval)[0]? = some (.iface t z) := by rw [← Array.getElem?_toList, Array.toList_append]; rfl
  have h1 : (#[Value.iface t z] ++ c.args.map a.eval).extract 1 (#[Value.iface t z] ++ c.args.map a.eval).size = c.args.map a.eval := by
   apply Array.ext'
   simp only [Array.toList_extract, Array.toList_append, Array.toList_map, List.extract_eq_take_drop, Array.size_append, Array.size_map, List.singleton_append, List.drop_one, List.tail_cons]
   exact List.take_of_length_le (by simp)
  have h2 : (z :: c.args.toList.map a.eval).toArray = #[z] ++ c.args.map a.eval := by
   apply Array.ext'
   rw [Array.toList_append, Array.toList_map]
   rfl
  rw [h2] at k
  have hmr := fun w => mtd_run hm (P.types.size + 99) z w
  unfold Oper.wp
  simp only [execOp, ho, resolve, hcal, hz, Sem.run_bind, Sem.run_pure, Result.andThen_ok, invoke, h0, h1, callMethod, hpr]
  have e99 : P.types.size + Made.depth = P.types.size + 99 + 1 := rfl
  rw [e99, hmr]
  simp only [Result.andThen_ok, Sem.run_bind, callFunc, hpr, hfn, hb1, hnb, Bool.false_eq_true, if_false, Sem.run_pure, Oper.upon_enter]
  exact k
theorem eop_sound {call : FuncId → List AV → AH → Option (AOut × AH)} (hc : CallOk P B0 G call) (r : R B0 G μ h w) {o : Oper} (f : OpsV G μ w fr a o) {out : AOut} {h' : AH} (e : eop P G call fr h o = some (out, h'))
  {K : Act → World → Prop} {Q : Exit → Act → World → Prop}
  (hret : ∀ x μ' w' u, out = .ret x → Step B0 G μ h w μ' h' w' → V μ' w' x u → K (a.put o.dst u) w')
  (hpan : ∀ x μ' w' u, out = .pan x → Step B0 G μ h w μ' h' w' → V μ' w' x u → Q (.panic [{ v := u, recovered := false }]) a w') : o.wp P a w K Q := by
 have hmu : ∀ t m k x, (∀ z, z = m ∨ z = k ∨ z = x → z ∈ o.op.operands) → (∃ m' k' x', aev G fr m = some m' ∧ aev G fr k = some k' ∧ aev G fr x = some x' ∧ amapUpdate P h t m' k' x' = some h' ∧ out = .ret (.v undef)) → (execOp a.eval o = do Instr.mapUpdate t (a.eval m) (a.eval k) (a.eval x); pure .skip) → o.wp P a w K Q := by
  rintro t m k x hin ⟨m', k', x', hm, hk, hx, hup, ho⟩ hex
  obtain ⟨w', hr, hs⟩ := mapUpdate_res (P := P) r (f _ (hin _ (.inl rfl)) _ hm) (f _ (hin _ (.inr (.inl rfl))) _ hk) (f _ (hin _ (.inr (.inr rfl))) _ hx) hup
  unfold Oper.wp
  rw [hex]
  simp only [Sem.run_bind, hr, Result.andThen_ok, Sem.run_pure, Oper.upon_skip]
  exact hret _ μ w' undef ho hs undef_V
 unfold eop at e
 split at e
 ·rename_i t p x ho
  split at e
  ·rename_i p' x' hp hx
   cases h1 : astore P h t p' x' with
   | none => rw [h1] at e; simp at e
   | some h2 =>
    rw [h1] at e; simp only [Option.map_some, Option.some.injEq, Prod.mk.injEq] at e; obtain ⟨rfl, rfl⟩ := e
    obtain ⟨w', hr, hs⟩ := store_res (P := P) r (f _ (by simp [ho, Op.operands]) _ hp) (f _ (by simp [ho, Op.operands]) _ hx) h1
    unfold Oper.wp
    simp only [execOp, ho, Sem.run_bind, hr, Result.andThen_ok, Sem.run_pure, Oper.upon_skip]
    exact hret _ μ w' undef rfl hs undef_V
  ·cases e
 ·rename_i t m k x ho
  split at e
  ·rename_i m' k' x' hm hk hx
   cases h1 : amapUpdate P h t m' k' x' with
   | none => rw [h1] at e; simp at e
   | some h2 =>
    rw [h1] at e; simp only [Option.map_some, Option.some.injEq, Prod.mk.injEq] at e; obtain ⟨rfl, rfl⟩ := e
    exact hmu t m k x (fun z hz => by simp only [ho, Op.operands]; simpa using hz) ⟨m', k', x', hm, hk, hx, h1, rfl⟩ (by simp only [execOp, ho])
  ·cases e
 ·rename_i t m k x ho
  split at e
  ·rename_i m' k' x' hm hk hx
   cases h1 : amapUpdate P h t m' k' x' with
   | none => rw [h1] at e; simp at e
   | some h2 =>
    rw [h1] at e; simp only [Option.map_some, Option.some.injEq, Prod.mk.injEq] at e; obtain ⟨rfl, rfl⟩ := e
    exact hmu t m k x (fun z hz => by simp only [ho, Op.operands]; simpa using hz) ⟨m', k', x', hm, hk, hx, h1, rfl⟩ (by simp only [execOp, ho])
  ·cases e
 ·rename_i x ho
  split at e
  ·rename_i t y hx
   simp only [Option.some.injEq, Prod.mk.injEq] at e; obtain ⟨rfl, rfl⟩ := e
   have hv := f _ (by simp [ho, Op.operands]) _ hx
   have hv' := hv
   simp only [V] at hv'
   obtain ⟨z, hz, _⟩ := hv'
   unfold Oper.wp
   simp only [execOp, ho, hz, Instr.panic, goPanic, Sem.run_bind, Sem.run, Result.andThen_halt, Oper.upon_panic]
   rw [← hz]
   exact hpan _ μ w _ rfl (Step.refl r) hv
  ·cases e
 ·rename_i c ho
  split at e
  ·rename_i hcal
   split at e
   ·rename_i x hargs
    split at e
    ·rename_i t y hx
     simp only [Option.some.injEq, Prod.mk.injEq] at e; obtain ⟨rfl, rfl⟩ := e
     have hv := f x (by rw [ho]; simp only [Op.operands, Call.operands, Array.mem_append]; exact .inr (by rw [← Array.mem_toList_iff, hargs]; simp)) _ hx
     have hv' := hv
     simp only [V] at hv'
     obtain ⟨z, hz, _⟩ := hv'
     unfold Oper.wp
     have ha : c.args.map a.eval = #[a.eval x] := by apply Array.ext'; simp [hargs]
     have hg : (#[a.eval x] : Array Value).getD 0 .nilIface = a.eval x := rfl
     simp only [execOp, ho, resolve, hcal, Sem.run_bind, Sem.run_pure, Result.andThen_ok, invoke, builtin, ha, hg]
     simp only [hz, Instr.panic, goPanic, Sem.run, Result.andThen_halt, Oper.upon_panic]
     rw [← hz]
     exact hpan _ μ w _ rfl (Step.refl r) hv
    ·cases e
   ·cases e
  ·rename_i hcal
   split at e
   ·rename_i p q t t' hargs htys
    split at e
    ·rename_i htt
     subst htt
     split at e
     ·rename_i p' q' hp hq
      cases h1 : aappend P h t p' q' with
      | none => rw [h1] at e; simp at e
      | some z =>
       obtain ⟨x, h2⟩ := z
       rw [h1] at e; simp only [Option.map_some, Option.some.injEq, Prod.mk.injEq] at e; obtain ⟨rfl, rfl⟩ := e
       obtain ⟨u, w', μ', hr, hs, hv⟩ := append_res (ty := o.type) r (f p (by rw [ho]; simp only [Op.operands, Call.operands, Array.mem_append]; exact .inr (by rw [← Array.mem_toList_iff, hargs]; simp)) _ hp) (f q (by rw [ho]; simp only [Op.operands, Call.operands, Array.mem_append]; exact .inr (by rw [← Array.mem_toList_iff, hargs]; simp)) _ hq) h1
       have ha : c.args.map a.eval = #[a.eval p, a.eval q] := by apply Array.ext'; simp [hargs]
       have ht : c.argTypes = #[t, t] := by apply Array.ext'; simp [htys]
       unfold Oper.wp
       simp only [execOp, ho, resolve, hcal, Sem.run_bind, Sem.run_pure, Result.andThen_ok, invoke, builtin, ha, ht, hr, Oper.upon_value]
       exact hret x μ' w' u rfl hs hv
     ·cases e
    ·cases e
   ·cases e
  ·rename_i g hcal
   split at e
   ·rename_i g' first cap xs hg has
    split at e
    ·rename_i hb
     have hgv := f g (by rw [ho]; simp only [Op.operands, Call.operands, hcal, Array.mem_append]; exact .inl (by simp)) _ hg
     simp only [V] at hgv
     obtain ⟨A, B, hge, hA, hB⟩ := hgv
     have hxs := aevs_V (fun z hz => f z (by rw [ho]; simp only [Op.operands, Call.operands, Array.mem_append]; exact .inr (by simpa using hz))) has
     have hcall := hc g' _ h out h' e μ w (A.toList ++ c.args.toList.map a.eval ++ B.toList) r ((hA.append hxs).append hB)
     have harr : (A.toList ++ c.args.toList.map a.eval ++ B.toList).toArray = A ++ c.args.map a.eval ++ B := by
      apply Array.ext'; simp
     rw [harr] at hcall
     unfold hasBody at hb
     cases hfn : P.funcs[g']? with
     | none => rw [hfn] at hb; simp at hb
     | some fn =>
      rw [hfn] at hb
      simp only [Bool.and_eq_true, Bool.not_eq_true'] at hb
      obtain ⟨hb1, hb2⟩ := hb
      have hnb : fn.body.isNone = false := by cases hq : fn.body <;> simp [hq] at hb2 ⊢
      unfold Oper.wp
      have hpr : (program).run P w = .ok P w := rfl
      simp only [execOp, ho, resolve, hcal, hge, Deferred.ofValue, Sem.run_bind, Sem.run_pure, Result.andThen_ok, invoke, callFunc, hpr, hfn, hb1, hnb, Bool.false_eq_true, if_false, Oper.upon_enter]
      refine hcall.mono ?_
      rintro e' w' ⟨μ', hs, hout⟩
      cases out with
      | ret x => obtain ⟨u, rfl, hv⟩ := hout; exact hret x μ' w' u rfl hs hv
      | pan x => obtain ⟨u, rfl, hv⟩ := hout; exact hpan x μ' w' u rfl hs hv
    ·cases e
   ·cases e
  ·rename_i rv m hcal
   split at e
   ·rename_i t y xs hr has
    split at e
    ·rename_i g' hmt
     obtain ⟨hmd, hb⟩ := mtv_mtd hmt
     have hrv := f rv (by rw [ho]; simp only [Op.operands, Call.operands, hcal, Array.mem_append]; exact .inl (by simp)) _ hr
     simp only [V] at hrv
     obtain ⟨z, hze, hz⟩ := hrv
     have hxs := aevs_V (fun z hz => f z (by rw [ho]; simp only [Op.operands, Call.operands, Array.mem_append]; exact .inr (by simpa using hz))) has
     have hcall := hc g' _ h out h' e μ w (z :: c.args.toList.map a.eval) r ⟨_, _, rfl, hz, hxs⟩
     refine invoke_wp ho hcal hze hmd hb ?_
     refine hcall.mono ?_
     rintro e' w' ⟨μ', hs, hout⟩
     cases out with
     | ret x => obtain ⟨u, rfl, hv⟩ := hout; exact hret x μ' w' u rfl hs hv
     | pan x => obtain ⟨u, rfl, hv⟩ := hout; exact hpan x μ' w' u rfl hs hv
    ·cases e
   ·cases e
  ·cases e
 ·cases e
theorem astep_sound {call : FuncId → List AV → AH → Option (AOut × AH)} (hc : CallOk P B0 G call) (r : R B0 G μ h w) {Δ : List Deferred} (f : FrRel Δ μ w fr a) {o : Oper} {out : AOut} {h' : AH} (e : astep P G call fr h o = some (out, h'))
  {K : Act → World → Prop} {Q : Exit → Act → World → Prop}
  (hret : ∀ x μ' w' u, out = .ret x → Step B0 G μ h w μ' h' w' → V μ' w' x u → K (a.put o.dst u) w')
  (hpan : ∀ x μ' w' u, out = .pan x → Step B0 G μ h w μ' h' w' → V μ' w' x u → Q (.panic [{ v := u, recovered := false }]) a w') : o.wp P a w K Q := by
 unfold astep at e
 split at e
 ·rename_i hk
  cases h1 : pop P G fr o with
  | none => rw [h1] at e; simp at e
  | some x =>
   rw [h1] at e; simp only [Option.map_some, Option.some.injEq, Prod.mk.injEq] at e; obtain ⟨rfl, rfl⟩ := e
   obtain ⟨u, hr, hv⟩ := pop_run (P := P) (f.ops r.glob o) hk h1
   unfold Oper.wp
   rw [hr]
   exact hret x μ w u rfl (Step.refl r) hv
 ·rename_i hk
  cases h1 : lop P G fr h.get o with
  | none => rw [h1] at e; simp at e
  | some x =>
   rw [h1] at e; simp only [Option.map_some, Option.some.injEq, Prod.mk.injEq] at e; obtain ⟨rfl, rfl⟩ := e
   obtain ⟨u, hr, hv⟩ := lop_run (P := P) r.objs (f.ops r.glob o) h1
   unfold Oper.wp
   rw [hr]
   exact hret x μ w u rfl (Step.refl r) hv
 ·rename_i hk
  cases h1 : mkop P G fr o with
  | none => rw [h1] at e; simp at e
  | some p =>
   obtain ⟨ev, g⟩ := p
   rw [h1] at e; simp only [Option.map_some, Option.some.injEq, Prod.mk.injEq] at e; obtain ⟨rfl, rfl⟩ := e
   obtain ⟨u, ob, w', hr, hp, hev⟩ := mkop_run (P := P) (f.ops r.glob o) h1
   obtain ⟨μ', st, hv⟩ := mkput_step r hp hev
   unfold Oper.wp
   rw [hr]
   exact hret _ μ' w' u rfl st hv
 ·exact eop_sound hc r (f.ops r.glob o) e hret hpan
end
end
section
def ayielded (ops : Array Oper) (fr : Fr) (j : Nat) : Option Bool :=
 match (ops[j]?).bind (·.dst) with
 | some d => if d < fr.n then match fr.get d with
   | .v (.bool b) => some b
   | _ => none
  else none
 | none => none
def gknown (ops : Array Oper) (fr : Fr) (j : Nat) : Bool :=
 match (ops[j]?).bind (·.dst) with
 | some d => (fr.get d).known
 | none => true
def awanted (ops : Array Oper) (fr : Fr) (o : Oper) : Option Bool :=
 match o.guard with
 | none => some true
 | some (j, want) => if gknown ops fr j then some (ayielded ops fr j == some want) else none
theorem yielded_V {ops : Array Oper} {μ : Mu} {w : World} {fr : Fr} {a : Act} {Δ : List Deferred} (f : FrRel Δ μ w fr a) {j : Nat} (hk : gknown ops fr j = true) : yielded ops a.tmps j = ayielded ops fr j := by
 unfold gknown at hk
 revert hk
 unfold yielded ayielded
 cases hd : (ops[j]?).bind (·.dst) with
 | none => intro _; rfl
 | some d =>
  intro hk
  simp only at hk
  simp only [Option.bind_some]
  have hs := f.size
  have hv := f.val d
  rw [Array.getD_eq_getD_getElem?] at hv
  by_cases hlt : d < fr.n
  ·rw [if_pos hlt]
   have hlt' : d < a.tmps.size := by rw [hs]; exact hlt
   rw [Array.getElem?_eq_getElem hlt'] at hv ⊢
   simp only [Option.getD_some] at hv
   revert hv
   generalize a.tmps[d] = u
   intro hv
   cases hx : fr.get d with
   | any => rw [hx] at hk; simp [AV.known] at hk
   | v x =>
    rw [hx] at hv; simp only [V] at hv; obtain ⟨_, rfl⟩ := hv
    cases u <;> rfl
   | sl tok n cs => rw [hx] at hv; obtain ⟨A, c, rfl, _⟩ := sl_open' hv; rfl
   | ptr o off => rw [hx] at hv; simp only [V] at hv; obtain ⟨_, _, rfl⟩ := hv; rfl
   | arr o off n => rw [hx] at hv; simp only [V] at hv; obtain ⟨_, _, _, rfl, _⟩ := hv; rfl
   | cptr cs => rw [hx] at hv; simp only [V] at hv; obtain ⟨_, _, rfl, _⟩ := hv; rfl
   | mp o => rw [hx] at hv; simp only [V] at hv; obtain ⟨_, _, rfl⟩ := hv; rfl
   | yld o => rw [hx] at hv; simp only [V] at hv; obtain ⟨_, _, rfl⟩ := hv; rfl
   | fn g p q => rw [hx] at hv; simp only [V] at hv; obtain ⟨_, _, rfl, _⟩ := hv; rfl
   | ifc t y => rw [hx] at hv; simp only [V] at hv; obtain ⟨_, rfl, _⟩ := hv; rfl
   | agg cs => rw [hx] at hv; simp only [V] at hv; obtain ⟨_, rfl, _⟩ := hv; rfl
   | tup cs => rw [hx] at hv; simp only [V] at hv; obtain ⟨_, rfl, _⟩ := hv; rfl
  ·rw [if_neg hlt]
   rw [Array.getElem?_eq_none (by rw [hs]; exact Nat.le_of_not_lt hlt)]
theorem wanted_V {ops : Array Oper} {μ : Mu} {w : World} {fr : Fr} {a : Act} {Δ : List Deferred} (f : FrRel Δ μ w fr a) {o : Oper} {b : Bool} (hw : awanted ops fr o = some b) : Region.wanted o (yielded ops a.tmps) = b := by
 unfold awanted at hw
 unfold Region.wanted
 split at hw
 ·rename_i hg; rw [hg]; cases hw; rfl
 ·rename_i j want hg
  rw [hg]
  split at hw
  ·rename_i hk
   cases hw
   simp only [yielded_V f hk]
  ·cases hw
def ancMask (acc : List Nat) (o : Oper) : Nat := o.after.toList.foldl (fun m e => if Region.binds .any e then m ||| 2 ^ e.on ||| acc.getD e.on 0 else m) 0
def ancs (ops : Array Oper) : Nat → List Nat
 | 0 => []
 | n + 1 => ancs ops n ++ [ancMask (ancs ops n) ((ops[n]?).getD default)]
def anc (ops : Array Oper) (i : Nat) : Nat := (ancs ops ops.size).getD i 0
def dstOf (ops : Array Oper) (i : Nat) : Option Tmp := (ops[i]?).bind (·.dst)
def kindAt (ops : Array Oper) (i : Nat) : Kind := ((ops[i]?).map kindOf).getD .p
def pairStatic (ops : Array Oper) (l : List Nat) (i j : Nat) : Bool :=
 let ai := l.getD i 0
 let aj := l.getD j 0
 (i == j || dstOf ops i == none || dstOf ops i != dstOf ops j) &&
 (match ops[i]?, dstOf ops j with
  | some o, some d => !(o.looksAt ops).contains d || ai.testBit j || aj.testBit i
  | _, _ => true) &&
 (!(kindAt ops i == .e && (kindAt ops j == .e || kindAt ops j == .a) && decide (i < j)) || aj.testBit i) &&
 decide (ai < 2 ^ i)
def staticOk (ops : Array Oper) : Bool :=
 let l := ancs ops ops.size
 (List.range ops.size).all fun i => (List.range ops.size).all fun j => pairStatic ops l i j
structure Ent where
 ex : Bool
 x : AV
 fb : Fr
 hb : AH
 ha : AH
def ltouch (G : Nat → Option (List AV)) (fr : Fr) (o : Oper) : Option Nat :=
 match o.op with
 | .load _ a => match aev G fr a with
  | some (.ptr o _) => some o
  | _ => none
 | .lookup _ m _ _ => match aev G fr m with
  | some (.mp o) => some o
  | _ => none
 | .call c => match c.args.toList with
  | [x] => match aev G fr x with
   | some (.mp o) => some o
   | _ => none
  | _ => none
 | _ => none
theorem mask_bit (acc : List Nat) : ∀ (l : List Edge) (m j : Nat), (l.foldl (fun m e => if Region.binds .any e then m ||| 2 ^ e.on ||| acc.getD e.on 0 else m) m).testBit j = true →
  m.testBit j = true ∨ ∃ e ∈ l, Region.binds .any e = true ∧ (j = e.on ∨ (acc.getD e.on 0).testBit j = true)
 | [], m, j, h => .inl h
 | e :: l, m, j, h => by
  simp only [List.foldl_cons] at h
  rcases mask_bit acc l _ j h with h | ⟨e', he, hb, hj⟩
  ·by_cases hb : Region.binds .any e = true
   ·rw [if_pos hb] at h
    simp only [Nat.testBit_or, Nat.testBit_two_pow, Bool.or_eq_true, decide_eq_true_eq] at h
    rcases h with (h | h) | h
    ·exact .inl h
    ·exact .inr ⟨e, by simp, hb, .inl h.symm⟩
    ·exact .inr ⟨e, by simp, hb, .inr h⟩
   ·rw [if_neg hb] at h; exact .inl h
  ·exact .inr ⟨e', by simp [he], hb, hj⟩
theorem ancs_length (ops : Array Oper) : ∀ n, (ancs ops n).length = n
 | 0 => rfl
 | n + 1 => by simp [ancs, ancs_length ops n]
theorem ancs_stable (ops : Array Oper) {i : Nat} : ∀ {n m : Nat}, i < n → n ≤ m → (ancs ops m).getD i 0 = (ancs ops n).getD i 0
 | n, 0, h, hm => by omega
 | n, m + 1, h, hm => by
  by_cases hnm : n = m + 1
  ·rw [hnm]
  ·rw [← ancs_stable ops h (show n ≤ m by omega)]
   simp only [ancs, List.getD_eq_getElem?_getD]
   rw [List.getElem?_append_left (by rw [ancs_length]; omega)]
theorem anc_closed {ops : Array Oper} {S : Nat → Prop} (hS : ∀ i o, S i → ops[i]? = some o → ∀ e ∈ o.after.toList, Region.binds .any e = true → S e.on) :
  ∀ n i, i < n → n ≤ ops.size → S i → ∀ j, ((ancs ops n).getD i 0).testBit j = true → S j
 | 0, i, hi, _, _, _, _ => by omega
 | n + 1, i, hi, hn, hs, j, hj => by
  by_cases h : i < n
  ·rw [ancs_stable ops h (Nat.le_succ n)] at hj
   exact anc_closed hS n i h (by omega) hs j hj
  ·have : i = n := by omega
   subst this
   simp only [ancs, List.getD_eq_getElem?_getD] at hj
   rw [List.getElem?_append_right (by rw [ancs_length]; omega), ancs_length, Nat.sub_self] at hj
   simp only [List.getElem?_cons_zero, Option.getD_some] at hj
   have ho : ops[i]? = some ops[i] := Array.getElem?_eq_getElem (by omega)
   rw [ho] at hj
   simp only [Option.getD_some, ancMask] at hj
   rcases mask_bit _ _ _ _ hj with h0 | ⟨e, he, hb, hj⟩
   ·simp at h0
   ·have hse := hS i _ hs ho e he hb
    rcases hj with rfl | hj
    ·exact hse
    ·by_cases hlt : e.on < i
     ·exact anc_closed hS i e.on hlt (by omega) hse j hj
     ·rw [List.getD_eq_getElem?_getD, List.getElem?_eq_none (by rw [ancs_length]; omega)] at hj; simp at hj
theorem anc_closed' {ops : Array Oper} {S : Nat → Prop} (hS : ∀ i o, S i → ops[i]? = some o → ∀ e ∈ o.after.toList, Region.binds .any e = true → S e.on) {i : Nat} {o : Oper} (ho : ops[i]? = some o)
  (hi : ∀ e ∈ o.after.toList, Region.binds .any e = true → S e.on) {j : Nat} (hj : (anc ops i).testBit j = true) : S j := by
 have hlt : i < ops.size := (Array.getElem?_eq_some_iff.1 ho).1
 unfold anc at hj
 rw [ancs_stable ops (Nat.lt_succ_self i) (by omega)] at hj
 simp only [ancs, List.getD_eq_getElem?_getD] at hj
 rw [List.getElem?_append_right (by rw [ancs_length]; omega), ancs_length, Nat.sub_self] at hj
 simp only [List.getElem?_cons_zero, Option.getD_some, ho, ancMask] at hj
 rcases mask_bit _ _ _ _ hj with h0 | ⟨e, he, hb, hj⟩
 ·simp at h0
 ·have hse := hi e he hb
  rcases hj with rfl | hj
  ·exact hse
  ·by_cases hl : e.on < i
   ·exact anc_closed hS i e.on hl (by omega) hse j hj
   ·rw [List.getD_eq_getElem?_getD, List.getElem?_eq_none (by rw [ancs_length]; omega)] at hj; simp at hj
structure Static (ops : Array Oper) : Prop where
 dst : ∀ i j d, i < ops.size → j < ops.size → dstOf ops i = some d → dstOf ops j = some d → i = j
 looks : ∀ i j o d, j < ops.size → ops[i]? = some o → dstOf ops j = some d → d ∈ o.looksAt ops → (anc ops i).testBit j = true ∨ (anc ops j).testBit i = true
 chain : ∀ i j, i < j → j < ops.size → kindAt ops i = .e → kindAt ops j = .e ∨ kindAt ops j = .a → (anc ops j).testBit i = true
 below : ∀ i j, i < ops.size → (anc ops i).testBit j = true → j < i
theorem static_of {ops : Array Oper} (h : staticOk ops = true) : Static ops := by
 have H : ∀ i j, i < ops.size → j < ops.size → pairStatic ops (ancs ops ops.size) i j = true := fun i j hi hj => by
  unfold staticOk at h
  simp only [List.all_eq_true, List.mem_range] at h
  exact h i hi j hj
 simp only [pairStatic, Bool.and_eq_true] at H
 refine ⟨fun i j d hi hj h1 h2 => ?_, fun i j o d hj ho h1 h2 => ?_, fun i j hij hj h1 h2 => ?_, fun i j hi hb => ?_⟩
 ·have := (H i j hi hj).1.1.1
  rw [h1, h2] at this
  simpa using this
 ·have hi : i < ops.size := (Array.getElem?_eq_some_iff.1 ho).1
  have := (H i j hi hj).1.1.2
  rw [ho, h1] at this
  have hc : (o.looksAt ops).contains d = true := by simpa using h2
  simp only [hc, Bool.not_true, Bool.false_or, Bool.or_eq_true] at this
  exact this
 ·have := (H i j (by omega) hj).1.2
  rw [h1] at this
  rcases h2 with h2 | h2 <;> (rw [h2] at this; simp [hij] at this; exact this)
 ·have := (H i i hi hi).2
  have hlt : anc ops i < 2 ^ i := of_decide_eq_true this
  rcases Nat.lt_or_ge j i with q | q
  ·exact q
  ·have : anc ops i < 2 ^ j := Nat.lt_of_lt_of_le hlt (Nat.pow_le_pow_right (by omega) q)
   rw [Nat.testBit_lt_two_pow this] at hb
   cases hb
end
end Go.Proofs.YtcjlpklgnknpgaaGreatDoor.Pg
