/-
  Pg, part 3: the operations on abstract values, each with what the model's operation then does.
-/
import Derived.Test.YtcjlpklgnknpgaaGreatDoorPgBase
import Derived.Laws.Sem
import Derived.Laws.Tables
import Derived.Laws.Entries
import Derived.Laws.CopyRow
import Derived.ChangeKeysEq
import Derived.Deep.MidRow
import Derived.Laws.Append
import Derived.Laws.AppendOwn
import Derived.Laws.MakeOwn
import Derived.Laws.Build
import Derived.MapKept
set_option linter.unusedVariables false
set_option linter.unusedSimpArgs false
namespace Go.Proofs.YtcjlpklgnknpgaaGreatDoor.Pg
open Go
section
section
def pureRun {α : Type} (P : Program) : Sem α → Option α
 | .pure a => some a
 | .program k => pureRun P (k P)
 | .mark _ k => pureRun P k
 | _ => none
theorem pureRun_run {α : Type} {P : Program} {s : Sem α} {a : α} (h : pureRun P s = some a) (w : World) : s.run P w = .ok a w := by
 induction s generalizing w with
 | pure b => simp [pureRun] at h; subst h; rfl
 | program k ih => simp only [pureRun] at h; simp only [Sem.run]; exact ih P h w
 | mark m k ih => simp only [pureRun] at h; simp only [Sem.run]; exact ih h w
 | _ => simp [pureRun] at h
theorem pureRun_bind {α β : Type} (P : Program) (s : Sem α) (f : α → Sem β) : pureRun P (s >>= f) = (pureRun P s).bind fun a => pureRun P (f a) := by
 show pureRun P (s.bind f) = _
 induction s with
 | pure b => simp [Sem.bind, pureRun]
 | program k ih => simp only [Sem.bind, pureRun]; exact ih P
 | mark m k ih => simp only [Sem.bind, pureRun]; exact ih
 | _ => simp [Sem.bind, pureRun]
theorem pureRun_pure {α : Type} (P : Program) (a : α) : pureRun P (pure a : Sem α) = some a := rfl
theorem plain_V {μ : Mu} {w : World} {x : Value} (h : plain x = true) : V μ w (.v x) x := by simp [V, h]
mutual
theorem ofV_V {μ : Mu} {w : World} : ∀ (n : Nat) (x : Value) (y : AV), ofV n x = some y → V μ w y x
 | 0, _, _, h => by simp [ofV] at h
 | n + 1, x, y, h => by
  unfold ofV at h
  split at h
  ·cases h; simp only [V]; exact ⟨trivial, trivial, trivial⟩
  ·rename_i cs
   cases hc : ofVs n cs.toList with
   | none => rw [hc] at h; simp at h
   | some l => rw [hc] at h; simp at h; subst h; simp only [V]; exact ⟨cs, rfl, ofVs_Vs n _ _ hc⟩
  ·rename_i t z
   cases hc : ofV n z with
   | none => rw [hc] at h; simp at h
   | some l => rw [hc] at h; simp at h; subst h; simp only [V]; exact ⟨z, rfl, ofV_V n _ _ hc⟩
  ·rename_i f first cap
   cases h1 : ofVs n first.toList with
   | none => rw [h1] at h; simp at h
   | some l1 =>
    cases h2 : ofVs n cap.toList with
    | none => rw [h1, h2] at h; simp at h
    | some l2 => rw [h1, h2] at h; simp at h; subst h; simp only [V]; exact ⟨first, cap, rfl, ofVs_Vs n _ _ h1, ofVs_Vs n _ _ h2⟩
  ·split at h
   ·rename_i hp; cases h; exact plain_V hp
   ·cases h
theorem ofVs_Vs {μ : Mu} {w : World} : ∀ (n : Nat) (x : List Value) (y : List AV), ofVs n x = some y → Vs μ w y x
 | 0, _, _, h => by simp [ofVs] at h
 | n + 1, [], y, h => by simp [ofVs] at h; subst h; simp only [Vs]
 | n + 1, x :: xs, y, h => by
  simp only [ofVs] at h
  cases h1 : ofV n x with
  | none => rw [h1] at h; simp at h
  | some a =>
   cases h2 : ofVs n xs with
   | none => rw [h1, h2] at h; simp at h
   | some b => rw [h1, h2] at h; simp at h; subst h; simp only [Vs]; exact ⟨x, xs, rfl, ofV_V n _ _ h1, ofVs_Vs n _ _ h2⟩
end
mutual
def lit : AV → Option Value
 | .v x => some x
 | .agg cs => (lits cs).map fun l => .agg l.toArray
 | .ifc t x => (lit x).map (.iface t)
 | .sl .nil 0 [] => some (.slice none 0 0)
 | _ => none
def lits : List AV → Option (List Value)
 | [] => some []
 | x :: xs => match lit x, lits xs with
  | some y, some ys => some (y :: ys)
  | _, _ => none
end
mutual
theorem lit_eq {μ : Mu} {w : World} : ∀ (x : AV) (y u : Value), lit x = some y → V μ w x u → u = y
 | .v x, y, u, h, hv => by simp [lit] at h; subst h; simp only [V] at hv; exact hv.2
 | .agg cs, y, u, h, hv => by
  simp only [lit] at h
  cases hc : lits cs with
  | none => rw [hc] at h; simp at h
  | some l =>
   rw [hc] at h; simp at h; subst h
   simp only [V] at hv
   obtain ⟨us, rfl, hvs⟩ := hv
   rw [← lits_eq cs l _ hc hvs]
 | .ifc t x, y, u, h, hv => by
  simp only [lit] at h
  cases hc : lit x with
  | none => rw [hc] at h; simp at h
  | some l =>
   rw [hc] at h; simp at h; subst h
   simp only [V] at hv
   obtain ⟨us, rfl, hvs⟩ := hv
   rw [← lit_eq x l _ hc hvs]
 | .sl .nil 0 [], y, u, h, hv => by simp [lit] at h; subst h; simp only [V] at hv; exact hv.1
 | .sl .nil 0 (_ :: _), y, u, h, hv => by simp [lit] at h
 | .sl .nil (_ + 1) _, y, u, h, hv => by simp [lit] at h
 | .sl .none _ _, y, u, h, hv => by simp [lit] at h
 | .sl (.own _ _ _) _ _, y, u, h, hv => by simp [lit] at h
 | .ptr _ _, y, u, h, hv => by simp [lit] at h
 | .arr _ _ _, y, u, h, hv => by simp [lit] at h
 | .cptr _, y, u, h, hv => by simp [lit] at h
 | .mp _, y, u, h, hv => by simp [lit] at h
 | .fn _ _ _, y, u, h, hv => by simp [lit] at h
 | .tup _, y, u, h, hv => by simp [lit] at h
 | .any, y, u, h, hv => by simp [lit] at h
theorem lits_eq {μ : Mu} {w : World} : ∀ (x : List AV) (y u : List Value), lits x = some y → Vs μ w x u → u = y
 | [], y, u, h, hv => by simp [lits] at h; subst h; simp only [Vs] at hv; exact hv
 | x :: xs, y, u, h, hv => by
  simp only [lits] at h
  cases h1 : lit x with
  | none => rw [h1] at h; simp at h
  | some a =>
   cases h2 : lits xs with
   | none => rw [h1, h2] at h; simp at h
   | some b =>
    rw [h1, h2] at h; simp at h; subst h
    simp only [Vs] at hv
    obtain ⟨v, vs, rfl, hx, hxs⟩ := hv
    rw [lit_eq x a v h1 hx, lits_eq xs b vs h2 hxs]
end
def aev (G : Nat → Option (List AV)) (fr : Fr) : Operand → Option AV
 | .tmp t => some (fr.get t)
 | .const x => ofV 64 x
 | .global g => (G g).map .cptr
 | .func f => some (.fn (.func f) [] [])
section
variable {P : Program} {B0 : Nat} {G : Nat → Option (List AV)} {μ : Mu} {h : AH} {w : World}
def Glob (G : Nat → Option (List AV)) (μ : Mu) (w : World) : Prop := ∀ g cs, G g = some cs → Cells μ w cs g 0
def ObjsOk (μ : Mu) (w : World) (C : Nat → Option AObj) : Prop := ∀ o b, μ.obj o = some b → ∃ ob, C o = some ob ∧ ORel μ w ob b
theorem R.objs (r : R B0 G μ h w) : ObjsOk μ w h.get := fun o b e => (r.obj o b e).2
theorem aev_V (r : Glob G μ w) {Δ : List Deferred} {fr : Fr} {a : Act} (f : FrRel Δ μ w fr a) {x : Operand} {y : AV} (e : aev G fr x = some y) : V μ w y (a.eval x) := by
 cases x with
 | tmp t => simp only [aev, Option.some.injEq] at e; subst e; exact f.val t
 | const x => exact ofV_V _ _ _ e
 | global g =>
  simp only [aev] at e
  cases hg : G g with
  | none => rw [hg] at e; simp at e
  | some cs => rw [hg] at e; simp at e; subst e; simp only [V]; exact ⟨g, 0, rfl, r g cs hg⟩
 | func f => simp only [aev, Option.some.injEq] at e; subst e; simp only [V, Vs]; exact ⟨#[], #[], rfl, rfl, rfl⟩
def Res (P : Program) (B0 : Nat) (G : Nat → Option (List AV)) (μ : Mu) (h : AH) (w : World) (x : AV) (h' : AH) (s : Sem Value) : Prop :=
 ∃ u w' μ', s.run P w = .ok u w' ∧ Step B0 G μ h w μ' h' w' ∧ V μ' w' x u
def alit (P : Program) (G : Nat → Option (List AV)) (fr : Fr) (o : Oper) : Option AV :=
 if o.op.operands.all (fun x => ((aev G fr x).bind lit).isSome) then
  match pureRun P (execOp (fun x => ((aev G fr x).bind lit).getD undef) o) with
  | some (.value r) => ofV 64 r
  | _ => none
 else none
def OpsV (G : Nat → Option (List AV)) (μ : Mu) (w : World) (fr : Fr) (a : Act) (o : Oper) : Prop := ∀ x ∈ o.op.operands, ∀ y, aev G fr x = some y → V μ w y (a.eval x)
theorem FrRel.ops (gl : Glob G μ w) {Δ : List Deferred} {fr : Fr} {a : Act} (f : FrRel Δ μ w fr a) (o : Oper) : OpsV G μ w fr a o := fun _ _ _ e => aev_V gl f e
theorem alit_run {fr : Fr} {a : Act} {o : Oper} (f : OpsV G μ w fr a o) {x : AV} (hs : ∀ cs b, o.op ≠ .select cs b) (e : alit P G fr o = some x) :
  ∃ u, (execOp a.eval o).run P w = .ok (.value u) w ∧ V μ w x u := by
 unfold alit at e
 split at e
 ·rename_i hall
  have hc : execOp a.eval o = execOp (fun x => ((aev G fr x).bind lit).getD undef) o := execOp_congr o hs fun y hy => by
   have := (Array.all_eq_true_iff_forall_mem.1 hall) y hy
   cases h1 : aev G fr y with
   | none => rw [h1] at this; simp at this
   | some z =>
    rw [h1] at this
    simp only [Option.bind_some] at this ⊢
    cases h2 : lit z with
    | none => rw [h2] at this; simp at this
    | some u => exact lit_eq z u _ h2 (f y hy z h1)
  rw [hc]
  split at e
  ·rename_i u hr
   exact ⟨u, pureRun_run hr w, ofV_V _ _ _ e⟩
  ·cases e
 ·cases e
theorem cells_V {x : AV} {u : Value} (hv : V μ w x u) (hk : x.known = true) : Vs μ w x.cells u.cells.toList := by
 cases x with
 | agg cs => simp only [V] at hv; obtain ⟨us, rfl, h⟩ := hv; exact h
 | v x =>
  have h0 := hv
  simp only [V] at hv
  obtain ⟨hp, rfl⟩ := hv
  cases u <;> simp [plain] at hp <;> (simp only [AV.cells, Value.cells, Vs]; exact ⟨_, _, rfl, h0, rfl⟩)
 | sl tok n cs =>
  cases tok with
  | nil => have h0 := hv; simp only [V] at hv; obtain ⟨rfl, _⟩ := hv; simp only [AV.cells, Value.cells, Vs]; exact ⟨_, _, rfl, h0, rfl⟩
  | none => have h0 := hv; simp only [V] at hv; obtain ⟨A, c, rfl, _⟩ := hv; simp only [AV.cells, Value.cells, Vs]; exact ⟨_, _, rfl, h0, rfl⟩
  | own t k s => have h0 := hv; simp only [V] at hv; obtain ⟨b, off, c, i, rfl, _⟩ := hv; simp only [AV.cells, Value.cells, Vs]; exact ⟨_, _, rfl, h0, rfl⟩
 | ptr o off => have h0 := hv; simp only [V] at hv; obtain ⟨b, _, rfl⟩ := hv; simp only [AV.cells, Value.cells, Vs]; exact ⟨_, _, rfl, h0, rfl⟩
 | arr o off n => have h0 := hv; simp only [V] at hv; obtain ⟨b, c, _, rfl, _⟩ := hv; simp only [AV.cells, Value.cells, Vs]; exact ⟨_, _, rfl, h0, rfl⟩
 | cptr cs => have h0 := hv; simp only [V] at hv; obtain ⟨b, off, rfl, _⟩ := hv; simp only [AV.cells, Value.cells, Vs]; exact ⟨_, _, rfl, h0, rfl⟩
 | mp o => have h0 := hv; simp only [V] at hv; obtain ⟨b, _, rfl⟩ := hv; simp only [AV.cells, Value.cells, Vs]; exact ⟨_, _, rfl, h0, rfl⟩
 | yld o => have h0 := hv; simp only [V] at hv; obtain ⟨b, _, rfl⟩ := hv; simp only [AV.cells, Value.cells, Vs]; exact ⟨_, _, rfl, h0, rfl⟩
 | fn f a b => have h0 := hv; simp only [V] at hv; obtain ⟨_, _, rfl, _⟩ := hv; simp only [AV.cells, Value.cells, Vs]; exact ⟨_, _, rfl, h0, rfl⟩
 | ifc t y => have h0 := hv; simp only [V] at hv; obtain ⟨_, rfl, _⟩ := hv; simp only [AV.cells, Value.cells, Vs]; exact ⟨_, _, rfl, h0, rfl⟩
 | tup vs => have h0 := hv; simp only [V] at hv; obtain ⟨_, rfl, _⟩ := hv; simp only [AV.cells, Value.cells, Vs]; exact ⟨_, _, rfl, h0, rfl⟩
 | any => simp [AV.known] at hk
theorem one_V {x : AV} {u : Value} (hv : V μ w x u) (h1 : x.one = true) : u.oneCell' = true := by
 cases x with
 | agg cs => simp [AV.one] at h1
 | tup cs => simp [AV.one] at h1
 | any => simp [AV.one] at h1
 | v x => simp only [V] at hv; obtain ⟨hp, rfl⟩ := hv; cases u <;> simp [plain] at hp <;> first | rfl | simp [AV.one] at h1
 | sl tok n cs =>
  cases tok with
  | nil => simp only [V] at hv; obtain ⟨rfl, _⟩ := hv; rfl
  | none => simp only [V] at hv; obtain ⟨A, c, rfl, _⟩ := hv; rfl
  | own t k s => simp only [V] at hv; obtain ⟨b, off, c, i, rfl, _⟩ := hv; rfl
 | ptr o off => simp only [V] at hv; obtain ⟨b, _, rfl⟩ := hv; rfl
 | arr o off n => simp only [V] at hv; obtain ⟨b, c, _, rfl, _⟩ := hv; rfl
 | cptr cs => simp only [V] at hv; obtain ⟨b, off, rfl, _⟩ := hv; rfl
 | mp o => simp only [V] at hv; obtain ⟨b, _, rfl⟩ := hv; rfl
 | yld o => simp only [V] at hv; obtain ⟨b, _, rfl⟩ := hv; rfl
 | fn f a b => simp only [V] at hv; obtain ⟨_, _, rfl, _⟩ := hv; rfl
 | ifc t y => simp only [V] at hv; obtain ⟨_, rfl, _⟩ := hv; rfl
theorem ones_V : ∀ {xs : List AV} {us : List Value}, Vs μ w xs us → xs.all AV.one = true → ∀ u ∈ us, u.oneCell' = true
 | [], us, hv, _, u, hu => by simp only [Vs] at hv; subst hv; simp at hu
 | x :: xs, us, hv, h1, u, hu => by
  simp only [Vs] at hv
  obtain ⟨v, vs, rfl, hx, hxs⟩ := hv
  simp only [List.all_cons, Bool.and_eq_true] at h1
  rcases List.mem_cons.1 hu with rfl | hu
  ·exact one_V hx h1.1
  ·exact ones_V hxs h1.2 u hu
inductive Ev where
 | obj (ob : AObj)
 | row (n sz : Nat) (cs : List AV)
def EvOk (μ : Mu) (w : World) (f : Nat → AV) (u : Value) (o : Obj) : Ev → Prop
 | .obj ob => (∀ μ' w', Le μ μ' → ComKeep μ w w' → w'.heap[w.heap.size]? = some o → ORel μ' w' ob w.heap.size) ∧ ∀ μ' w' id, μ'.obj id = some w.heap.size → V μ' w' (f id) u
 | .row n sz cs => ∃ vs ty sp, o = .cells vs ty (0, 0) ∧ cs.length = n * sz ∧ vs.size = n * sz + sp * sz ∧ Vs μ w cs (vs.toList.take (n * sz)) ∧ f = (fun t => .sl (.own t 0 sz) n cs) ∧ u = .slice (some ⟨w.heap.size, 0, none⟩) n (n + sp)
def EvRes (P : Program) (μ : Mu) (w : World) (ev : Ev) (f : Nat → AV) (s : Sem Value) : Prop :=
 ∃ u o w', s.run P w = .ok u w' ∧ HPush w w' o ∧ EvOk μ w f u o ev
theorem newVar_run {t : TypeId} {u : Value} : (newVar t u).run P w = .ok ⟨w.heap.size, 0, none⟩ { w with heap := w.heap.push (.cells u.cells t) } := rfl
theorem box_ev {t : TypeId} {x : AV} {u : Value} (hv : V μ w x u) (hkn : x.known = true) : EvRes P μ w (.obj (.cells t x.cells)) (fun id => .ptr id 0) (Instr.box t u) := by
 refine ⟨.pointer (some ⟨w.heap.size, 0, none⟩), .cells u.cells t, { w with heap := w.heap.push (.cells u.cells t) }, ?_, ⟨rfl, rfl, rfl, rfl⟩, ?_⟩
 ·simp only [Instr.box, Sem.run_bind, newVar_run, Result.andThen_ok]; rfl
 ·exact ⟨fun μ' w' hl hk hb => ⟨u.cells, hb, Vs.mono hl hk _ _ (cells_V hv hkn)⟩, fun μ' w' id h => by simp only [V]; exact ⟨_, h, rfl⟩⟩
def azero (P : Program) (t : TypeId) : Option (List AV) := ((P.info? t).bind (·.zero)).bind fun z => ofVs (z.cells.size + 64) z.cells.toList
theorem azero_V {t : TypeId} {cs : List AV} (e : azero P t = some cs) : ∃ z : Value, (zeroValue t).run P w = .ok z w ∧ Vs μ w cs z.cells.toList := by
 unfold azero at e
 cases h1 : P.info? t with
 | none => rw [h1] at e; simp at e
 | some i =>
  rw [h1] at e; simp only [Option.bind_some] at e
  cases h2 : i.zero with
  | none => rw [h2] at e; simp at e
  | some z =>
   rw [h2] at e; simp only [Option.bind_some] at e
   refine ⟨z, ?_, ofVs_Vs _ _ _ e⟩
   simp only [zeroValue, Sem.run_bind, run_typeInfo w h1, Result.andThen_ok, h2]; rfl
theorem alloc_ev {t : TypeId} {cs : List AV} (e : azero P t = some cs) : EvRes P μ w (.obj (.cells t cs)) (fun id => .ptr id 0) (Instr.alloc t true (.tuple #[])) := by
 obtain ⟨z, hz, hv⟩ := azero_V (μ := μ) (w := w) e
 refine ⟨.pointer (some ⟨w.heap.size, 0, none⟩), .cells z.cells t, { w with heap := w.heap.push (.cells z.cells t) }, ?_, ⟨rfl, rfl, rfl, rfl⟩, ?_⟩
 ·simp only [Instr.alloc, Sem.run_bind, hz, newVar_run, Result.andThen_ok]; rfl
 ·exact ⟨fun μ' w' hl hk hb => ⟨z.cells, hb, Vs.mono hl hk _ _ hv⟩, fun μ' w' id h => by simp only [V]; exact ⟨_, h, rfl⟩⟩
def isRow (P : Program) (t : TypeId) : Option Bool := (P.underlying t).map fun | .struct _ | .array _ _ => true | _ => false
theorem isRow_run {t : TypeId} {b : Bool} (e : isRow P t = some b) : (isAgg t).run P w = .ok b w := by
 unfold isRow at e
 cases hu : P.underlying t with
 | none => rw [hu] at e; simp at e
 | some d =>
  rw [hu] at e
  simp only [Option.map_some, Option.some.injEq] at e
  simp only [isAgg, Sem.run_bind, run_underlying hu, Result.andThen_ok]
  cases d <;> simp only at e <;> subst e <;> rfl
theorem size_run {t : TypeId} {i : TypeInfo} (hi : P.info? t = some i) : (sizeOf t).run P w = .ok i.size w := by
 rw [run_sizeOf w hi]; simp [Program.cellsOf, hi]
def acut (P : Program) (t : TypeId) (cs : List AV) (off : Nat) : Option AV :=
 match isRow P t, P.info? t with
 | some true, some i => if ((cs.drop off).take i.size).length = i.size then some (.agg ((cs.drop off).take i.size)) else none
 | some false, some _ => cs[off]?
 | _, _ => none
def aload (P : Program) (C : Nat → Option AObj) (t : TypeId) : AV → Option AV
 | .ptr o off => match C o with
  | some (.cells _ cs) => acut P t cs off
  | _ => none
 | .cptr cs => acut P t cs 0
 | _ => none
theorem loadVar_res {t : TypeId} {cs : List AV} {off b o0 : Nat} {x : AV} (hc : ∀ i x, cs[i]? = some x → ∃ u, w.cell? ⟨b, o0 + i, none⟩ = some u ∧ V μ w x u) (e : acut P t cs off = some x) :
  ∃ u, (loadVar t ⟨b, o0 + off, none⟩).run P w = .ok u w ∧ V μ w x u := by
 unfold acut at e
 split at e
 ·rename_i i hr hi
  split at e
  ·rename_i hlen
   cases e
   have hex : ∃ us : List Value, us.length = i.size ∧ (∀ j v, us[j]? = some v → w.cell? ⟨b, o0 + off + j, none⟩ = some v) ∧ Vs μ w ((cs.drop off).take i.size) us := by
    have : ∀ l : List AV, (∀ j x, l[j]? = some x → ∃ u, w.cell? ⟨b, o0 + off + j, none⟩ = some u ∧ V μ w x u) →
      ∃ us : List Value, us.length = l.length ∧ (∀ j v, us[j]? = some v → w.cell? ⟨b, o0 + off + j, none⟩ = some v) ∧ Vs μ w l us := by
     intro l hl
     refine ⟨(List.range l.length).map fun j => (w.cell? ⟨b, o0 + off + j, none⟩).getD undef, by simp, fun j v hv => ?_, Vs.mk (by simp) fun j x u hx hu => ?_⟩
     ·simp only [List.getElem?_map, Option.map_eq_some_iff] at hv
      obtain ⟨k, hk, rfl⟩ := hv
      have hj : j < l.length := by simpa using (List.getElem?_eq_some_iff.1 hk).1
      rw [List.getElem?_range hj] at hk
      cases hk
      obtain ⟨u, hu, _⟩ := hl j _ (List.getElem?_eq_getElem hj)
      rw [hu]; rfl
     ·have hj : j < l.length := (List.getElem?_eq_some_iff.1 hx).1
      simp only [List.getElem?_map, List.getElem?_range hj, Option.map_some, Option.some.injEq] at hu
      obtain ⟨u', hu', hv⟩ := hl j x hx
      rw [hu'] at hu; simp at hu; subst hu; exact hv
    obtain ⟨us, h1, h2, h3⟩ := this ((cs.drop off).take i.size) fun j x hx => by
     rw [List.getElem?_take] at hx
     split at hx
     ·rw [List.getElem?_drop] at hx
      have := hc _ x hx
      rw [← Nat.add_assoc] at this; exact this
     ·cases hx
    exact ⟨us, by rw [h1, hlen], h2, h3⟩
   obtain ⟨us, hl, hcell, hV⟩ := hex
   refine ⟨.agg us.toArray, ?_, by simp only [V]; exact ⟨_, rfl, by simpa using hV⟩⟩
   have hld : (loadCells ⟨b, o0 + off, none⟩ us.length).run P w = .ok us.toArray w :=
    run_loadCells_list (P := P) w ⟨b, o0 + off, none⟩ us (fun j v hv => by rw [Addr.add_mid]; exact hcell j v hv)
   simp only [loadVar, Sem.run_bind, isRow_run hr, Result.andThen_ok, if_true, size_run hi, ← hl, hld]; rfl
  ·cases e
 ·rename_i i hr hi
  obtain ⟨u, hu, hv⟩ := hc off x e
  refine ⟨u, ?_, hv⟩
  simp only [loadVar, Sem.run_bind, isRow_run hr, Result.andThen_ok]
  simp [load, Sem.run, hu]
 ·cases e
theorem load_run {C : Nat → Option AObj} (r : ObjsOk μ w C) {t : TypeId} {p x : AV} {u : Value} (hv : V μ w p u) (e : aload P C t p = some x) : ∃ v, (Instr.loadAt t u).run P w = .ok v w ∧ V μ w x v := by
 cases p with
 | ptr o off =>
  simp only [aload] at e
  simp only [V] at hv
  obtain ⟨b, hb, rfl⟩ := hv
  obtain ⟨ob, hob, hor⟩ := r o b hb
  rw [hob] at e
  cases ob with
  | cells ty cs =>
   simp only at e
   obtain ⟨vs, hvs, hV⟩ := hor
   obtain ⟨u, hu, hx⟩ := loadVar_res (P := P) (μ := μ) (w := w) (b := b) (o0 := 0) (fun i x hx => by
    obtain ⟨u, hu, hx⟩ := hV.get i x hx
    exact ⟨u, by rw [Nat.zero_add, cell_row hvs]; simpa using hu, hx⟩) e
   rw [Nat.zero_add] at hu
   exact ⟨u, by simp only [Instr.loadAt, Instr.sureAddr, Sem.run_bind, Sem.run_pure, Result.andThen_ok, hu], hx⟩
  | map es => cases e
  | loop => cases e
  | dead => cases e
 | cptr cs =>
  simp only [aload] at e
  simp only [V] at hv
  obtain ⟨b, off, rfl, hc⟩ := hv
  obtain ⟨u, hu, hx⟩ := loadVar_res (P := P) (μ := μ) (w := w) (b := b) (o0 := off) (fun i x hx => (hc.get i x hx).2) e
  rw [Nat.add_zero] at hu
  exact ⟨u, by simp only [Instr.loadAt, Instr.sureAddr, Sem.run_bind, Sem.run_pure, Result.andThen_ok, hu], hx⟩
 | _ => simp [aload] at e
def splice (cs : List AV) (off : Nat) (xs : List AV) : List AV := cs.take off ++ xs ++ cs.drop (off + xs.length)
def astore (P : Program) (h : AH) (t : TypeId) (p x : AV) : Option AH :=
 match p with
 | .ptr o off => match h.get o, P.info? t with
  | some (.cells e cs), some i => if x.cells.length = i.size ∧ off + x.cells.length ≤ cs.length ∧ x.cells.all AV.one = true then some (h.set o (.cells e (splice cs off x.cells))) else none
  | _, _ => none
 | _ => none
theorem setRow_heap {w : World} {b : Nat} {vs vs' : Array Value} {e : TypeId} {fz : Nat × Nat} (hb : w.heap[b]? = some (.cells vs e fz)) :
  (w.setRow b vs').heap.size = w.heap.size ∧ (w.setRow b vs').heap[b]? = some (.cells vs' e fz) ∧ ∀ b', b' ≠ b → (w.setRow b vs').heap[b']? = w.heap[b']? := by
 refine ⟨by simp [World.setRow], ?_, fun b' hne => ?_⟩
 ·simp [World.setRow, Array.getElem?_modify, hb]
 ·simp only [World.setRow, Array.getElem?_modify]
  rw [if_neg (fun e => hne e.symm)]
theorem store_res (r : R B0 G μ h w) {t : TypeId} {p x : AV} {u v : Value} {h' : AH} (hp : V μ w p u) (hx : V μ w x v) (e : astore P h t p x = some h') :
  ∃ w', (Instr.storeAt t u v).run P w = .ok () w' ∧ Step B0 G μ h w μ h' w' := by
 cases p with
 | ptr o off =>
  simp only [astore] at e
  simp only [V] at hp
  obtain ⟨b, hb, rfl⟩ := hp
  obtain ⟨_, ob, hob, hor⟩ := r.obj o b hb
  rw [hob] at e
  cases ob with
  | cells ty cs =>
   cases hi : P.info? t with
   | none => rw [hi] at e; simp at e
   | some i =>
    rw [hi] at e
    simp only at e
    split at e
    ·rename_i hc
     obtain ⟨h1, h2, h3⟩ := hc
     cases e
     obtain ⟨vs, hvs, hV⟩ := hor
     have hxs := cells_V hx (by cases x <;> first | rfl | simp [AV.cells, AV.one] at h3)
     have hxl := hxs.length
     have hVl := hV.length
     have hst := run_storeCells_at (P := P) b off ty v.cells.toList 0 vs w hvs (by rw [hxl]; simp at hVl; omega) (ones_V hxs h3)
     rw [Nat.add_zero] at hst
     obtain ⟨hs1, hs2, hs3⟩ := setRow_heap (vs' := (List.take off vs.toList ++ v.cells.toList ++ List.drop (off + v.cells.toList.length) vs.toList).toArray) hvs
     refine ⟨_, ?_, step_set_obj r hb ⟨hs1, hs2, hs3⟩ ⟨rfl, rfl, rfl⟩ fun w' hk hb' => ⟨_, hb', ?_⟩⟩
     ·have hsz : v.cells.size = i.size := by rw [← h1, ← hxl]; simp
      simp only [Instr.storeAt, Instr.sureAddr, storeVar, Sem.run_bind, Sem.run_pure, Result.andThen_ok, size_run hi, ne_eq, hsz, not_true_eq_false, if_false, hst]
     ·have := (((hV.take off).append hxs).append (hV.drop (off + x.cells.length)))
      rw [hxl]
      exact Vs.mono (Le.refl _) hk _ _ (by simpa [splice] using this)
    ·cases e
  | map es => simp at e
  | loop => simp at e
  | dead => simp at e
 | _ => simp [astore] at e
end
end
section
section
theorem fold_splice (off : Nat) : ∀ (us : List Value) (k : Nat) (cs : Array Value), off + k + us.length ≤ cs.size →
  ((us.zipIdx k).foldl (fun (cs : Array Value) (p : Value × Nat) => cs.setIfInBounds (off + p.2) p.1) cs).toList = cs.toList.take (off + k) ++ us ++ cs.toList.drop (off + k + us.length)
 | [], k, cs, h => by simp
 | u :: us, k, cs, h => by
  simp only [List.length_cons] at h
  simp only [List.zipIdx_cons, List.foldl_cons]
  rw [fold_splice off us (k + 1) _ (by simp; omega)]
  have hk : off + k < cs.toList.length := by simp; omega
  simp only [Array.toList_setIfInBounds, List.length_cons]
  rw [show off + (k + 1) = (off + k) + 1 from by omega, List.drop_set_of_lt (by omega)]
  rw [List.take_add_one, List.getElem?_set_self (by simpa using hk), List.take_set_of_le (Nat.le_refl _)]
  simp only [Option.toList_some, List.append_assoc, List.singleton_append]
  rw [show off + k + 1 + us.length = off + k + (us.length + 1) from by omega]
def afill (place : Nat → Option (Nat × Nat)) (cells : List AV) : List (Nat × AV) → Option (List AV)
 | [] => some cells
 | (i, x) :: rest => match place i with
  | none => none
  | some (off, size) => if x.known = true ∧ x.cells.length = size ∧ off + x.cells.length ≤ cells.length then afill place (splice cells off x.cells) rest else none
section
variable {P : Program} {B0 : Nat} {G : Nat → Option (List AV)} {μ : Mu} {h : AH} {w : World}
def VParts (μ : Mu) (w : World) : List (Nat × AV) → List (Nat × Value) → Prop
 | [], ps => ps = []
 | (i, x) :: r, ps => ∃ u ps', ps = (i, u) :: ps' ∧ V μ w x u ∧ VParts μ w r ps'
theorem fill_V {place : Nat → Option (Nat × Nat)} : ∀ (ps : List (Nat × AV)) (qs : List (Nat × Value)) (cells cs : List AV) (vs : Array Value), VParts μ w ps qs → Vs μ w cells vs.toList → afill place cells ps = some cs →
  ∃ vs', Instr.fill place vs qs = some vs' ∧ Vs μ w cs vs'.toList
 | [], qs, cells, cs, vs, hp, hv, e => by simp only [VParts] at hp; subst hp; simp only [afill, Option.some.injEq] at e; subst e; exact ⟨vs, rfl, hv⟩
 | (i, x) :: r, qs, cells, cs, vs, hp, hv, e => by
  simp only [VParts] at hp
  obtain ⟨u, qs', rfl, hx, hr⟩ := hp
  simp only [afill] at e
  cases hpl : place i with
  | none => rw [hpl] at e; simp at e
  | some os =>
   obtain ⟨off, size⟩ := os
   rw [hpl] at e
   simp only at e
   split at e
   ·rename_i hc
    obtain ⟨h0, h1, h2⟩ := hc
    have hxs := cells_V hx h0
    have hxl := hxs.length
    have hvl := hv.length
    simp only [Array.length_toList] at hxl hvl
    have hfold : (u.cells.zipIdx.foldl (fun (cs : Array Value) (p : Value × Nat) => cs.setIfInBounds (off + p.2) p.1) vs).toList = vs.toList.take off ++ u.cells.toList ++ vs.toList.drop (off + u.cells.toList.length) := by
     have := fold_splice off u.cells.toList 0 vs (by simp; omega)
     rw [Nat.add_zero] at this
     rw [← this, ← Array.foldl_toList, Array.toList_zipIdx]
    obtain ⟨vs', hf, hV⟩ := fill_V r qs' _ cs (u.cells.zipIdx.foldl (fun (cs : Array Value) (p : Value × Nat) => cs.setIfInBounds (off + p.2) p.1) vs) hr (by
     rw [hfold]
     have := (((hv.take off).append hxs).append (hv.drop (off + x.cells.length)))
     simp only [Array.length_toList]
     rw [hxl]
     simpa [splice] using this) e
    refine ⟨vs', ?_, hV⟩
    simp only [Instr.fill, hpl]
    rw [if_neg (by simp; omega)]
    exact hf
   ·cases e
def abuild (P : Program) (t : TypeId) (parts : List (Nat × AV)) : Option AV :=
 match azero P t, P.underlying t with
 | some z, some (.array _ e) => match P.info? e with
  | some ie => (afill (fun i => some (i * ie.size, ie.size)) z parts).map .agg
  | none => none
 | some z, some (.struct fields) => match fields.toList.mapM (fun f => (P.info? f.type).map fun i => (f.offset, i.size)) with
  | some places => (afill (fun i => places[i]?) z parts).map .agg
  | none => none
 | _, _ => none
theorem azero_info {t : TypeId} {cs : List AV} (e : azero P t = some cs) : ∃ i z, P.info? t = some i ∧ i.zero = some z ∧ ofVs (z.cells.size + 64) z.cells.toList = some cs := by
 unfold azero at e
 cases h1 : P.info? t with
 | none => rw [h1] at e; simp at e
 | some i =>
  rw [h1] at e; simp only [Option.bind_some] at e
  cases h2 : i.zero with
  | none => rw [h2] at e; simp at e
  | some z => rw [h2] at e; exact ⟨i, z, rfl, h2, by simpa using e⟩
theorem build_run {t : TypeId} {ps : List (Nat × AV)} {qs : Array (Nat × Value)} {x : AV} (hp : VParts μ w ps qs.toList) (e : abuild P t ps = some x) :
  ∃ u, (Instr.build t qs).run P w = .ok u w ∧ V μ w x u := by
 unfold abuild at e
 split at e
 ·rename_i z n el hz hu
  obtain ⟨i, zz, hi, hiz, hzc⟩ := azero_info hz
  split at e
  ·rename_i ie hie
   cases ha : afill (fun i => some (i * ie.size, ie.size)) z ps with
   | none => rw [ha] at e; simp at e
   | some cs =>
    rw [ha] at e; simp at e; subst e
    obtain ⟨vs', hf, hV⟩ := fill_V ps qs.toList z cs zz.cells hp (ofVs_Vs _ _ _ hzc) ha
    exact ⟨.agg vs', run_build w t qs vs' (by simp only [Program.built, hi, hu, hiz, hie]; exact hf), by simp only [V]; exact ⟨_, rfl, hV⟩⟩
  ·cases e
 ·rename_i z fields hz hu
  obtain ⟨i, zz, hi, hiz, hzc⟩ := azero_info hz
  split at e
  ·rename_i places hpl
   cases ha : afill (fun i => places[i]?) z ps with
   | none => rw [ha] at e; simp at e
   | some cs =>
    rw [ha] at e; simp at e; subst e
    obtain ⟨vs', hf, hV⟩ := fill_V ps qs.toList z cs zz.cells hp (ofVs_Vs _ _ _ hzc) ha
    refine ⟨.agg vs', run_build w t qs vs' ?_, by simp only [V]; exact ⟨_, rfl, hV⟩⟩
    simp only [Program.built, hi, hu, hiz, hpl]
    rw [← hf]
    congr 1
    funext k; simp
  ·cases e
 ·cases e
def afieldAddr (P : Program) (s : TypeId) (f : Nat) (x : AV) : Option AV :=
 match P.underlying s with
 | some (.struct fields) => match fields[f]? with
  | some fd => match P.info? fd.type with
   | some i => if i.size = 0 then none else match x with
    | .ptr o off => some (.ptr o (off + fd.offset))
    | .cptr cs => some (.cptr (cs.drop fd.offset))
    | _ => none
   | none => none
  | none => none
 | _ => none
theorem add_lit (b off n : Nat) : (⟨b, off, none⟩ : Addr).add n = ⟨b, off + n, none⟩ := Addr.add_mid b off n
theorem fieldAddr_run {s : TypeId} {f : Nat} {x y : AV} {u : Value} (hv : V μ w x u) (e : afieldAddr P s f x = some y) : ∃ v, (Instr.fieldAt s u f).run P w = .ok v w ∧ V μ w y v := by
 unfold afieldAddr at e
 split at e
 ·rename_i fields hu
  split at e
  ·rename_i fd hf
   split at e
   ·rename_i i hi
    split at e
    ·cases e
    ·rename_i h0
     have hrun : ∀ b off, (Instr.fieldAt s (.pointer (some ⟨b, off, none⟩)) f).run P w = .ok (.pointer (some ⟨b, off + fd.offset, none⟩)) w := fun b off => by
      simp only [Instr.fieldAt, Sem.run_bind, run_underlying hu, Result.andThen_ok, hf, Instr.sureAddr, Sem.run_pure, fieldPlace, size_run hi, h0, if_false, add_lit]
     cases x with
     | ptr o off => simp only [Option.some.injEq] at e; subst e; simp only [V] at hv ⊢; obtain ⟨b, hb, rfl⟩ := hv; exact ⟨_, hrun b off, b, hb, rfl⟩
     | cptr cs => simp only [Option.some.injEq] at e; subst e; simp only [V] at hv ⊢; obtain ⟨b, off, rfl, hc⟩ := hv; exact ⟨_, hrun b off, b, off + fd.offset, rfl, hc.drop _⟩
     | _ => cases e
   ·cases e
  ·cases e
 ·cases e
theorem part_run {t : TypeId} {cs : List AV} {us : Array Value} {off : Nat} {x : AV} (hv : Vs μ w cs us.toList) (e : acut P t cs off = some x) : ∃ u, (part t us off).run P w = .ok u w ∧ V μ w x u := by
 unfold acut at e
 split at e
 ·rename_i i hr hi
  split at e
  ·cases e
   refine ⟨.agg (us.extract off (off + i.size)), ?_, ?_⟩
   ·simp only [part, Sem.run_bind, isRow_run hr, Result.andThen_ok, if_true, size_run hi]; rfl
   ·simp only [V]
    refine ⟨_, rfl, ?_⟩
    have := (hv.drop off).take i.size
    rw [Array.toList_extract, List.extract_eq_take_drop]
    simpa using this
  ·cases e
 ·rename_i i hr hi
  obtain ⟨u, hu, hx⟩ := hv.get _ _ e
  refine ⟨u, ?_, hx⟩
  simp only [part, Sem.run_bind, isRow_run hr, Result.andThen_ok]
  have hu' : us[off]? = some u := by simpa using hu
  simp [hu']
 ·cases e
def afield (P : Program) (t : TypeId) (f : Nat) (x : AV) : Option AV :=
 match P.underlying t, x with
 | some (.struct fields), .agg cs => match fields[f]? with
  | some fd => acut P fd.type cs fd.offset
  | none => none
 | _, _ => none
theorem field_run {t : TypeId} {f : Nat} {x y : AV} {u : Value} (hv : V μ w x u) (e : afield P t f x = some y) : ∃ v, (Instr.field t u f).run P w = .ok v w ∧ V μ w y v := by
 unfold afield at e
 split at e
 ·rename_i fields cs hu
  split at e
  ·rename_i fd hf
   simp only [V] at hv
   obtain ⟨us, rfl, hvs⟩ := hv
   obtain ⟨v, hr, hx⟩ := part_run (P := P) hvs e
   exact ⟨v, by simp only [Instr.field, Sem.run_bind, run_underlying hu, Result.andThen_ok, hf, asAgg, Sem.run_pure, hr], hx⟩
  ·cases e
 ·cases e
def aint : AV → Option (IntKind × Int)
 | .v (.int k n) => some (k, n)
 | _ => none
theorem aint_V {x : AV} {u : Value} {k : IntKind} {n : Int} (hv : V μ w x u) (e : aint x = some (k, n)) : u = .int k n := by
 unfold aint at e
 split at e
 ·simp only [Option.some.injEq, Prod.mk.injEq] at e; obtain ⟨rfl, rfl⟩ := e; simp only [V] at hv; exact hv.2
 ·cases e
def aindexAddr (P : Program) (t : TypeId) (x ix : AV) : Option AV :=
 match aint ix, P.underlying t with
 | some (_, i), some (.array n e) => match P.info? e with
  | some ie => if 0 ≤ i ∧ i < n then match x with
    | .ptr o off => some (.ptr o (off + i.toNat * ie.size))
    | .cptr cs => some (.cptr (cs.drop (i.toNat * ie.size)))
    | _ => none
   else none
  | none => none
 | some (_, i), some (.slice e) => match P.info? e with
  | some ie => match x with
   | .sl _ n cs => if 0 ≤ i ∧ i < n ∧ i.toNat * ie.size < cs.length then some (.cptr (cs.drop (i.toNat * ie.size))) else none
   | .arr o off n => if 0 ≤ i ∧ i < n then some (.ptr o (off + i.toNat * ie.size)) else none
   | _ => none
  | none => none
 | _, _ => none
theorem sl_open {tok : Tok} {n : Nat} {cs : List AV} {u : Value} (hv : V μ w (.sl tok n cs) u) (hne : cs ≠ []) : ∃ b off c, u = .slice (some ⟨b, off, none⟩) n c ∧ n ≤ c ∧ Cells μ w cs b off := by
 cases tok with
 | nil => simp only [V] at hv; exact absurd hv.2.2 hne
 | none => simp only [V] at hv; obtain ⟨A, c, rfl, hn, hc⟩ := hv; obtain ⟨b, off, rfl, hcs⟩ := hc hne; exact ⟨b, off, c, rfl, hn, hcs⟩
 | own t k s => simp only [V] at hv; obtain ⟨b, off, c, i, rfl, hn, hcs, _⟩ := hv; exact ⟨b, off, c, rfl, hn, hcs⟩
theorem sl_open' {tok : Tok} {n : Nat} {cs : List AV} {u : Value} (hv : V μ w (.sl tok n cs) u) : ∃ A c, u = .slice A n c ∧ n ≤ c := by
 cases tok with
 | nil => simp only [V] at hv; obtain ⟨rfl, rfl, _⟩ := hv; exact ⟨none, 0, rfl, Nat.le_refl _⟩
 | none => simp only [V] at hv; obtain ⟨A, c, rfl, hn, hc⟩ := hv; exact ⟨A, c, rfl, hn⟩
 | own t k s => simp only [V] at hv; obtain ⟨b, off, c, i, rfl, hn, hcs, _⟩ := hv; exact ⟨_, c, rfl, hn⟩
theorem indexAddr_run {t : TypeId} {x ix y : AV} {u v : Value} (hv : V μ w x u) (hi : V μ w ix v) (e : aindexAddr P t x ix = some y) : ∃ z, (Instr.indexAt t u v).run P w = .ok z w ∧ V μ w y z := by
 unfold aindexAddr at e
 split at e
 ·rename_i k i n el ha hu
  obtain rfl := aint_V hi ha
  split at e
  ·rename_i ie hie
   split at e
   ·rename_i hb
    have hrun : ∀ b off, (Instr.indexAt t (.pointer (some ⟨b, off, none⟩)) (.int k i)).run P w = .ok (.pointer (some ⟨b, off + i.toNat * ie.size, none⟩)) w := fun b off => by
     simp only [Instr.indexAt, asIntOf, Sem.run_bind, Sem.run_pure, run_underlying hu, Result.andThen_ok, Instr.sureAddr]
     rw [if_pos hb]
     simp only [Sem.run_bind, size_run hie, Result.andThen_ok, Sem.run_pure, add_lit]
    cases x with
    | ptr o off => simp only [Option.some.injEq] at e; subst e; simp only [V] at hv ⊢; obtain ⟨b, hb, rfl⟩ := hv; exact ⟨_, hrun b off, b, hb, rfl⟩
    | cptr cs => simp only [Option.some.injEq] at e; subst e; simp only [V] at hv ⊢; obtain ⟨b, off, rfl, hc⟩ := hv; exact ⟨_, hrun b off, b, _, rfl, hc.drop _⟩
    | _ => cases e
   ·cases e
  ·cases e
 ·rename_i k i el ha hu
  obtain rfl := aint_V hi ha
  split at e
  ·rename_i ie hie
   have hrun : ∀ b off n c, 0 ≤ i → i < (n : Nat) → (Instr.indexAt t (.slice (some ⟨b, off, none⟩) n c) (.int k i)).run P w = .ok (.pointer (some ⟨b, off + i.toNat * ie.size, none⟩)) w := fun b off n c h0 h1 => by
    simp only [Instr.indexAt, asIntOf, Sem.run_bind, Sem.run_pure, run_underlying hu, Result.andThen_ok, Instr.sureAddr]
    rw [if_pos ⟨h0, h1⟩]
    simp only [Sem.run_bind, size_run hie, Result.andThen_ok, Sem.run_pure, add_lit]
   split at e
   ·rename_i tok n cs
    split at e
    ·rename_i hb
     obtain ⟨h0, h1, h2⟩ := hb
     cases e
     obtain ⟨b, off, c, rfl, hn, hc⟩ := sl_open hv (fun q => by subst q; simp at h2)
     exact ⟨_, hrun b off n c h0 h1, by simp only [V]; exact ⟨b, _, rfl, hc.drop _⟩⟩
    ·cases e
   ·rename_i o off n
    split at e
    ·rename_i hb
     cases e
     simp only [V] at hv
     obtain ⟨b, c, hbo, rfl, hn⟩ := hv
     exact ⟨_, hrun b off n c hb.1 hb.2, by simp only [V]; exact ⟨b, hbo, rfl⟩⟩
    ·cases e
   ·cases e
  ·cases e
 ·cases e
def aindex (P : Program) (t : TypeId) (x ix : AV) : Option AV :=
 match aint ix, P.underlying t, x with
 | some (_, i), some (.array n e), .agg cs => match P.info? e with
  | some ie => if 0 ≤ i ∧ i < n then acut P e cs (i.toNat * ie.size) else none
  | none => none
 | some (_, i), some .string, .v (.string s) => if 0 ≤ i then (s[i.toNat]?).map fun b => .v (.int .u8 b.toNat) else none
 | _, _, _ => none
theorem index_run {t : TypeId} {x ix y : AV} {u v : Value} (hv : V μ w x u) (hi : V μ w ix v) (e : aindex P t x ix = some y) : ∃ z, (Instr.index t u v).run P w = .ok z w ∧ V μ w y z := by
 unfold aindex at e
 split at e
 ·rename_i k i n el cs ha hu
  obtain rfl := aint_V hi ha
  split at e
  ·rename_i ie hie
   split at e
   ·rename_i hb
    simp only [V] at hv
    obtain ⟨us, rfl, hvs⟩ := hv
    obtain ⟨z, hr, hx⟩ := part_run (P := P) hvs e
    refine ⟨z, ?_, hx⟩
    simp only [Instr.index, asIntOf, Sem.run_bind, Sem.run_pure, run_underlying hu, Result.andThen_ok]
    rw [if_pos hb]
    simp only [Sem.run_bind, size_run hie, Result.andThen_ok, hr]
   ·cases e
  ·cases e
 ·rename_i k i s ha hu
  obtain rfl := aint_V hi ha
  split at e
  ·rename_i h0
   simp only [V] at hv
   obtain ⟨_, rfl⟩ := hv
   cases hs : s[i.toNat]? with
   | none => rw [hs] at e; simp at e
   | some b =>
    rw [hs] at e; simp at e; subst e
    refine ⟨_, ?_, plain_V rfl⟩
    simp only [Instr.index, asIntOf, Sem.run_bind, Sem.run_pure, run_underlying hu, Result.andThen_ok]
    rw [if_pos h0, hs]
    rfl
  ·cases e
 ·cases e
end
end
section
section
variable {P : Program} {B0 : Nat} {G : Nat → Option (List AV)} {μ : Mu} {h : AH} {w : World}
def abound (hi : Nat) : Option AV → Nat → Option Nat
 | none, d => some d
 | some x, _ => match aint x with
  | some (_, i) => if 0 ≤ i ∧ i ≤ hi then some i.toNat else none
  | none => none
theorem sliceBound_run {k : IntKind} {i : Int} {y : Nat} {code : BoundsCode} (h0 : 0 ≤ i) (h1 : i ≤ y) : (Instr.sliceBound (.int k i) y code).run P w = .ok i.toNat w := by
 simp only [Instr.sliceBound, asIntOf, Sem.run_bind, Sem.run_pure, Result.andThen_ok]
 rw [if_pos ⟨h0, h1⟩]; rfl
def VOpt (μ : Mu) (w : World) : Option AV → Option Value → Prop
 | none, u => u = none
 | some x, u => ∃ v, u = some v ∧ V μ w x v
theorem sliceBounds_run {isSl : Bool} {len cap : Nat} {lo hi : Option AV} {ulo uhi : Option Value} {l h1 : Nat} (hlo : VOpt μ w lo ulo) (hhi : VOpt μ w hi uhi) (hlc : len ≤ cap)
  (eh : abound len hi len = some h1) (el : abound h1 lo 0 = some l) :
  (Instr.sliceBounds isSl len cap ulo uhi none).run P w = .ok (l, h1, cap) w ∧ l ≤ h1 ∧ h1 ≤ len := by
 have S : ∀ {x : AV} {u : Option Value} {b d n : Nat}, VOpt μ w (some x) u → abound b (some x) d = some n → ∃ k i, u = some (.int k i) ∧ 0 ≤ i ∧ i ≤ b ∧ n = i.toNat := by
  intro x u b d n hx e
  simp only [VOpt] at hx
  obtain ⟨v, rfl, hv⟩ := hx
  simp only [abound] at e
  split at e
  ·rename_i k i ha
   obtain rfl := aint_V hv ha
   split at e
   ·rename_i hb; cases e; exact ⟨k, i, rfl, hb.1, hb.2, rfl⟩
   ·cases e
  ·cases e
 cases hi with
 | none =>
  simp only [VOpt] at hhi; subst hhi; simp only [abound, Option.some.injEq] at eh; subst eh
  cases lo with
  | none =>
   simp only [VOpt] at hlo; subst hlo; simp only [abound, Option.some.injEq] at el; subst el
   exact ⟨by simp only [Instr.sliceBounds, Sem.run_bind, Sem.run_pure, Result.andThen_ok], Nat.zero_le _, Nat.le_refl _⟩
  | some x =>
   obtain ⟨k, i, rfl, h0, h2, rfl⟩ := S hlo el
   exact ⟨by simp only [Instr.sliceBounds, Sem.run_bind, Sem.run_pure, Result.andThen_ok, sliceBound_run h0 h2], by omega, Nat.le_refl _⟩
 | some y =>
  obtain ⟨k', i', rfl, h0', h2', rfl⟩ := S hhi eh
  have h3' : i' ≤ cap := by omega
  cases lo with
  | none =>
   simp only [VOpt] at hlo; subst hlo; simp only [abound, Option.some.injEq] at el; subst el
   exact ⟨by simp only [Instr.sliceBounds, Sem.run_bind, Sem.run_pure, Result.andThen_ok, sliceBound_run h0' h3'], Nat.zero_le _, by omega⟩
  | some x =>
   obtain ⟨k, i, rfl, h0, h2, rfl⟩ := S hlo el
   exact ⟨by simp only [Instr.sliceBounds, Sem.run_bind, Sem.run_pure, Result.andThen_ok, sliceBound_run h0' h3', sliceBound_run h0 h2], by omega, by omega⟩
def aslice (P : Program) (t : TypeId) (x : AV) (lo hi : Option AV) : Option AV :=
 match P.underlying t, x with
 | some (.slice e), .sl tok n cs => match abound n hi n, P.info? e with
  | some h1, some ie => match abound h1 lo 0 with
   | some l => if cs.length = n * ie.size then match tok with
     | .nil => some (.sl .nil 0 [])
     | .none => some (.sl .none (h1 - l) ((cs.drop (l * ie.size)).take ((h1 - l) * ie.size)))
     | .own t k s => if h1 = n ∧ l < n ∧ s = ie.size then some (.sl (.own t (k + l) s) (n - l) (cs.drop (l * ie.size))) else some (.sl .none (h1 - l) ((cs.drop (l * ie.size)).take ((h1 - l) * ie.size)))
    else none
   | none => none
  | _, _ => none
 | some (.slice e), .arr o off n => match abound n hi n, P.info? e with
  | some h1, some ie => match abound h1 lo 0 with
   | some l => if l < h1 then some (.arr o (off + l * ie.size) (h1 - l)) else some (.sl .none 0 [])
   | none => none
  | _, _ => none
 | some (.array n e), .ptr o off => match abound n hi n, P.info? e with
  | some h1, some ie => match abound h1 lo 0 with
   | some l => if l < h1 then some (.arr o (off + l * ie.size) (h1 - l)) else some (.sl .none 0 [])
   | none => none
  | _, _ => none
 | some .string, .v (.string s) => match abound s.size hi s.size with
  | some h1 => match abound h1 lo 0 with
   | some l => some (.v (.string (s.extract l h1)))
   | none => none
  | none => none
 | _, _ => none
theorem slice_run {t : TypeId} {x y : AV} {u : Value} {lo hi : Option AV} {ulo uhi : Option Value} (hv : V μ w x u) (hlo : VOpt μ w lo ulo) (hhi : VOpt μ w hi uhi) (e : aslice P t x lo hi = some y) :
  ∃ v, (Instr.sliceAt t u ulo uhi none).run P w = .ok v w ∧ V μ w y v := by
 unfold aslice at e
 split at e
 ·rename_i el tok n cs hu
  split at e
  ·rename_i h1 ie eh hie
   split at e
   ·rename_i l hl
    split at e
    ·rename_i hlen
     have hrun : ∀ A c, n ≤ c → (Instr.sliceAt t (.slice A n c) ulo uhi none).run P w = .ok (.slice (if c = l then A else A.map (·.add (l * ie.size))) (h1 - l) (c - l)) w ∧ l ≤ h1 ∧ h1 ≤ n := fun A c hc => by
      have hb := sliceBounds_run (P := P) (isSl := true) (cap := c) hlo hhi hc eh hl
      refine ⟨?_, hb.2⟩
      simp only [Instr.sliceAt, Instr.slice, Sem.run_bind, run_underlying hu, Result.andThen_ok, hb.1, size_run hie, Sem.run_pure]
     split at e
     ·cases e
      simp only [V] at hv
      obtain ⟨rfl, rfl, rfl⟩ := hv
      obtain ⟨hr, h2, h3⟩ := hrun none 0 (Nat.le_refl _)
      obtain rfl : h1 = 0 := by omega
      obtain rfl : l = 0 := by omega
      exact ⟨_, hr, by simp [V]⟩
     ·cases e
      simp only [V] at hv
      obtain ⟨A, c, rfl, hn, hc⟩ := hv
      obtain ⟨hr, h2, h3⟩ := hrun A c hn
      refine ⟨_, hr, ?_⟩
      simp only [V]
      refine ⟨_, _, rfl, by omega, fun hne => ?_⟩
      have hlt : l < h1 := by
       rcases Nat.lt_or_ge l h1 with q | q
       ·exact q
       ·rw [show h1 - l = 0 from by omega] at hne; simp at hne
      obtain ⟨b, off, rfl, hcs⟩ := hc (fun q => by subst q; simp at hne)
      exact ⟨b, off + l * ie.size, by rw [if_neg (by omega)]; simp [add_lit], (hcs.drop _).take _⟩
     ·rename_i tk k s
      simp only [V] at hv
      obtain ⟨b, off, c, i, rfl, hn, hcs, ht, hsz, hF, hf⟩ := hv
      obtain ⟨hr, h2, h3⟩ := hrun (some ⟨b, off, none⟩) c hn
      split at e
      ·rename_i hc
       obtain ⟨rfl, hlt, rfl⟩ := hc
       cases e
       refine ⟨_, hr, ?_⟩
       simp only [V]
       refine ⟨b, off + l * ie.size, c - l, i, by rw [if_neg (by omega)]; simp [add_lit], by omega, hcs.drop _, ht, hsz, by omega, fun q => ?_⟩
       obtain ⟨q1, q2, q3⟩ := hf (by omega)
       refine ⟨q1, ?_, by omega⟩
       rw [← q2, hsz, Nat.sub_mul]
       have : l * ie.size ≤ h1 * ie.size := Nat.mul_le_mul_right _ (by omega)
       omega
      ·cases e
       refine ⟨_, hr, ?_⟩
       simp only [V]
       refine ⟨_, _, rfl, by omega, fun hne => ?_⟩
       have hlt : l < h1 := by
        rcases Nat.lt_or_ge l h1 with q | q
        ·exact q
        ·rw [show h1 - l = 0 from by omega] at hne; simp at hne
       exact ⟨b, off + l * ie.size, by rw [if_neg (by omega)]; simp [add_lit], (hcs.drop _).take _⟩
    ·cases e
   ·cases e
  ·cases e
 ·rename_i el o off n hu
  split at e
  ·rename_i h1 ie eh hie
   split at e
   ·rename_i l hl
    simp only [V] at hv
    obtain ⟨b, c, hbo, rfl, hn⟩ := hv
    have hb := sliceBounds_run (P := P) (isSl := true) (cap := c) hlo hhi hn eh hl
    have hr : (Instr.sliceAt t (.slice (some ⟨b, off, none⟩) n c) ulo uhi none).run P w = .ok (.slice (if c = l then some ⟨b, off, none⟩ else (some (⟨b, off, none⟩ : Addr)).map (·.add (l * ie.size))) (h1 - l) (c - l)) w := by
     simp only [Instr.sliceAt, Instr.slice, Sem.run_bind, run_underlying hu, Result.andThen_ok, hb.1, size_run hie, Sem.run_pure]
    split at e
    ·rename_i hlt
     cases e
     refine ⟨_, hr, ?_⟩
     simp only [V]
     exact ⟨b, c - l, hbo, by rw [if_neg (by omega)]; simp [add_lit], by omega⟩
    ·cases e
     refine ⟨_, hr, ?_⟩
     simp only [V]
     exact ⟨_, _, by rw [show h1 - l = 0 from by omega], Nat.zero_le _, fun q => absurd rfl q⟩
   ·cases e
  ·cases e
 ·rename_i n el o off hu
  split at e
  ·rename_i h1 ie eh hie
   split at e
   ·rename_i l hl
    simp only [V] at hv
    obtain ⟨b, hbo, rfl⟩ := hv
    have hb := sliceBounds_run (P := P) (isSl := false) (cap := n) hlo hhi (Nat.le_refl _) eh hl
    have hr : (Instr.sliceAt t (.pointer (some ⟨b, off, none⟩)) ulo uhi none).run P w = .ok (.slice (some (if n = l then ⟨b, off, none⟩ else (⟨b, off, none⟩ : Addr).add (l * ie.size))) (h1 - l) (n - l)) w := by
     simp only [Instr.sliceAt, Instr.sureAddr, Sem.run_bind, run_underlying hu, Result.andThen_ok, hb.1, size_run hie, Sem.run_pure]
    split at e
    ·rename_i hlt
     cases e
     refine ⟨_, hr, ?_⟩
     simp only [V]
     exact ⟨b, n - l, hbo, by rw [if_neg (by omega)]; simp [add_lit], by omega⟩
    ·cases e
     refine ⟨_, hr, ?_⟩
     simp only [V]
     exact ⟨_, _, by rw [show h1 - l = 0 from by omega], Nat.zero_le _, fun q => absurd rfl q⟩
   ·cases e
  ·cases e
 ·rename_i s hu
  split at e
  ·rename_i h1 eh
   split at e
   ·rename_i l hl
    cases e
    simp only [V] at hv
    obtain ⟨_, rfl⟩ := hv
    have hb := sliceBounds_run (P := P) (isSl := false) (cap := s.size) hlo hhi (Nat.le_refl _) eh hl
    refine ⟨_, ?_, plain_V rfl⟩
    simp only [Instr.sliceAt, Instr.slice, Sem.run_bind, run_underlying hu, Result.andThen_ok]
    simp only [Option.isSome_none, Bool.false_eq_true, if_false, Sem.run_bind, Sem.run_pure, Result.andThen_ok, hb.1]
   ·cases e
  ·cases e
 ·cases e
def acycle (zs : List AV) (n : Nat) : List AV := (List.range n).map fun k => zs.getD (k % zs.length) default
theorem acycle_V {n : Nat} {zs : List AV} {z : Array Value} (hv : Vs μ w zs z.toList) (hz : n = 0 ∨ zs ≠ []) : Vs μ w (acycle zs n) (madeCells z n).toList := by
 refine Vs.mk (by simp [acycle, madeCells]) fun k x u hx hu => ?_
 simp only [acycle, madeCells, List.getElem?_map, Array.toList_map, Array.toList_range] at hx hu
 by_cases hk : k < n
 ·rw [List.getElem?_range hk] at hx hu
  simp only [Option.map_some, Option.some.injEq] at hx hu
  subst hx; subst hu
  have hlen := hv.length
  simp only [Array.length_toList] at hlen
  have hpos : 0 < zs.length := by
   rcases hz with q | q
   ·omega
   ·exact List.length_pos_iff.2 q
  have hlt : k % zs.length < zs.length := Nat.mod_lt _ hpos
  obtain ⟨u, hu, hx⟩ := hv.get (k % zs.length) _ (List.getElem?_eq_getElem hlt)
  rw [List.getD_eq_getElem?_getD, List.getElem?_eq_getElem hlt]
  rw [hlen]
  have hu' : z[k % zs.length]? = some u := by simpa using hu
  rw [getElem!_def, hu']
  exact hx
 ·rw [List.getElem?_eq_none (by simpa using hk)] at hx; cases hx
def amake (P : Program) (t : TypeId) (l c : AV) : Option (Ev × (Nat → AV)) :=
 match aint l, aint c, P.underlying t with
 | some (_, l), some (_, c), some (.slice e) => match P.info? e, azero P e with
  | some i, some z =>
   if 0 ≤ l ∧ l ≤ c ∧ (i.bytes : Int) * c ≤ 281474976710656 ∧ c ≤ 9223372036854775807 ∧ z.length = i.size ∧ 0 < i.size then
    if l = c then some (.obj (.cells e (acycle z (l.toNat * i.size))), fun id => .arr id 0 l.toNat)
    else if l = 0 then some (.row 0 i.size [], fun t => .sl (.own t 0 i.size) 0 []) else none
   else none
  | _, _ => none
 | _, _, _ => none
theorem make_ev {t : TypeId} {l c : AV} {ul uc : Value} {ev : Ev} {f : Nat → AV} (hl : V μ w l ul) (hc : V μ w c uc) (e : amake P t l c = some (ev, f)) : EvRes P μ w ev f (Instr.makeSlice t ul uc) := by
 unfold amake at e
 split at e
 ·rename_i kl l kc c el h1 h2 hu
  obtain rfl := aint_V hl h1
  obtain rfl := aint_V hc h2
  split at e
  ·rename_i i z hi hz
   split at e
   ·rename_i hcond
    obtain ⟨c1, c2, c3, c4, c5, c6⟩ := hcond
    obtain ⟨i', zz, hi', hiz, hzc⟩ := azero_info hz
    rw [hi] at hi'; cases hi'
    have hzV : Vs μ w z zz.cells.toList := ofVs_Vs _ _ _ hzc
    have hrun := run_make w t el i zz hu hi hiz kl kc l c c1 c2 c3 c4
    split at e
    ·rename_i hlc
     subst hlc
     cases e
     refine ⟨_, _, _, hrun, ⟨rfl, rfl, rfl, rfl⟩, fun μ' w' hle hk hb => ⟨_, hb, Vs.mono hle hk _ _ (acycle_V hzV (.inr fun q => by subst q; simp at c5; omega))⟩, fun μ' w' id hid => ?_⟩
     simp only [V]
     exact ⟨w.heap.size, l.toNat, hid, rfl, Nat.le_refl _⟩
    ·split at e
     ·rename_i hl0
      cases e
      subst hl0
      exact ⟨_, _, _, hrun, ⟨rfl, rfl, rfl, rfl⟩, _, el, c.toNat, rfl, by simp, by simp [size_madeCells], by simp [Vs], rfl, by simp⟩
     ·cases e
   ·cases e
  ·cases e
 ·cases e
def abuildSlice (P : Program) (t : TypeId) (len : Nat) (parts : List (Nat × AV)) : Option (Ev × (Nat → AV)) :=
 match P.underlying t with
 | some (.slice e) => match P.info? e, azero P e with
  | some i, some z =>
   if len * i.size ≤ 16777216 ∧ z.length = i.size ∧ 0 < i.size then
    match afill (fun k => some (k * i.size, i.size)) (acycle z (len * i.size)) parts with
    | some cs => if cs.length = len * i.size then some (.row len i.size cs, fun t => .sl (.own t 0 i.size) len cs) else none
    | none => none
   else none
  | _, _ => none
 | _ => none
theorem buildSlice_ev {t : TypeId} {len : Nat} {ps : List (Nat × AV)} {qs : Array (Nat × Value)} {ev : Ev} {f : Nat → AV} (hp : VParts μ w ps qs.toList) (e : abuildSlice P t len ps = some (ev, f)) :
  EvRes P μ w ev f (Instr.buildSlice t len qs) := by
 unfold abuildSlice at e
 split at e
 ·rename_i el hu
  split at e
  ·rename_i i z hi hz
   split at e
   ·rename_i hcond
    obtain ⟨c1, c2, c3⟩ := hcond
    obtain ⟨i', zz, hi', hiz, hzc⟩ := azero_info hz
    rw [hi] at hi'; cases hi'
    have hzV : Vs μ w z zz.cells.toList := ofVs_Vs _ _ _ hzc
    split at e
    ·rename_i cs hf
     split at e
     ·rename_i hlen
      cases e
      have hbase := acycle_V (n := len * i.size) hzV (.inr fun q => by subst q; simp at c2; omega)
      obtain ⟨vs', hfill, hV⟩ := fill_V ps qs.toList _ cs (madeCells zz.cells (len * i.size)) hp hbase hf
      have hvl := hV.length
      simp only [Array.length_toList] at hvl
      have hrun : (Instr.buildSlice t len qs).run P w = .ok (.slice (some ⟨w.heap.size, 0, none⟩) len len) (w.alloc (.cells vs' el)) := by
       by_cases h0 : len * i.size = 0
       ·rw [h0] at hfill
        have hm : madeCells zz.cells 0 = #[] := by simp [madeCells]
        rw [hm] at hfill
        simp [Instr.buildSlice, run_underlying hu, sizeOf, typeInfo, hi, h0, show Array.range 0 = #[] from rfl, hfill, newRow]
       ·unfold madeCells at hfill
        simp [Instr.buildSlice, run_underlying hu, sizeOf, typeInfo, zeroValue, hi, hiz, h0, show ¬ (16777216 < len * i.size) by omega, hfill, newRow]
      exact ⟨_, _, _, hrun, ⟨rfl, rfl, rfl, rfl⟩, vs', el, 0, rfl, hlen, by rw [hvl, hlen]; simp, by rw [← hlen, ← hvl, ← Array.length_toList, List.take_length]; exact hV, rfl, by simp⟩
     ·cases e
    ·cases e
   ·cases e
  ·cases e
 ·cases e
end
end
end
end
section
section
variable {P : Program} {B0 : Nat} {G : Nat → Option (List AV)} {μ : Mu} {h : AH} {w : World}
theorem Cells.values {cs : List AV} {b off : Nat} (hc : Cells μ w cs b off) : ∃ us : List Value, us.length = cs.length ∧ (∀ (j : Nat) v, us[j]? = some v → w.cell? ⟨b, off + j, none⟩ = some v) ∧ Vs μ w cs us := by
 refine ⟨(List.range cs.length).map fun j => (w.cell? ⟨b, off + j, none⟩).getD undef, by simp, fun j v hv => ?_, Vs.mk (by simp) fun j x u hx hu => ?_⟩
 ·simp only [List.getElem?_map, Option.map_eq_some_iff] at hv
  obtain ⟨k, hk, rfl⟩ := hv
  have hj : j < cs.length := by simpa using (List.getElem?_eq_some_iff.1 hk).1
  rw [List.getElem?_range hj] at hk
  cases hk
  obtain ⟨_, u, hu, _⟩ := hc.get j _ (List.getElem?_eq_getElem hj)
  rw [hu]; rfl
 ·have hj : j < cs.length := (List.getElem?_eq_some_iff.1 hx).1
  simp only [List.getElem?_map, List.getElem?_range hj, Option.map_some, Option.some.injEq] at hu
  obtain ⟨_, u', hu', hv⟩ := hc.get j x hx
  rw [hu'] at hu; simp at hu; subst hu; exact hv
def aappend (P : Program) (h : AH) (t : TypeId) (a b : AV) : Option (AV × AH) :=
 match P.underlying t, a, b with
 | some (.slice e), .sl tok n cs, .sl _ m cs' => match P.info? e, azero P e with
  | some i, some z =>
   if z.length = i.size ∧ 0 < i.size ∧ cs.length = n * i.size ∧ cs'.length = m * i.size ∧ cs'.all AV.one = true ∧ (n + m) * i.bytes ≤ 140737488355328 ∧ n + m ≤ 9223372036854775807 then
    if m = 0 then some (a, h)
    else match tok with
     | .nil => some (.sl (.own h.tnext 0 i.size) m cs', h.pushTok m)
     | .own tk k s => if h.tok tk = some (k + n) ∧ s = i.size then some (.sl (.own tk k s) (n + m) (cs ++ cs'), h.setTok tk (k + n + m)) else none
     | .none => none
   else none
  | _, _ => none
 | _, _, _ => none
theorem append_res (r : R B0 G μ h w) {t ty : TypeId} {a b x : AV} {ua ub : Value} {h' : AH} (ha : V μ w a ua) (hb : V μ w b ub) (e : aappend P h t a b = some (x, h')) :
  Res P B0 G μ h w x h' (Builtin.append_ #[t, t] ty #[ua, ub]) := by
 unfold aappend at e
 split at e
 ·rename_i el tok n cs tok' m cs' hu
  split at e
  ·rename_i i z hi hz
   split at e
   ·rename_i hcond
    obtain ⟨c1, c2, c3, c4, c5, c6, c7⟩ := hcond
    obtain ⟨i', zz, hi', hiz, hzc⟩ := azero_info hz
    rw [hi] at hi'; cases hi'
    have hzV : Vs μ w z zz.cells.toList := ofVs_Vs _ _ _ hzc
    have hzl := hzV.length
    simp only [Array.length_toList] at hzl
    split at e
    ·rename_i hm
     subst hm
     cases e
     obtain ⟨A, c, rfl, hc⟩ := sl_open' ha
     obtain ⟨B, d, rfl, hd⟩ := sl_open' hb
     refine ⟨_, w, μ, ?_, Step.refl r, ha⟩
     cases A <;> cases B <;> simp [Builtin.append_, run_underlying hu, sizeOf, typeInfo, hi, Builtin.lenOf, hc, Builtin.firstCells, loadCells, loadCellsFrom, storeCells]
    ·rename_i hm
     have hne : cs' ≠ [] := fun q => by
      subst q
      simp only [List.length_nil] at c4
      have : 0 < m * i.size := Nat.mul_pos (by omega) c2
      omega
     obtain ⟨b2, o2, d, rfl, hd, hcs'⟩ := sl_open hb hne
     obtain ⟨news, hnl, hnc, hnV⟩ := hcs'.values
     have hone := ones_V hnV c5
     have hnews : ∀ (j : Nat) v, news[j]? = some v → w.cell? ((⟨b2, o2, none⟩ : Addr).add j) = some v := fun j v hv => by rw [add_lit]; exact hnc j v hv
     have hnl' : news.length = m * i.size := by omega
     split at e
     ·cases e
      simp only [V] at ha
      obtain ⟨rfl, rfl, rfl⟩ := ha
      have hg := grownCap_ge w m 0 el
      have hrun := run_append_nil (P := P) w t ty el i zz hu hi hiz ⟨b2, o2, none⟩ m d news hnl' hnews (by omega) (by omega) (Nat.le_trans (show m * i.bytes ≤ 140737488355328 by simpa using c6) (by omega))
      have st := step_new_row (B0 := B0) (G := G) (w' := w.drew.alloc (.cells (news.toArray ++ Builtin.zeroCells zz.cells (grownCap w m 0 el - m)) el)) r
       (vs := news.toArray ++ Builtin.zeroCells zz.cells (grownCap w m 0 el - m)) (ty := el) ⟨rfl, rfl, rfl, rfl⟩ (t := h.tnext) (F := m) (n := m) (sz := i.size) (sp := grownCap w m 0 el - m) (cs := cs') (h' := h.pushTok m)
       c4 (by simp [size_zeroCells, hnl', hzl, c1]) (by
        rw [Array.toList_append, ← hnl', List.take_left' (by simp)]
        simpa using hnV) ⟨rfl, rfl, fun x => AH.tok_pushTok h m x, by simp [AH.pushTok], by simp [AH.pushTok]⟩ (fun j hj => by rw [r.tnext _ (Nat.le_refl _)] at hj; cases hj) (.inl (Nat.le_refl _))
      obtain ⟨st, hcells, htok⟩ := st
      refine ⟨_, _, _, hrun, st, ?_⟩
      simp only [V]
      exact ⟨_, 0, _, _, rfl, hg, hcells, htok, rfl, by simp, fun _ => ⟨rfl, by simp, by simp; omega⟩⟩
     ·rename_i tk k s
      split at e
      ·rename_i hc
       obtain ⟨htk, rfl⟩ := hc
       cases e
       simp only [V] at ha
       obtain ⟨b1, o1, c, ti, rfl, hn, hcs, htok, hsz, hF, hf⟩ := ha
       obtain ⟨_, htF, vs, ty', hvs, hcap⟩ := r.tok tk ti htok
       have hFF : k + n = ti.F := by rw [htk] at htF; exact Option.some.inj htF
       obtain ⟨rfl, q2, rfl⟩ := hf hFF
       rw [hsz] at q2 hcap
       by_cases hroom : m ≤ ti.sp
       ·have hmul : m * i.size ≤ ti.sp * i.size := Nat.mul_le_mul_right _ hroom
        have hst := run_storeCells_at (P := P) ti.b ti.e ty' news 0 vs w hvs (by omega) hone
        rw [Nat.add_zero] at hst
        have hfc := run_firstCells_some (P := P) w i.size m ⟨b2, o2, none⟩ m d news hnl' hnews
        obtain ⟨hs1, hs2, hs3⟩ := setRow_heap (vs' := (List.take ti.e vs.toList ++ news ++ List.drop (ti.e + news.length) vs.toList).toArray) hvs
        have hvl : ti.e ≤ vs.toList.length := by simp; omega
        have st := step_row_more (B0 := B0) (G := G) r (n := ti.F + m) htok hvs ⟨hs1, hs2, hs3⟩ ⟨rfl, rfl, rfl⟩ (m := m) (cs := cs') (us := news) (by rw [hsz]; exact c4) hnV (by omega) hroom rfl
         ⟨by simp; omega, fun j hj => by
          rw [List.getElem?_toArray, List.append_assoc, List.getElem?_append_left (by rw [List.length_take]; omega), List.getElem?_take, if_pos hj, Array.getElem?_toList], fun j u hu => by
          have hj : j < news.length := (List.getElem?_eq_some_iff.1 hu).1
          have hlt : (List.take ti.e vs.toList).length = ti.e := by rw [List.length_take]; omega
          rw [List.getElem?_toArray, List.append_assoc, List.getElem?_append_right (by omega), List.getElem?_append_left (by omega), hlt, show ti.e + j - ti.e = j from by omega]
          exact hu⟩
        obtain ⟨st, hcells, htk'⟩ := st
        refine ⟨.slice (some ⟨ti.b, o1, none⟩) (n + m) (n + ti.sp), _, _, ?_, by rw [hFF]; exact st, ?_⟩
        ·have hge : n + m ≤ n + ti.sp := by omega
         simp [Builtin.append_, run_underlying hu, sizeOf, typeInfo, hi, Builtin.lenOf, hge, hroom, hfc, add_lit, q2, hst]
        ·simp only [V]
         refine ⟨_, o1, _, _, rfl, by omega, Cells.append (Cells.mono st.le st.com _ _ _ hcs) (by rw [c3, q2]; exact hcells), htk', hsz, by simp; omega, fun _ => ⟨rfl, ?_, by simp; omega⟩⟩
         simp only [hsz]
         rw [Nat.add_mul]; omega
       ·obtain ⟨olds, hol, hoc, hoV⟩ := hcs.values
        have hlt : n + ti.sp < n + m := by omega
        have hg := grownCap_ge w (n + m) (n + ti.sp) el
        have hol' : olds.length = n * i.size := by omega
        have hrun := run_append_grow (P := P) w t ty el i zz hu hi hiz ⟨ti.b, o1, none⟩ n (n + ti.sp) olds hol' (fun j v hv => by rw [add_lit]; exact hoc j v hv) ⟨b2, o2, none⟩ m d news hnl' hnews hlt (by omega) (growslice_fits hlt c6)
        have hmul : (n + m) * i.size = n * i.size + m * i.size := Nat.add_mul ..
        have st := step_new_row (B0 := B0) (G := G) (w' := w.drew.alloc (.cells (olds.toArray ++ news.toArray ++ Builtin.zeroCells zz.cells (grownCap w (n + m) (n + ti.sp) el - (n + m))) el)) r
         (vs := olds.toArray ++ news.toArray ++ Builtin.zeroCells zz.cells (grownCap w (n + m) (n + ti.sp) el - (n + m))) (ty := el) ⟨rfl, rfl, rfl, rfl⟩ (t := tk) (F := k + n + m) (n := n + m) (sz := i.size) (sp := grownCap w (n + m) (n + ti.sp) el - (n + m)) (cs := cs ++ cs') (h' := h.setTok tk (k + n + m))
         (by simp; omega) (by simp [size_zeroCells, hnl', hol']; rw [hzl, c1]; omega) (by
          have hl : (n + m) * i.size = (olds ++ news).length := by simp; omega
          rw [Array.toList_append, Array.toList_append, hl, List.take_left' (by simp)]
          exact hoV.append hnV) ⟨rfl, rfl, fun x => AH.tok_setTok h tk _ x, Nat.le_refl _, by
           rcases Nat.lt_or_ge tk h.tnext with q | q
           ·exact q
           ·rw [r.tnext _ q] at htok; cases htok⟩ (fun j hj => by rw [htok] at hj; cases hj; exact ⟨by omega, hsz⟩) (.inr ⟨ti, htok⟩)
        obtain ⟨st, hcells, htk'⟩ := st
        refine ⟨_, _, _, hrun, st, ?_⟩
        simp only [V]
        exact ⟨_, 0, _, _, rfl, hg, hcells, htk', rfl, by simp; omega, fun _ => ⟨rfl, by simp, by simp; omega⟩⟩
      ·cases e
     ·cases e
   ·cases e
  ·cases e
 ·cases e
def arrOK (P : Program) (t : TypeId) (n : Nat) (e : TypeId) : Bool := !(P.eqGuardType P.depth t) && n == 2 && (match P.underlying e with | some (.int _) => true | _ => false) && (pureRun P (Go.sizeOf e) == some 1) && (pureRun P (isAgg e) == some false)
theorem pureRun_underlying {P : Program} {t : TypeId} {d : TypeDesc} (e : P.underlying t = some d) : pureRun P (underlying t) = some d := by
 unfold underlying
 rw [pureRun_bind]
 show (some P).bind _ = _
 simp only [Option.bind_some, e, pureRun_pure]
theorem eq_pair {P : Program} {t e : TypeId} {k : IntKind} {a b c d : Int} (hu : P.underlying t = some (.array 2 e)) (he : P.underlying e = some (.int k)) (hs : pureRun P (Go.sizeOf e) = some 1) (ha : pureRun P (isAgg e) = some false) :
  pureRun P (Op.equal t (.agg #[.int .i64 a, .int .i64 b]) (.agg #[.int .i64 c, .int .i64 d])) = some (a == c && b == d) := by
 have he1 : ∀ x y : Int, pureRun P (Op.equalIn (9998 + 1) e (.int .i64 x) (.int .i64 y)) = some (x == y) := fun x y => by
  rw [Op.equalIn, pureRun_bind, pureRun_underlying he]; simp only [Option.bind_some, if_true, pureRun_pure]
 show pureRun P (Op.equalIn (9998 + 1 + 1) t _ _) = _
 rw [Op.equalIn, pureRun_bind, pureRun_underlying hu]
 simp only [Option.bind_some]
 rw [pureRun_bind, hs]
 have p0 : ∀ x y : Int, pureRun P (part e #[.int .i64 x, .int .i64 y] (0 * 1)) = some (.int .i64 x) := fun x y => by
  unfold part; rw [pureRun_bind, ha]; rfl
 have p1 : ∀ x y : Int, pureRun P (part e #[.int .i64 x, .int .i64 y] ((0 + 1) * 1)) = some (.int .i64 y) := fun x y => by
  unfold part; rw [pureRun_bind, ha]; rfl
 simp only [Option.bind_some, Std.Legacy.Range.forIn_eq_forIn_range', Std.Legacy.Range.size, List.range', List.forIn_cons, List.forIn_nil]
 simp only [List.forIn_cons, List.forIn_nil, pureRun_bind, bind_assoc, p0, p1, Option.bind_some, he1]
 by_cases h0 : a = c
 ·subst h0
  simp only [beq_self_eq_true, Bool.not_true, Bool.false_eq_true, if_false, pureRun_pure, Option.bind_some, pureRun_bind, p1, he1, Bool.true_and]
  by_cases h1 : b = d
  ·subst h1; simp [pureRun_bind, pureRun_pure]
  ·have : (b == d) = false := beq_eq_false_iff_ne.2 h1
   simp [this, pureRun_bind, pureRun_pure]
 ·have : (a == c) = false := beq_eq_false_iff_ne.2 h0
  simp [this, pureRun_bind, pureRun_pure]
theorem arrOK_eq {P : Program} {t : TypeId} {n : Nat} {e : TypeId} (h : arrOK P t n e = true) : n = 2 ∧ (∃ k, P.underlying e = some (.int k)) ∧ pureRun P (Go.sizeOf e) = some 1 ∧ pureRun P (isAgg e) = some false ∧ P.eqGuardType P.depth t = false := by
 unfold arrOK at h
 simp only [Bool.and_eq_true, beq_iff_eq, Bool.not_eq_true'] at h
 obtain ⟨⟨⟨⟨h0, h1⟩, h2⟩, h3⟩, h4⟩ := h
 refine ⟨h1, ?_, h3, h4, h0⟩
 split at h2
 ·exact ⟨_, ‹_›⟩
 ·cases h2
def pairOf : Value → Option (Int × Int)
 | .agg cs => match cs.toList with
  | [.int .i64 a, .int .i64 b] => some (a, b)
  | _ => none
 | _ => none
theorem pairOf_eq {v : Value} {p : Int × Int} (e : pairOf v = some p) : v = .agg #[.int .i64 p.1, .int .i64 p.2] := by
 unfold pairOf at e
 split at e
 ·rename_i cs
  split at e
  ·rename_i a b h
   cases e
   congr 1
   apply Array.ext'
   rw [h]
  ·cases e
 ·cases e
def asame (kind : TypeDesc) (k k' : Value) : Option Bool :=
 match kind with
 | .array _ _ => match pairOf k, pairOf k' with
  | some a, some b => some (a.1 == b.1 && a.2 == b.2)
  | _, _ => none
 | d => Instr.sameNow d k k'
def simpleKey (P : Program) (t : TypeId) : Option TypeDesc :=
 match P.underlying t with
 | some (.int k) => some (.int k)
 | some .string => some .string
 | some .bool => some .bool
 | some (.array n e) => if arrOK P t n e then some (.array n e) else none
 | _ => none
def keyOK (kind : TypeDesc) (k : Value) : Bool :=
 match kind with
 | .array _ _ => (pairOf k).isSome
 | _ => true
def afind (kind : TypeDesc) (k : Value) : List (Value × AV) → Nat → Option (Option (Nat × AV))
 | [], _ => if keyOK kind k then some none else none
 | e :: es, i => match asame kind k e.1 with
  | some true => some (some (i, e.2))
  | some false => afind kind k es (i + 1)
  | none => none
theorem afind_key {kind : TypeDesc} {k : Value} : ∀ {es : List (Value × AV)} {i : Nat} {q : Option (Nat × AV)}, afind kind k es i = some q → keyOK kind k = true
 | [], i, q, e => by
  simp only [afind] at e
  split at e
  ·assumption
  ·cases e
 | p :: es, i, q, e => by
  unfold keyOK
  split
  ·rename_i n el
   simp only [afind, asame] at e
   cases h : pairOf k with
   | none => rw [h] at e; simp at e
   | some a => rfl
  ·rfl
def MRel (μ : Mu) (w : World) (es : List (Value × AV)) (ents : List MapEntry) : Prop := ents.map (·.key) = es.map (·.1) ∧ Vs μ w (es.map (·.2)) (ents.map (·.val))
theorem asame_simple {kind : TypeDesc} {k k' : Value} (h : ∀ n e, kind ≠ .array n e) : asame kind k k' = Instr.sameNow kind k k' := by
 unfold asame
 split
 ·exact absurd rfl (h _ _)
 ·rfl
theorem find_V {kind : TypeDesc} {k : Value} (hna : ∀ n e, kind ≠ .array n e) : ∀ {es : List (Value × AV)} {ents : List MapEntry} {i : Nat}, MRel μ w es ents → ∀ q, afind kind k es i = some q →
  match q with
  | none => Instr.findNow kind k ents i = some none
  | some (j, x) => ∃ u, Instr.findNow kind k ents i = some (some (j, u)) ∧ V μ w x u ∧ i ≤ j ∧ ∃ e, es[j - i]? = some e ∧ Instr.sameNow kind k e.1 = some true
 | [], ents, i, hm, q, e => by
  obtain ⟨h1, h2⟩ := hm
  simp only [List.map_nil, List.map_eq_nil_iff] at h1
  subst h1
  simp only [afind] at e
  split at e
  ·simp only [Option.some.injEq] at e
   subst e
   rfl
  ·cases e
 | p :: es, ents, i, hm, q, e => by
  obtain ⟨h1, h2⟩ := hm
  cases ents with
  | nil => simp at h1
  | cons en ents =>
   simp only [List.map_cons, List.cons.injEq] at h1
   simp only [List.map_cons, Vs] at h2
   obtain ⟨u, us, hu, hx, hxs⟩ := h2
   simp only [List.cons.injEq] at hu
   obtain ⟨rfl, rfl⟩ := hu
   simp only [afind] at e
   rw [asame_simple hna] at e
   cases hs : Instr.sameNow kind k p.1 with
   | none => rw [hs] at e; simp at e
   | some t =>
    rw [hs] at e
    cases t with
    | true =>
     simp only [Option.some.injEq] at e
     subst e
     exact ⟨_, by simp only [Instr.findNow, h1.1, hs], hx, Nat.le_refl _, p, by simp, hs⟩
    | false =>
     simp only at e
     have ih := find_V hna (i := i + 1) ⟨h1.2, hxs⟩ q e
     cases q with
     | none => simp only [Instr.findNow, h1.1, hs]; exact ih
     | some jx =>
      obtain ⟨j, x⟩ := jx
      obtain ⟨u, hf, hv, hle, e', he', hse⟩ := ih
      refine ⟨u, by simp only [Instr.findNow, h1.1, hs]; exact hf, hv, by omega, e', ?_, hse⟩
      rw [show j - i = (j - (i + 1)) + 1 from by omega]
      simpa using he'
def azeroV (P : Program) (t : TypeId) : Option AV := ((P.info? t).bind (·.zero)).bind fun z => ofV (z.cells.size + 64) z
theorem azeroV_V {t : TypeId} {x : AV} (e : azeroV P t = some x) : ∃ z : Value, (zeroValue t).run P w = .ok z w ∧ V μ w x z := by
 unfold azeroV at e
 cases h1 : P.info? t with
 | none => rw [h1] at e; simp at e
 | some i =>
  rw [h1] at e; simp only [Option.bind_some] at e
  cases h2 : i.zero with
  | none => rw [h2] at e; simp at e
  | some z =>
   rw [h2] at e; simp only [Option.bind_some] at e
   refine ⟨z, ?_, ofV_V _ _ _ e⟩
   simp only [zeroValue, Sem.run_bind, run_typeInfo w h1, Result.andThen_ok, h2]; rfl
theorem checkKey_pair {P : Program} {t e : TypeId} {k : IntKind} {a b : Int} {em : Bool} (hu : P.underlying t = some (.array 2 e)) (he : P.underlying e = some (.int k)) (hs : pureRun P (Go.sizeOf e) = some 1) (ha : pureRun P (isAgg e) = some false) :
  pureRun P (Instr.checkKey em 10000 t (.agg #[.int .i64 a, .int .i64 b])) = some () := by
 have he1 : ∀ x : Int, pureRun P (Instr.checkKey em (9998 + 1) e (.int .i64 x)) = some () := fun x => by
  rw [Instr.checkKey, pureRun_bind, pureRun_underlying he]; simp only [Option.bind_some, pureRun_pure]
 show pureRun P (Instr.checkKey em (9998 + 1 + 1) t _) = _
 rw [Instr.checkKey, pureRun_bind, pureRun_underlying hu]
 simp only [Option.bind_some]
 have p0 : pureRun P (part e #[.int .i64 a, .int .i64 b] (0 * 1)) = some (.int .i64 a) := by
  unfold part; rw [pureRun_bind, ha]; rfl
 have p1 : pureRun P (part e #[.int .i64 a, .int .i64 b] ((0 + 1) * 1)) = some (.int .i64 b) := by
  unfold part; rw [pureRun_bind, ha]; rfl
 simp only [Std.Legacy.Range.forIn_eq_forIn_range', Std.Legacy.Range.size, List.range', List.forIn_cons, List.forIn_nil, pureRun_bind, bind_assoc, hs, p0, p1, Option.bind_some, he1, pureRun_pure]
theorem checkKey_run {t : TypeId} {d : TypeDesc} {k : Value} {b : Bool} (hd : simpleKey P t = some d) (hk : keyOK d k = true) : (Instr.checkKey b 10000 t k).run P w = .ok () w ∧ P.underlying t = some d := by
 unfold simpleKey at hd
 split at hd
 ·rename_i kk hu; cases hd; exact ⟨by rw [show (10000 : Nat) = 9999 + 1 from rfl, Instr.checkKey]; simp only [Sem.run_bind, run_underlying hu, Result.andThen_ok]; cases k <;> rfl, hu⟩
 ·rename_i hu; cases hd; exact ⟨by rw [show (10000 : Nat) = 9999 + 1 from rfl, Instr.checkKey]; simp only [Sem.run_bind, run_underlying hu, Result.andThen_ok]; cases k <;> rfl, hu⟩
 ·rename_i hu; cases hd; exact ⟨by rw [show (10000 : Nat) = 9999 + 1 from rfl, Instr.checkKey]; simp only [Sem.run_bind, run_underlying hu, Result.andThen_ok]; cases k <;> rfl, hu⟩
 ·rename_i n e hu
  split at hd
  ·rename_i ha
   cases hd
   obtain ⟨rfl, ⟨kk, he⟩, hs, hag, _⟩ := arrOK_eq ha
   obtain ⟨p, hp⟩ := Option.isSome_iff_exists.1 (show (pairOf k).isSome = true from hk)
   rw [pairOf_eq hp]
   exact ⟨pureRun_run (checkKey_pair hu he hs hag) w, hu⟩
  ·cases hd
 ·cases hd
theorem findAsking_run {key e : TypeId} {kk : IntKind} (hu : P.underlying key = some (.array 2 e)) (he : P.underlying e = some (.int kk)) (hs : pureRun P (Go.sizeOf e) = some 1) (ha : pureRun P (isAgg e) = some false) {k : Value} :
  ∀ {es : List (Value × AV)} {ents : List MapEntry} {i : Nat}, MRel μ w es ents → ∀ q, afind (.array 2 e) k es i = some q →
  match q with
  | none => (Instr.findAsking key k ents i).run P w = .ok none w
  | some (j, x) => ∃ u, (Instr.findAsking key k ents i).run P w = .ok (some (j, u)) w ∧ V μ w x u ∧ i ≤ j ∧ ∃ e', es[j - i]? = some e' ∧ asame (.array 2 e) k e'.1 = some true
 | [], ents, i, hm, q, h => by
  obtain ⟨h1, h2⟩ := hm
  simp only [List.map_nil, List.map_eq_nil_iff] at h1
  subst h1
  simp only [afind] at h
  split at h
  ·simp only [Option.some.injEq] at h
   subst h
   rfl
  ·cases h
 | p :: es, ents, i, hm, q, h => by
  obtain ⟨h1, h2⟩ := hm
  cases ents with
  | nil => simp at h1
  | cons en ents =>
   simp only [List.map_cons, List.cons.injEq] at h1
   simp only [List.map_cons, Vs] at h2
   obtain ⟨u, us, hu', hx, hxs⟩ := h2
   simp only [List.cons.injEq] at hu'
   obtain ⟨rfl, rfl⟩ := hu'
   simp only [afind, asame] at h
   cases hk1 : pairOf k with
   | none => rw [hk1] at h; simp at h
   | some a =>
    cases hk2 : pairOf p.1 with
    | none => rw [hk1, hk2] at h; simp at h
    | some b =>
     have hse : asame (.array 2 e) k p.1 = some (a.1 == b.1 && a.2 == b.2) := by simp only [asame, hk1, hk2]
     rw [hk1, hk2] at h
     simp only at h
     have hop : (Op.equal key k en.key).run P w = .ok (a.1 == b.1 && a.2 == b.2) w := by
      rw [h1.1, pairOf_eq hk1, pairOf_eq hk2]
      exact pureRun_run (eq_pair hu he hs ha) w
     cases ht : (a.1 == b.1 && a.2 == b.2) with
     | true =>
      rw [ht] at h hop hse
      simp only [Option.some.injEq] at h
      subst h
      exact ⟨_, by simp only [Instr.findAsking, Sem.run_bind, hop, Result.andThen_ok, if_true, Sem.run_pure], hx, Nat.le_refl _, p, by simp, hse⟩
     | false =>
      rw [ht] at h hop hse
      simp only at h
      have ih := findAsking_run hu he hs ha (i := i + 1) ⟨h1.2, hxs⟩ q h
      cases q with
      | none =>
       simp only [Instr.findAsking, Sem.run_bind, hop, Result.andThen_ok, Bool.false_eq_true, if_false]; exact ih
      | some jx =>
       obtain ⟨j, x⟩ := jx
       obtain ⟨u, hf, hv, hle, e', he', hse'⟩ := ih
       refine ⟨u, by simp only [Instr.findAsking, Sem.run_bind, hop, Result.andThen_ok, Bool.false_eq_true, if_false]; exact hf, hv, by omega, e', ?_, hse'⟩
       rw [show j - i = (j - (i + 1)) + 1 from by omega]
       simpa using he'
theorem findKey_run {key : TypeId} {d : TypeDesc} {k : Value} {ents : List MapEntry} {q : Option (Nat × Value)} (hu : P.underlying key = some d) (e : Instr.findNow d k ents 0 = some q) : (Instr.findKey key k ents).run P w = .ok q w := by
 simp only [Instr.findKey, Sem.run_bind, run_underlying hu, Result.andThen_ok, e, Sem.run_pure]
theorem findKey_V {key : TypeId} {d : TypeDesc} {k : Value} (hd : simpleKey P key = some d) {es : List (Value × AV)} {ents : List MapEntry} (hm : MRel μ w es ents) {q : Option (Nat × AV)} (e : afind d k es 0 = some q) :
  match q with
  | none => (Instr.findKey key k ents).run P w = .ok none w
  | some (j, x) => ∃ u, (Instr.findKey key k ents).run P w = .ok (some (j, u)) w ∧ V μ w x u ∧ ∃ e', es[j]? = some e' ∧ asame d k e'.1 = some true := by
 have simple : ∀ (hna : ∀ n e, d ≠ .array n e) (hu : P.underlying key = some d), match q with
  | none => (Instr.findKey key k ents).run P w = .ok none w
  | some (j, x) => ∃ u, (Instr.findKey key k ents).run P w = .ok (some (j, u)) w ∧ V μ w x u ∧ ∃ e', es[j]? = some e' ∧ asame d k e'.1 = some true := by
  intro hna hu
  have := find_V hna hm q e
  cases q with
  | none => exact findKey_run hu this
  | some jx =>
   obtain ⟨u, h1, h2, _, e', h3, h4⟩ := this
   exact ⟨u, findKey_run hu h1, h2, e', by simpa using h3, by rw [asame_simple hna]; exact h4⟩
 have hu := (checkKey_run (w := w) (b := false) hd (afind_key e)).2
 unfold simpleKey at hd
 split at hd
 ·cases hd; exact simple (fun _ _ h => by cases h) hu
 ·cases hd; exact simple (fun _ _ h => by cases h) hu
 ·cases hd; exact simple (fun _ _ h => by cases h) hu
 ·rename_i n el hu0
  split at hd
  ·rename_i ha
   cases hd
   obtain ⟨rfl, ⟨kk, he⟩, hs, hag, _⟩ := arrOK_eq ha
   have := findAsking_run (w := w) hu he hs hag hm q e
   cases ents with
   | nil =>
    obtain ⟨h1, h2⟩ := hm
    have h1' : es = [] := by simpa using h1.symm
    subst h1'
    simp only [afind] at e
    split at e
    ·cases e
     simp only [Instr.findKey, Sem.run_bind, run_underlying hu, Result.andThen_ok, Instr.findNow, Sem.run_pure]
    ·cases e
   | cons en ents =>
    have hn : Instr.findNow (.array 2 el) k (en :: ents) 0 = none := by
     simp only [Instr.findNow, Instr.sameNow]
    cases q with
    | none => simp only [Instr.findKey, Sem.run_bind, run_underlying hu, Result.andThen_ok, hn]; exact this
    | some jx =>
     obtain ⟨u, h1, h2, _, e', h3, h4⟩ := this
     exact ⟨u, by simp only [Instr.findKey, Sem.run_bind, run_underlying hu, Result.andThen_ok, hn]; exact h1, h2, e', by simpa using h3, h4⟩
  ·cases hd
 ·cases hd
def mapOf (C : Nat → Option AObj) : AV → Option (List (Value × AV))
 | .mp o => match C o with
  | some (.map es) => some es
  | _ => none
 | .v (.map none) => some []
 | _ => none
def alookup (P : Program) (C : Nat → Option AObj) (t : TypeId) (m k : AV) (ok : Bool) : Option AV :=
 match P.underlying t, mapOf C m, lit k with
 | some (.map key elem), some es, some kv => match simpleKey P key with
  | some kind => match afind kind kv es 0 with
   | some (some (_, x)) => some (if ok then .tup [x, .v (.bool true)] else x)
   | some none => match azeroV P elem with
    | some x => some (if ok then .tup [x, .v (.bool false)] else x)
    | none => none
   | none => none
  | none => none
 | _, _, _ => none
theorem map_open {C : Nat → Option AObj} (r : ObjsOk μ w C) {m : AV} {u : Value} {es : List (Value × AV)} (hv : V μ w m u) (e : mapOf C m = some es) :
  ∃ ents : Array MapEntry, MRel μ w es ents.toList ∧ ((u = .map none ∧ ents = #[]) ∨ ∃ b clock, u = .map (some b) ∧ w.heap[b]? = some (.map ents clock) ∧ Born ents clock) := by
 unfold mapOf at e
 split at e
 ·rename_i o
  split at e
  ·rename_i es' ho
   cases e
   simp only [V] at hv
   obtain ⟨b, hb, rfl⟩ := hv
   obtain ⟨ob, hob, hor⟩ := r o b hb
   rw [ho] at hob; cases hob
   obtain ⟨ents, clock, hh, hB, h1, h2⟩ := hor
   exact ⟨ents, ⟨h1, h2⟩, .inr ⟨b, clock, rfl, hh, hB⟩⟩
  ·cases e
 ·cases e
  simp only [V] at hv
  exact ⟨#[], ⟨rfl, by simp [Vs]⟩, .inl ⟨hv.2, rfl⟩⟩
 ·cases e
theorem lookup_run {C : Nat → Option AObj} (r : ObjsOk μ w C) {t : TypeId} {m k x : AV} {um uk : Value} {ok : Bool} (hm : V μ w m um) (hk : V μ w k uk) (e : alookup P C t m k ok = some x) :
  ∃ u, (Instr.lookup t um uk ok).run P w = .ok u w ∧ V μ w x u := by
 unfold alookup at e
 split at e
 ·rename_i key elem es kv hu hes hlk
  obtain rfl := lit_eq _ _ _ hlk hk
  split at e
  ·rename_i kind hkind
   obtain ⟨ents, hrel, hents⟩ := map_open r hm hes
   split at e
   ·rename_i j y hf
    cases e
    have hck := (checkKey_run (w := w) (k := uk) (b := ents.isEmpty) hkind (afind_key hf)).1
    have := findKey_V (w := w) hkind hrel hf
    obtain ⟨u, hfk, hv, _⟩ := this
    rcases hents with ⟨rfl, rfl⟩ | ⟨b, clock, rfl, hh, _⟩
    ·refine ⟨if ok then .tuple #[u, .bool true] else u, ?_, ?_⟩
     ·simp only [Instr.lookup, Sem.run_bind, run_underlying hu, Result.andThen_ok, Sem.run_pure, hck, hfk]
     ·cases ok <;> simp [V, Vs, hv, plain]
    ·refine ⟨if ok then .tuple #[u, .bool true] else u, ?_, ?_⟩
     ·simp only [Instr.lookup, Sem.run_bind, run_underlying hu, Result.andThen_ok, Sem.run_pure, getObj, Sem.run, hh, hck, hfk]
     ·cases ok <;> simp [V, Vs, hv, plain]
   ·rename_i hf
    have hck := (checkKey_run (w := w) (k := uk) (b := ents.isEmpty) hkind (afind_key hf)).1
    have hfk := findKey_V (w := w) hkind hrel hf
    simp only at hfk
    split at e
    ·rename_i y hz
     cases e
     obtain ⟨z, hzr, hv⟩ := azeroV_V (μ := μ) (w := w) hz
     rcases hents with ⟨rfl, rfl⟩ | ⟨b, clock, rfl, hh, _⟩
     ·refine ⟨if ok then .tuple #[z, .bool false] else z, ?_, ?_⟩
      ·simp only [Instr.lookup, Sem.run_bind, run_underlying hu, Result.andThen_ok, Sem.run_pure, hck, hfk, hzr]
      ·cases ok <;> simp [V, Vs, hv, plain]
     ·refine ⟨if ok then .tuple #[z, .bool false] else z, ?_, ?_⟩
      ·simp only [Instr.lookup, Sem.run_bind, run_underlying hu, Result.andThen_ok, Sem.run_pure, getObj, Sem.run, hh, hck, hfk, hzr]
      ·cases ok <;> simp [V, Vs, hv, plain]
    ·cases e
   ·cases e
  ·cases e
 ·cases e
def amapUpdate (P : Program) (h : AH) (t : TypeId) (m k x : AV) : Option AH :=
 match P.underlying t, m, lit k with
 | some (.map key _), .mp o, some kv => match h.get o, simpleKey P key with
  | some (.map es), some kind => match afind kind kv es 0 with
   | some (some (j, _)) => some (h.set o (.map (es.set j (kv, x))))
   | some none => some (h.set o (.map (es ++ [(kv, x)])))
   | none => none
  | _, _ => none
 | _, _, _ => none
theorem sameBits_now {d : TypeDesc} {a b : Value} (e : Instr.sameNow d a b = some true) : Instr.sameBits 10000 b a = true := by
 unfold Instr.sameNow at e
 split at e
 ·split at e
  ·rename_i hk; simp at e; subst hk; subst e; simp [Instr.sameBits]
  ·cases e
 ·simp only [Option.some.injEq] at e; obtain rfl := (MapKept.bytes_beq _ _).1 e; simp [Instr.sameBits, (MapKept.bytes_beq _ _).2]
 ·simp at e; subst e; simp [Instr.sameBits]
 ·cases e
theorem sameBits_of {d : TypeDesc} {a b : Value} (e : asame d a b = some true) : Instr.sameBits 10000 b a = true := by
 unfold asame at e
 split at e
 ·cases h1 : pairOf a with
  | none => rw [h1] at e; simp at e
  | some p =>
   cases h2 : pairOf b with
   | none => rw [h1, h2] at e; simp at e
   | some q =>
    rw [h1, h2] at e
    simp only [Option.some.injEq, Bool.and_eq_true, beq_iff_eq] at e
    rw [pairOf_eq h1, pairOf_eq h2, e.1, e.2]
    show Instr.sameBits (9998 + 1 + 1) _ _ = true
    simp [Instr.sameBits]
 ·exact sameBits_now e
theorem setObj_run {b : Nat} {ents : Array MapEntry} {clock : Nat} (hh : w.heap[b]? = some (.map ents clock)) (o : Obj) : (setObj b o).run P w = .ok () { w with heap := w.heap.setIfInBounds b o } := by
 simp [setObj, Sem.run, hh]
theorem set_heap {b : Nat} (hb : b < w.heap.size) (o : Obj) : ({ w with heap := w.heap.setIfInBounds b o } : World).heap.size = w.heap.size ∧ ({ w with heap := w.heap.setIfInBounds b o } : World).heap[b]? = some o ∧ ∀ b', b' ≠ b → ({ w with heap := w.heap.setIfInBounds b o } : World).heap[b']? = w.heap[b']? :=
 ⟨by simp, by simp [hb], fun b' hne => by simp only []; rw [Array.getElem?_setIfInBounds_ne (fun e => hne e.symm)]⟩
theorem mapUpdate_res (r : R B0 G μ h w) {t : TypeId} {m k x : AV} {um uk ux : Value} {h' : AH} (hm : V μ w m um) (hk : V μ w k uk) (hx : V μ w x ux) (e : amapUpdate P h t m k x = some h') :
  ∃ w', (Instr.mapUpdate t um uk ux).run P w = .ok () w' ∧ Step B0 G μ h w μ h' w' := by
 unfold amapUpdate at e
 split at e
 ·rename_i key elem o kv hu hlk
  obtain rfl := lit_eq _ _ _ hlk hk
  split at e
  ·rename_i es kind hes hkind
   obtain ⟨ents, hrel, hents⟩ := map_open r.objs hm (show mapOf h.get (.mp o) = some es by simp [mapOf, hes])
   simp only [V] at hm
   obtain ⟨b, hb, rfl⟩ := hm
   obtain ⟨b', clock, hbb, hh, hB⟩ : ∃ b' clock, (Value.map (some b)) = .map (some b') ∧ w.heap[b']? = some (.map ents clock) ∧ Born ents clock := by
    rcases hents with ⟨h1, _⟩ | h1
    ·cases h1
    ·exact h1
   simp only [Value.map.injEq, Option.some.injEq] at hbb
   subst hbb
   have hlt := r.obj_lt hb
   obtain ⟨hr1, hr2⟩ := hrel
   split at e
   ·rename_i j y hf
    cases e
    have hck := (checkKey_run (w := w) (k := uk) (b := false) hkind (afind_key hf)).1
    obtain ⟨u, hfk, hv, ee, hee, hse⟩ := findKey_V (w := w) hkind ⟨hr1, hr2⟩ hf
    have hkey : ((ents[j]?).map (·.key)).getD uk = ee.1 := by
     have h3 : (ents.toList.map (·.key))[j]? = some ee.1 := by rw [hr1, List.getElem?_map, hee]; rfl
     rw [List.getElem?_map, Array.getElem?_toList] at h3
     rw [h3]; rfl
    refine ⟨_, ?_, step_set_obj r hb (set_heap hlt (.map (ents.modify j fun e => { e with key := uk, val := ux }) clock)) ⟨rfl, rfl, rfl⟩ fun w' hk' hb' => ⟨_, clock, hb', hB.modify j uk ux, ?_, ?_⟩⟩
    ·simp only [Instr.mapUpdate, Sem.run_bind, run_underlying hu, Result.andThen_ok, getObj, Sem.run, hh, hck, hfk, hkey, Instr.keyThatStays, sameBits_of hse, if_true, Sem.run_pure, setObj_run hh]
    ·rw [List.map_set, ← hr1]
     apply List.ext_getElem?
     intro q
     simp only [List.getElem?_map, List.getElem?_set, Array.getElem?_toList, Array.getElem?_modify, List.length_map, Array.length_toList]
     by_cases hq : j = q
     ·subst hq; simp; by_cases hj : j < ents.size <;> simp [hj]
     ·simp [hq]
    ·rw [List.map_set]
     have h4 := (Vs.mono (Le.refl _) hk' _ _ hr2).set j (V.mono (Le.refl _) hk' _ _ hx)
     have h5 : (ents.modify j fun e => { e with key := uk, val := ux }).toList.map (·.val) = (ents.toList.map (·.val)).set j ux := by
      apply List.ext_getElem?
      intro q
      simp only [List.getElem?_map, List.getElem?_set, Array.getElem?_toList, Array.getElem?_modify, List.length_map, Array.length_toList]
      by_cases hq : j = q
      ·subst hq; simp; by_cases hj : j < ents.size <;> simp [hj]
      ·simp [hq]
     rw [h5]; exact h4
   ·rename_i hf
    cases e
    have hck := (checkKey_run (w := w) (k := uk) (b := false) hkind (afind_key hf)).1
    have hfk := findKey_V (w := w) hkind ⟨hr1, hr2⟩ hf
    simp only at hfk
    refine ⟨_, ?_, step_set_obj r hb (set_heap hlt (.map (ents.push { key := uk, val := ux, born := clock }) (clock + 1))) ⟨rfl, rfl, rfl⟩ fun w' hk' hb' => ⟨_, clock + 1, hb', hB.push uk ux, ?_, ?_⟩⟩
    ·simp only [Instr.mapUpdate, Sem.run_bind, run_underlying hu, Result.andThen_ok, getObj, Sem.run, hh, hck, hfk, Sem.run_pure, setObj_run hh]
    ·simp [hr1]
    ·simp only [Array.toList_push, List.map_append, List.map_cons, List.map_nil]
     exact (Vs.mono (Le.refl _) hk' _ _ hr2).append (by simp only [Vs]; exact ⟨ux, [], rfl, V.mono (Le.refl _) hk' _ _ hx, rfl⟩)
   ·cases e
  ·cases e
 ·cases e
def alenOf (P : Program) (t : TypeId) (x : AV) (m : Option (List (Value × AV))) : Option AV :=
 match P.underlying t, x with
 | some (.slice _), .sl _ n _ => some (.v (.int .i64 n))
 | some (.slice _), .arr _ _ n => some (.v (.int .i64 n))
 | some .string, .v (.string s) => some (.v (.int .i64 s.size))
 | some (.array n _), _ => some (.v (.int .i64 n))
 | some (.map _ _), _ => m.map fun es => .v (.int .i64 es.length)
 | _, _ => none
def alen (P : Program) (C : Nat → Option AObj) (t : TypeId) (x : AV) : Option AV := alenOf P t x (mapOf C x)
theorem len_run {C : Nat → Option AObj} (r : ObjsOk μ w C) {t ty : TypeId} {x y : AV} {u : Value} (hv : V μ w x u) (e : alen P C t x = some y) : ∃ v, (Builtin.len_ #[t] ty #[u]).run P w = .ok v w ∧ V μ w y v := by
 unfold alen alenOf at e
 split at e
 ·rename_i el tok n cs hu
  cases e
  obtain ⟨A, c, rfl, _⟩ := sl_open' hv
  exact ⟨.int .i64 n, by simp [Builtin.len_, run_underlying hu, goInt], plain_V rfl⟩
 ·rename_i el o off n hu
  cases e
  simp only [V] at hv
  obtain ⟨b, c, _, rfl, _⟩ := hv
  exact ⟨.int .i64 n, by simp [Builtin.len_, run_underlying hu, goInt], plain_V rfl⟩
 ·rename_i s hu
  cases e
  simp only [V] at hv
  obtain ⟨_, rfl⟩ := hv
  exact ⟨.int .i64 s.size, by simp [Builtin.len_, run_underlying hu, goInt], plain_V rfl⟩
 ·rename_i n el hu
  cases e
  exact ⟨.int .i64 n, by simp [Builtin.len_, run_underlying hu, goInt], plain_V rfl⟩
 ·rename_i x d x2 key el hu
  cases hm : mapOf C x with
  | none => rw [hm] at e; simp at e
  | some es =>
   rw [hm] at e; simp at e; subst e
   obtain ⟨ents, ⟨hr1, _⟩, hents⟩ := map_open r hv hm
   have hl : es.length = ents.size := by have := congrArg List.length hr1; simp at this; omega
   rcases hents with ⟨rfl, rfl⟩ | ⟨b, clock, rfl, hh, _⟩
   ·exact ⟨.int .i64 0, by simp [Builtin.len_, run_underlying hu, goInt], by rw [hl]; exact plain_V rfl⟩
   ·exact ⟨.int .i64 ents.size, by simp [Builtin.len_, run_underlying hu, goInt, getObj, Sem.run, hh], by rw [hl]; exact plain_V rfl⟩
 ·cases e
end
end
end Go.Proofs.YtcjlpklgnknpgaaGreatDoor.Pg
