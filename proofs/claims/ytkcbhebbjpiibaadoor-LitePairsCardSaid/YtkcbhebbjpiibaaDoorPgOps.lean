/-
  Pg, part 3: the operations on abstract values, each with what the model's operation then does.
-/
import Derived.Test.YtkcbhebbjpiibaaDoorPgMem
import Derived.Laws.Sem
import Derived.Laws.Tables
import Derived.Laws.Entries
import Derived.Laws.CopyRow
import Derived.ChangeKeysEq
import Derived.Deep.MidRow
set_option linter.unusedVariables false
set_option linter.unusedSimpArgs false
namespace Go.Proofs.YtkcbhebbjpiibaaDoor.Pg
open Go

/-! ### Operations without memory -/
def pureRun {α : Type} (P : Program) : Sem α → Option α
  | .pure a => some a
  | .program k => pureRun P (k P)
  | .mark _ k => pureRun P k
  | _ => none
theorem pureRun_run {α : Type} {P : Program} {s : Sem α} {a : α} (h : pureRun P s = some a) (w : World) : s.run P w = .ok a w := by
  induction s generalizing w with
  | pure b => simp [pureRun] at h; subst h; rfl
  | program k ih => simp only [pureRun] at h; simp only [Sem.run]; exact ih P h w
  | mark m k ih => simp only [pureRun] at h; simp only [Sem.run]; exact ih h w
  | _ => simp [pureRun] at h
theorem pureRun_bind {α β : Type} (P : Program) (s : Sem α) (f : α → Sem β) : pureRun P (s >>= f) = (pureRun P s).bind fun a => pureRun P (f a) := by
  show pureRun P (s.bind f) = _
  induction s with
  | pure b => simp [Sem.bind, pureRun]
  | program k ih => simp only [Sem.bind, pureRun]; exact ih P
  | mark m k ih => simp only [Sem.bind, pureRun]; exact ih
  | _ => simp [Sem.bind, pureRun]
theorem pureRun_pure {α : Type} (P : Program) (a : α) : pureRun P (pure a : Sem α) = some a := rfl

theorem plain_V {μ : Mu} {w : World} {x : Value} (h : plain x = true) : V μ w (.v x) x := by simp [V, h]

mutual
theorem ofV_V {μ : Mu} {w : World} : ∀ (n : Nat) (x : Value) (y : AV), ofV n x = some y → V μ w y x
  | 0, _, _, h => by simp [ofV] at h
  | n + 1, x, y, h => by
    unfold ofV at h
    split at h
    · cases h; simp only [V]; exact ⟨trivial, trivial, trivial⟩
    · rename_i cs
      cases hc : ofVs n cs.toList with
      | none => rw [hc] at h; simp at h
      | some l => rw [hc] at h; simp at h; subst h; simp only [V]; exact ⟨cs, rfl, ofVs_Vs n _ _ hc⟩
    · rename_i t z
      cases hc : ofV n z with
      | none => rw [hc] at h; simp at h
      | some l => rw [hc] at h; simp at h; subst h; simp only [V]; exact ⟨z, rfl, ofV_V n _ _ hc⟩
    · rename_i f first cap
      cases h1 : ofVs n first.toList with
      | none => rw [h1] at h; simp at h
      | some l1 =>
        cases h2 : ofVs n cap.toList with
        | none => rw [h1, h2] at h; simp at h
        | some l2 => rw [h1, h2] at h; simp at h; subst h; simp only [V]; exact ⟨first, cap, rfl, ofVs_Vs n _ _ h1, ofVs_Vs n _ _ h2⟩
    · split at h
      · rename_i hp; cases h; exact plain_V hp
      · cases h
theorem ofVs_Vs {μ : Mu} {w : World} : ∀ (n : Nat) (x : List Value) (y : List AV), ofVs n x = some y → Vs μ w y x
  | 0, _, _, h => by simp [ofVs] at h
  | n + 1, [], y, h => by simp [ofVs] at h; subst h; simp only [Vs]
  | n + 1, x :: xs, y, h => by
    simp only [ofVs] at h
    cases h1 : ofV n x with
    | none => rw [h1] at h; simp at h
    | some a =>
      cases h2 : ofVs n xs with
      | none => rw [h1, h2] at h; simp at h
      | some b => rw [h1, h2] at h; simp at h; subst h; simp only [Vs]; exact ⟨x, xs, rfl, ofV_V n _ _ h1, ofVs_Vs n _ _ h2⟩
end

mutual
/-- A value without addresses. -/
def lit : AV → Option Value
  | .v x => some x
  | .agg cs => (lits cs).map fun l => .agg l.toArray
  | .ifc t x => (lit x).map (.iface t)
  | .sl .nil 0 [] => some (.slice none 0 0)
  | _ => none
def lits : List AV → Option (List Value)
  | [] => some []
  | x :: xs => match lit x, lits xs with
    | some y, some ys => some (y :: ys)
    | _, _ => none
end
mutual
theorem lit_eq {μ : Mu} {w : World} : ∀ (x : AV) (y u : Value), lit x = some y → V μ w x u → u = y
  | .v x, y, u, h, hv => by simp [lit] at h; subst h; simp only [V] at hv; exact hv.2
  | .agg cs, y, u, h, hv => by
    simp only [lit] at h
    cases hc : lits cs with
    | none => rw [hc] at h; simp at h
    | some l =>
      rw [hc] at h; simp at h; subst h
      simp only [V] at hv
      obtain ⟨us, rfl, hvs⟩ := hv
      rw [← lits_eq cs l _ hc hvs]
  | .ifc t x, y, u, h, hv => by
    simp only [lit] at h
    cases hc : lit x with
    | none => rw [hc] at h; simp at h
    | some l =>
      rw [hc] at h; simp at h; subst h
      simp only [V] at hv
      obtain ⟨us, rfl, hvs⟩ := hv
      rw [← lit_eq x l _ hc hvs]
  | .sl .nil 0 [], y, u, h, hv => by simp [lit] at h; subst h; simp only [V] at hv; exact hv.1
  | .sl .nil 0 (_ :: _), y, u, h, hv => by simp [lit] at h
  | .sl .nil (_ + 1) _, y, u, h, hv => by simp [lit] at h
  | .sl .none _ _, y, u, h, hv => by simp [lit] at h
  | .sl (.own _ _ _) _ _, y, u, h, hv => by simp [lit] at h
  | .ptr _ _, y, u, h, hv => by simp [lit] at h
  | .arr _ _ _, y, u, h, hv => by simp [lit] at h
  | .cptr _, y, u, h, hv => by simp [lit] at h
  | .mp _, y, u, h, hv => by simp [lit] at h
  | .fn _ _ _, y, u, h, hv => by simp [lit] at h
  | .tup _, y, u, h, hv => by simp [lit] at h
  | .any, y, u, h, hv => by simp [lit] at h
theorem lits_eq {μ : Mu} {w : World} : ∀ (x : List AV) (y u : List Value), lits x = some y → Vs μ w x u → u = y
  | [], y, u, h, hv => by simp [lits] at h; subst h; simp only [Vs] at hv; exact hv
  | x :: xs, y, u, h, hv => by
    simp only [lits] at h
    cases h1 : lit x with
    | none => rw [h1] at h; simp at h
    | some a =>
      cases h2 : lits xs with
      | none => rw [h1, h2] at h; simp at h
      | some b =>
        rw [h1, h2] at h; simp at h; subst h
        simp only [Vs] at hv
        obtain ⟨v, vs, rfl, hx, hxs⟩ := hv
        rw [lit_eq x a v h1 hx, lits_eq xs b vs h2 hxs]
end

def aev (G : Nat → Option (List AV)) (fr : Fr) : Operand → Option AV
  | .tmp t => some (fr.get t)
  | .const x => ofV 64 x
  | .global g => (G g).map .cptr
  | .func f => some (.fn (.func f) [] [])

section
variable {P : Program} {B0 : Nat} {G : Nat → Option (List AV)} {μ : Mu} {h : AH} {w : World}

def Glob (G : Nat → Option (List AV)) (μ : Mu) (w : World) : Prop := ∀ g cs, G g = some cs → Cells μ w cs g 0
def ObjsOk (μ : Mu) (w : World) (C : Nat → Option AObj) : Prop := ∀ o b, μ.obj o = some b → ∃ ob, C o = some ob ∧ ORel μ w ob b
theorem R.objs (r : R B0 G μ h w) : ObjsOk μ w h.get := fun o b e => (r.obj o b e).2
theorem aev_V (r : Glob G μ w) {fr : Fr} {a : Act} (f : FrRel μ w fr a) {x : Operand} {y : AV} (e : aev G fr x = some y) : V μ w y (a.eval x) := by
  cases x with
  | tmp t => simp only [aev, Option.some.injEq] at e; subst e; exact f.val t
  | const x => exact ofV_V _ _ _ e
  | global g =>
    simp only [aev] at e
    cases hg : G g with
    | none => rw [hg] at e; simp at e
    | some cs => rw [hg] at e; simp at e; subst e; simp only [V]; exact ⟨g, 0, rfl, r g cs hg⟩
  | func f => simp only [aev, Option.some.injEq] at e; subst e; simp only [V, Vs]; exact ⟨#[], #[], rfl, rfl, rfl⟩

/-- What an operation comes to. -/
def Res (P : Program) (B0 : Nat) (G : Nat → Option (List AV)) (μ : Mu) (h : AH) (w : World) (x : AV) (h' : AH) (s : Sem Value) : Prop :=
  ∃ u w' μ', s.run P w = .ok u w' ∧ Step B0 G μ h w μ' h' w' ∧ V μ' w' x u

/-- An operation on values without addresses. -/
def alit (P : Program) (G : Nat → Option (List AV)) (fr : Fr) (o : Oper) : Option AV :=
  if o.op.operands.all (fun x => ((aev G fr x).bind lit).isSome) then
    match pureRun P (execOp (fun x => ((aev G fr x).bind lit).getD undef) o) with
    | some (.value r) => ofV 64 r
    | _ => none
  else none
/-- The operands of an operation, known. -/
def OpsV (G : Nat → Option (List AV)) (μ : Mu) (w : World) (fr : Fr) (a : Act) (o : Oper) : Prop := ∀ x ∈ o.op.operands, ∀ y, aev G fr x = some y → V μ w y (a.eval x)
theorem FrRel.ops (gl : Glob G μ w) {fr : Fr} {a : Act} (f : FrRel μ w fr a) (o : Oper) : OpsV G μ w fr a o := fun _ _ _ e => aev_V gl f e
theorem alit_run {fr : Fr} {a : Act} {o : Oper} (f : OpsV G μ w fr a o) {x : AV} (hs : ∀ cs b, o.op ≠ .select cs b) (e : alit P G fr o = some x) :
    ∃ u, (execOp a.eval o).run P w = .ok (.value u) w ∧ V μ w x u := by
  unfold alit at e
  split at e
  · rename_i hall
    have hc : execOp a.eval o = execOp (fun x => ((aev G fr x).bind lit).getD undef) o := execOp_congr o hs fun y hy => by
      have := (Array.all_eq_true_iff_forall_mem.1 hall) y hy
      cases h1 : aev G fr y with
      | none => rw [h1] at this; simp at this
      | some z =>
        rw [h1] at this
        simp only [Option.bind_some] at this ⊢
        cases h2 : lit z with
        | none => rw [h2] at this; simp at this
        | some u => exact lit_eq z u _ h2 (f y hy z h1)
    rw [hc]
    split at e
    · rename_i u hr
      exact ⟨u, pureRun_run hr w, ofV_V _ _ _ e⟩
    · cases e
  · cases e

theorem cells_V {x : AV} {u : Value} (hv : V μ w x u) (hk : x.known = true) : Vs μ w x.cells u.cells.toList := by
  cases x with
  | agg cs => simp only [V] at hv; obtain ⟨us, rfl, h⟩ := hv; exact h
  | v x =>
    have h0 := hv
    simp only [V] at hv
    obtain ⟨hp, rfl⟩ := hv
    cases u <;> simp [plain] at hp <;> (simp only [AV.cells, Value.cells, Vs]; exact ⟨_, _, rfl, h0, rfl⟩)
  | sl tok n cs =>
    cases tok with
    | nil => have h0 := hv; simp only [V] at hv; obtain ⟨rfl, _⟩ := hv; simp only [AV.cells, Value.cells, Vs]; exact ⟨_, _, rfl, h0, rfl⟩
    | none => have h0 := hv; simp only [V] at hv; obtain ⟨A, c, rfl, _⟩ := hv; simp only [AV.cells, Value.cells, Vs]; exact ⟨_, _, rfl, h0, rfl⟩
    | own t k s => have h0 := hv; simp only [V] at hv; obtain ⟨b, off, c, i, rfl, _⟩ := hv; simp only [AV.cells, Value.cells, Vs]; exact ⟨_, _, rfl, h0, rfl⟩
  | ptr o off => have h0 := hv; simp only [V] at hv; obtain ⟨b, _, rfl⟩ := hv; simp only [AV.cells, Value.cells, Vs]; exact ⟨_, _, rfl, h0, rfl⟩
  | arr o off n => have h0 := hv; simp only [V] at hv; obtain ⟨b, c, _, rfl, _⟩ := hv; simp only [AV.cells, Value.cells, Vs]; exact ⟨_, _, rfl, h0, rfl⟩
  | cptr cs => have h0 := hv; simp only [V] at hv; obtain ⟨b, off, rfl, _⟩ := hv; simp only [AV.cells, Value.cells, Vs]; exact ⟨_, _, rfl, h0, rfl⟩
  | mp o => have h0 := hv; simp only [V] at hv; obtain ⟨b, _, rfl⟩ := hv; simp only [AV.cells, Value.cells, Vs]; exact ⟨_, _, rfl, h0, rfl⟩
  | fn f a b => have h0 := hv; simp only [V] at hv; obtain ⟨_, _, rfl, _⟩ := hv; simp only [AV.cells, Value.cells, Vs]; exact ⟨_, _, rfl, h0, rfl⟩
  | ifc t y => have h0 := hv; simp only [V] at hv; obtain ⟨_, rfl, _⟩ := hv; simp only [AV.cells, Value.cells, Vs]; exact ⟨_, _, rfl, h0, rfl⟩
  | tup vs => have h0 := hv; simp only [V] at hv; obtain ⟨_, rfl, _⟩ := hv; simp only [AV.cells, Value.cells, Vs]; exact ⟨_, _, rfl, h0, rfl⟩
  | any => simp [AV.known] at hk
theorem one_V {x : AV} {u : Value} (hv : V μ w x u) (h1 : x.one = true) : u.oneCell' = true := by
  cases x with
  | agg cs => simp [AV.one] at h1
  | tup cs => simp [AV.one] at h1
  | any => simp [AV.one] at h1
  | v x => simp only [V] at hv; obtain ⟨hp, rfl⟩ := hv; cases u <;> simp [plain] at hp <;> first | rfl | simp [AV.one] at h1
  | sl tok n cs =>
    cases tok with
    | nil => simp only [V] at hv; obtain ⟨rfl, _⟩ := hv; rfl
    | none => simp only [V] at hv; obtain ⟨A, c, rfl, _⟩ := hv; rfl
    | own t k s => simp only [V] at hv; obtain ⟨b, off, c, i, rfl, _⟩ := hv; rfl
  | ptr o off => simp only [V] at hv; obtain ⟨b, _, rfl⟩ := hv; rfl
  | arr o off n => simp only [V] at hv; obtain ⟨b, c, _, rfl, _⟩ := hv; rfl
  | cptr cs => simp only [V] at hv; obtain ⟨b, off, rfl, _⟩ := hv; rfl
  | mp o => simp only [V] at hv; obtain ⟨b, _, rfl⟩ := hv; rfl
  | fn f a b => simp only [V] at hv; obtain ⟨_, _, rfl, _⟩ := hv; rfl
  | ifc t y => simp only [V] at hv; obtain ⟨_, rfl, _⟩ := hv; rfl
theorem ones_V : ∀ {xs : List AV} {us : List Value}, Vs μ w xs us → xs.all AV.one = true → ∀ u ∈ us, u.oneCell' = true
  | [], us, hv, _, u, hu => by simp only [Vs] at hv; subst hv; simp at hu
  | x :: xs, us, hv, h1, u, hu => by
    simp only [Vs] at hv
    obtain ⟨v, vs, rfl, hx, hxs⟩ := hv
    simp only [List.all_cons, Bool.and_eq_true] at h1
    rcases List.mem_cons.1 hu with rfl | hu
    · exact one_V hx h1.1
    · exact ones_V hxs h1.2 u hu

/-! ### New variables -/
inductive Ev where
  | obj (ob : AObj)
  | row (n sz : Nat) (cs : List AV)
/-- What making something new comes to: a block of memory, and what stands for it. -/
def EvOk (μ : Mu) (w : World) (f : Nat → AV) (u : Value) (o : Obj) : Ev → Prop
  | .obj ob => (∀ μ' w', Le μ μ' → ComKeep μ w w' → w'.heap[w.heap.size]? = some o → ORel μ' w' ob w.heap.size) ∧ ∀ μ' w' id, μ'.obj id = some w.heap.size → V μ' w' (f id) u
  | .row n sz cs => ∃ vs ty sp, o = .cells vs ty (0, 0) ∧ cs.length = n * sz ∧ vs.size = n * sz + sp * sz ∧ Vs μ w cs (vs.toList.take (n * sz)) ∧ f = (fun t => .sl (.own t 0 sz) n cs) ∧ u = .slice (some ⟨w.heap.size, 0, none⟩) n (n + sp)
def EvRes (P : Program) (μ : Mu) (w : World) (ev : Ev) (f : Nat → AV) (s : Sem Value) : Prop :=
  ∃ u o w', s.run P w = .ok u w' ∧ HPush w w' o ∧ EvOk μ w f u o ev
theorem newVar_run {t : TypeId} {u : Value} : (newVar t u).run P w = .ok ⟨w.heap.size, 0, none⟩ { w with heap := w.heap.push (.cells u.cells t) } := rfl
theorem box_ev {t : TypeId} {x : AV} {u : Value} (hv : V μ w x u) (hkn : x.known = true) : EvRes P μ w (.obj (.cells t x.cells)) (fun id => .ptr id 0) (Instr.box t u) := by
  refine ⟨.pointer (some ⟨w.heap.size, 0, none⟩), .cells u.cells t, { w with heap := w.heap.push (.cells u.cells t) }, ?_, ⟨rfl, rfl, rfl, rfl⟩, ?_⟩
  · simp only [Instr.box, Sem.run_bind, newVar_run, Result.andThen_ok]; rfl
  · exact ⟨fun μ' w' hl hk hb => ⟨u.cells, hb, Vs.mono hl hk _ _ (cells_V hv hkn)⟩, fun μ' w' id h => by simp only [V]; exact ⟨_, h, rfl⟩⟩
def azero (P : Program) (t : TypeId) : Option (List AV) := ((P.info? t).bind (·.zero)).bind fun z => ofVs (z.cells.size + 64) z.cells.toList
theorem azero_V {t : TypeId} {cs : List AV} (e : azero P t = some cs) : ∃ z : Value, (zeroValue t).run P w = .ok z w ∧ Vs μ w cs z.cells.toList := by
  unfold azero at e
  cases h1 : P.info? t with
  | none => rw [h1] at e; simp at e
  | some i =>
    rw [h1] at e; simp only [Option.bind_some] at e
    cases h2 : i.zero with
    | none => rw [h2] at e; simp at e
    | some z =>
      rw [h2] at e; simp only [Option.bind_some] at e
      refine ⟨z, ?_, ofVs_Vs _ _ _ e⟩
      simp only [zeroValue, Sem.run_bind, run_typeInfo w h1, Result.andThen_ok, h2]; rfl
theorem alloc_ev {t : TypeId} {cs : List AV} (e : azero P t = some cs) : EvRes P μ w (.obj (.cells t cs)) (fun id => .ptr id 0) (Instr.alloc t true (.tuple #[])) := by
  obtain ⟨z, hz, hv⟩ := azero_V (μ := μ) (w := w) e
  refine ⟨.pointer (some ⟨w.heap.size, 0, none⟩), .cells z.cells t, { w with heap := w.heap.push (.cells z.cells t) }, ?_, ⟨rfl, rfl, rfl, rfl⟩, ?_⟩
  · simp only [Instr.alloc, Sem.run_bind, hz, newVar_run, Result.andThen_ok]; rfl
  · exact ⟨fun μ' w' hl hk hb => ⟨z.cells, hb, Vs.mono hl hk _ _ hv⟩, fun μ' w' id h => by simp only [V]; exact ⟨_, h, rfl⟩⟩

/-! ### Loads and stores -/
def isRow (P : Program) (t : TypeId) : Option Bool := (P.underlying t).map fun | .struct _ | .array _ _ => true | _ => false
theorem isRow_run {t : TypeId} {b : Bool} (e : isRow P t = some b) : (isAgg t).run P w = .ok b w := by
  unfold isRow at e
  cases hu : P.underlying t with
  | none => rw [hu] at e; simp at e
  | some d =>
    rw [hu] at e
    simp only [Option.map_some, Option.some.injEq] at e
    simp only [isAgg, Sem.run_bind, run_underlying hu, Result.andThen_ok]
    cases d <;> simp only at e <;> subst e <;> rfl
theorem size_run {t : TypeId} {i : TypeInfo} (hi : P.info? t = some i) : (sizeOf t).run P w = .ok i.size w := by
  rw [run_sizeOf w hi]; simp [Program.cellsOf, hi]
/-- What lies in some cells from one on. -/
def acut (P : Program) (t : TypeId) (cs : List AV) (off : Nat) : Option AV :=
  match isRow P t, P.info? t with
  | some true, some i => if ((cs.drop off).take i.size).length = i.size then some (.agg ((cs.drop off).take i.size)) else none
  | some false, some _ => cs[off]?
  | _, _ => none
def aload (P : Program) (C : Nat → Option AObj) (t : TypeId) : AV → Option AV
  | .ptr o off => match C o with
    | some (.cells _ cs) => acut P t cs off
    | _ => none
  | .cptr cs => acut P t cs 0
  | _ => none
theorem loadVar_res {t : TypeId} {cs : List AV} {off b o0 : Nat} {x : AV} (hc : ∀ i x, cs[i]? = some x → ∃ u, w.cell? ⟨b, o0 + i, none⟩ = some u ∧ V μ w x u) (e : acut P t cs off = some x) :
    ∃ u, (loadVar t ⟨b, o0 + off, none⟩).run P w = .ok u w ∧ V μ w x u := by
  unfold acut at e
  split at e
  · rename_i i hr hi
    split at e
    · rename_i hlen
      cases e
      have hex : ∃ us : List Value, us.length = i.size ∧ (∀ j v, us[j]? = some v → w.cell? ⟨b, o0 + off + j, none⟩ = some v) ∧ Vs μ w ((cs.drop off).take i.size) us := by
        have : ∀ l : List AV, (∀ j x, l[j]? = some x → ∃ u, w.cell? ⟨b, o0 + off + j, none⟩ = some u ∧ V μ w x u) →
            ∃ us : List Value, us.length = l.length ∧ (∀ j v, us[j]? = some v → w.cell? ⟨b, o0 + off + j, none⟩ = some v) ∧ Vs μ w l us := by
          intro l hl
          refine ⟨(List.range l.length).map fun j => (w.cell? ⟨b, o0 + off + j, none⟩).getD undef, by simp, fun j v hv => ?_, Vs.mk (by simp) fun j x u hx hu => ?_⟩
          · simp only [List.getElem?_map, Option.map_eq_some_iff] at hv
            obtain ⟨k, hk, rfl⟩ := hv
            have hj : j < l.length := by simpa using (List.getElem?_eq_some_iff.1 hk).1
            rw [List.getElem?_range hj] at hk
            cases hk
            obtain ⟨u, hu, _⟩ := hl j _ (List.getElem?_eq_getElem hj)
            rw [hu]; rfl
          · have hj : j < l.length := (List.getElem?_eq_some_iff.1 hx).1
            simp only [List.getElem?_map, List.getElem?_range hj, Option.map_some, Option.some.injEq] at hu
            obtain ⟨u', hu', hv⟩ := hl j x hx
            rw [hu'] at hu; simp at hu; subst hu; exact hv
        obtain ⟨us, h1, h2, h3⟩ := this ((cs.drop off).take i.size) fun j x hx => by
          rw [List.getElem?_take] at hx
          split at hx
          · rw [List.getElem?_drop] at hx
            have := hc _ x hx
            rw [← Nat.add_assoc] at this; exact this
          · cases hx
        exact ⟨us, by rw [h1, hlen], h2, h3⟩
      obtain ⟨us, hl, hcell, hV⟩ := hex
      refine ⟨.agg us.toArray, ?_, by simp only [V]; exact ⟨_, rfl, by simpa using hV⟩⟩
      have hld : (loadCells ⟨b, o0 + off, none⟩ us.length).run P w = .ok us.toArray w :=
        run_loadCells_list (P := P) w ⟨b, o0 + off, none⟩ us (fun j v hv => by rw [Addr.add_mid]; exact hcell j v hv)
      simp only [loadVar, Sem.run_bind, isRow_run hr, Result.andThen_ok, if_true, size_run hi, ← hl, hld]; rfl
    · cases e
  · rename_i i hr hi
    obtain ⟨u, hu, hv⟩ := hc off x e
    refine ⟨u, ?_, hv⟩
    simp only [loadVar, Sem.run_bind, isRow_run hr, Result.andThen_ok]
    simp [load, Sem.run, hu]
  · cases e
theorem load_run {C : Nat → Option AObj} (r : ObjsOk μ w C) {t : TypeId} {p x : AV} {u : Value} (hv : V μ w p u) (e : aload P C t p = some x) : ∃ v, (Instr.loadAt t u).run P w = .ok v w ∧ V μ w x v := by
  cases p with
  | ptr o off =>
    simp only [aload] at e
    simp only [V] at hv
    obtain ⟨b, hb, rfl⟩ := hv
    obtain ⟨ob, hob, hor⟩ := r o b hb
    rw [hob] at e
    cases ob with
    | cells ty cs =>
      simp only at e
      obtain ⟨vs, hvs, hV⟩ := hor
      obtain ⟨u, hu, hx⟩ := loadVar_res (P := P) (μ := μ) (w := w) (b := b) (o0 := 0) (fun i x hx => by
        obtain ⟨u, hu, hx⟩ := hV.get i x hx
        exact ⟨u, by rw [Nat.zero_add, cell_row hvs]; simpa using hu, hx⟩) e
      rw [Nat.zero_add] at hu
      exact ⟨u, by simp only [Instr.loadAt, Instr.sureAddr, Sem.run_bind, Sem.run_pure, Result.andThen_ok, hu], hx⟩
    | map es => cases e
    | dead => cases e
  | cptr cs =>
    simp only [aload] at e
    simp only [V] at hv
    obtain ⟨b, off, rfl, hc⟩ := hv
    obtain ⟨u, hu, hx⟩ := loadVar_res (P := P) (μ := μ) (w := w) (b := b) (o0 := off) (fun i x hx => (hc.get i x hx).2) e
    rw [Nat.add_zero] at hu
    exact ⟨u, by simp only [Instr.loadAt, Instr.sureAddr, Sem.run_bind, Sem.run_pure, Result.andThen_ok, hu], hx⟩
  | _ => simp [aload] at e

def splice (cs : List AV) (off : Nat) (xs : List AV) : List AV := cs.take off ++ xs ++ cs.drop (off + xs.length)
def astore (P : Program) (h : AH) (t : TypeId) (p x : AV) : Option AH :=
  match p with
  | .ptr o off => match h.get o, P.info? t with
    | some (.cells e cs), some i => if x.cells.length = i.size ∧ off + x.cells.length ≤ cs.length ∧ x.cells.all AV.one = true then some (h.set o (.cells e (splice cs off x.cells))) else none
    | _, _ => none
  | _ => none
theorem setRow_heap {w : World} {b : Nat} {vs vs' : Array Value} {e : TypeId} {fz : Nat × Nat} (hb : w.heap[b]? = some (.cells vs e fz)) :
    (w.setRow b vs').heap.size = w.heap.size ∧ (w.setRow b vs').heap[b]? = some (.cells vs' e fz) ∧ ∀ b', b' ≠ b → (w.setRow b vs').heap[b']? = w.heap[b']? := by
  refine ⟨by simp [World.setRow], ?_, fun b' hne => ?_⟩
  · simp [World.setRow, Array.getElem?_modify, hb]
  · simp only [World.setRow, Array.getElem?_modify]
    rw [if_neg (fun e => hne e.symm)]
theorem store_res (r : R B0 G μ h w) {t : TypeId} {p x : AV} {u v : Value} {h' : AH} (hp : V μ w p u) (hx : V μ w x v) (e : astore P h t p x = some h') :
    ∃ w', (Instr.storeAt t u v).run P w = .ok () w' ∧ Step B0 G μ h w μ h' w' := by
  cases p with
  | ptr o off =>
    simp only [astore] at e
    simp only [V] at hp
    obtain ⟨b, hb, rfl⟩ := hp
    obtain ⟨_, ob, hob, hor⟩ := r.obj o b hb
    rw [hob] at e
    cases ob with
    | cells ty cs =>
      cases hi : P.info? t with
      | none => rw [hi] at e; simp at e
      | some i =>
        rw [hi] at e
        simp only at e
        split at e
        · rename_i hc
          obtain ⟨h1, h2, h3⟩ := hc
          cases e
          obtain ⟨vs, hvs, hV⟩ := hor
          have hxs := cells_V hx (by cases x <;> first | rfl | simp [AV.cells, AV.one] at h3)
          have hxl := hxs.length
          have hVl := hV.length
          have hst := run_storeCells_at (P := P) b off ty v.cells.toList 0 vs w hvs (by rw [hxl]; simp at hVl; omega) (ones_V hxs h3)
          rw [Nat.add_zero] at hst
          obtain ⟨hs1, hs2, hs3⟩ := setRow_heap (vs' := (List.take off vs.toList ++ v.cells.toList ++ List.drop (off + v.cells.toList.length) vs.toList).toArray) hvs
          refine ⟨_, ?_, step_set_obj r hb ⟨hs1, hs2, hs3⟩ ⟨rfl, rfl, rfl⟩ fun w' hk hb' => ⟨_, hb', ?_⟩⟩
          · have hsz : v.cells.size = i.size := by rw [← h1, ← hxl]; simp
            simp only [Instr.storeAt, Instr.sureAddr, storeVar, Sem.run_bind, Sem.run_pure, Result.andThen_ok, size_run hi, ne_eq, hsz, not_true_eq_false, if_false, hst]
          · have := (((hV.take off).append hxs).append (hV.drop (off + x.cells.length)))
            rw [hxl]
            exact Vs.mono (Le.refl _) hk _ _ (by simpa [splice] using this)
        · cases e
    | map es => simp at e
    | dead => simp at e
  | _ => simp [astore] at e
end
end Go.Proofs.YtkcbhebbjpiibaaDoor.Pg
