/-
  What is listed, and the wrap: both the list and the world's shape are handed on.
-/
import Derived.Test.YtkcbhebbjpiibaaDoorRowB
import Derived.Test.YtkcbhebbjpiibaaDoorRows
import Derived.Test.YtkcbhebbjpiibaaDoorTie
import Derived.ProofKit
import Derived.LaidMore
import Derived.OpenShut
import Derived.Stop.Joined
import Derived.Lay
import Derived.Shelf.Vars
import Derived.SevenTiedAt
set_option linter.unusedVariables false
set_option linter.unusedSimpArgs false
set_option maxRecDepth 100000
namespace Go.Proofs.YtkcbhebbjpiibaaDoor.Pg
open Go Go.RowKit Go.ChangeShapes Go.WideShapes Go.ChangeAt
theorem rowOwn : ownKnob Tryd.prog.godebug = none := by kernel_rfl
theorem rowLaidOut : laidOutB Tryd.prog = true := by kernel_rfl
abbrev rowLaid : List (String × DataW Unit) := [("isagoge/concept.args", Rows.laid_isagoge_concept_args)]
theorem gArgs : Tryd.prog.globalNamed "isagoge/concept.args" = some 0 := by kernel_rfl
theorem tArgs : (Tryd.prog.globals[0]?).map (·.type) = some 150 := by kernel_rfl
theorem uArr : Tryd.prog.underlying 150 = some (.array 8 3) := by kernel_rfl
theorem of_laid {W : World} (h : laidMetH Tryd.prog rowLaid W) : ∀ (i : Nat) (x : Int), [(0 : Int), 0, 0, 1, 2, 2, 1, 1][i]? = some x → W.cell? ⟨0, i, none⟩ = some (.int .i64 x) := by
  rw [MakeChecks.laidMetH_plain _ _ _ (by kernel_rfl)] at h
  obtain ⟨ps, ⟨g0, t0, cs0, f0, p0, q0, hg0, ht0, hv0, hd0, _, _⟩, _, _⟩ := h
  obtain rfl := Option.some.inj (gArgs.symm.trans hg0)
  obtain rfl := Option.some.inj (tArgs.symm.trans ht0)
  obtain ⟨xs, m1, rfl, hx1, hlen, hn, hel⟩ := DataW.trod_array uArr hd0
  simp only [Rows.laid_isagoge_concept_args, Prod.mk.injEq, DataW.agg.injEq] at hx1
  intro i x hx
  have hi : i < 8 := by
    rcases Nat.lt_or_ge i 8 with q | q
    · exact q
    · rw [List.getElem?_eq_none (by simpa using q)] at hx; cases hx
  have h0 := hel i hi
  rw [c_int, Nat.mul_one] at h0
  have hy : xs[i]? = some (xs[i]'(by omega)) := List.getElem?_eq_getElem (by omega)
  rw [hy] at h0
  obtain ⟨n, e1, e2, _⟩ := DataW.trod_int u_int h0
  have hm : (xs.map (·.1))[i]? = some (.lit (.int .i64 n)) := by rw [List.getElem?_map, hy, e2]; rfl
  rw [← hx1.1] at hm
  have e3 : n = x := by
    have : i = 0 ∨ i = 1 ∨ i = 2 ∨ i = 3 ∨ i = 4 ∨ i = 5 ∨ i = 6 ∨ i = 7 := by omega
    rcases this with rfl | rfl | rfl | rfl | rfl | rfl | rfl | rfl <;> (simp at hm hx; omega)
  subst e3
  have e4 : cs0.toList[i]? = some (.int .i64 n) := by
    have := congrArg (·[0]?) e1
    simpa [List.getElem?_take, List.getElem?_drop] using this
  have := World.var?_cell hg0 hv0 i
  rw [this]; simpa using e4
theorem max_cell {W : World} (h : W.ShapedOpen Tryd.prog) : ∃ m, W.cell? ⟨1, 0, none⟩ = some (.int .i64 m) :=
  cell_of_shapedOpen_int (t := 3) (zero := #[.int .i64 0]) h (of_decide_eq_true (by kernel_rfl)) (by kernel_rfl) rfl (by kernel_rfl) (by kernel_rfl) u_int
theorem laid_of {W : World} (h : laidMetH Tryd.prog rowLaid W) (hs : W.ShapedOpen Tryd.prog) : ∃ m, Laid m W := by
  obtain ⟨m, hm⟩ := max_cell hs
  exact ⟨m, hm, of_laid h⟩
theorem returns_laid {H : Type} {enc : TypeId × Value → H} {a : Assume} {C : Checked} {os : Os} {f : FuncId} {fn : Func} {s : ChangeSpec} {conds : List PathCond} {apart fresh handsOn again : Bool} {X : World → Array Value → Prop}
    (hX : ∀ (w w' : World) (args : Array Value), w.heap = w'.heap → X w args → X w' args)
    (own : ownKnob C.prog.godebug = none) (started : os.Started) (noInit : C.prog.inits.idxOf? f = none) (hfn : C.prog.funcs[f]? = some fn)
    (witness : ∃ (w : World) (tape : Tape) (i : Input), w.os = os ∧ (w.forCall tape i).Shaped C.prog ∧ i.vars = [] ∧ Input.okWide C.prog (w.forCall tape i) .any w.heap.size f i ∧
      ((s.pre enc C.prog fn conds apart (w.forCall tape i).memory i.args ∧ X (w.forCall tape i).memory i.args) ∧ sizedMet enc C.prog fn (OpenSpec.ofChange s) apart (w.forCall tape i).memory i.args) ∧ a.holds C.prog (lone (Frame.enter C.prog f i.args .normal) [] (w.forCall tape i)))
    (contract : ∀ (W : World) (base : Nat) (args : Array Value) (ds gs : List (DataW H)) (before : List MemPlace),
      (∀ (j : Nat) t v, fn.params[j]? = some t → args[j]? = some v → Value.okWide C.prog W .any base t v) →
      DataW.Whole enc C.prog fn.params.toList s.vars apart W args.toList ds gs before →
      (DataW.weightsEach C.prog (fn.params.toList ++ s.plain.varTypes C.prog) (ds ++ gs)).all (· ≤ reachBytes) = true → X W args → W.ShapedOpen C.prog →
      Calls C.prog f args W fun e W' => ∃ v, e = .returned v ∧ s.post enc C.prog fn apart fresh handsOn again W args v W') :
    ReturnsInHanded a C os f .any (fun w args => (s.pre enc C.prog fn conds apart w args ∧ X w args) ∧ sizedMet enc C.prog fn (OpenSpec.ofChange s) apart w args) (s.post enc C.prog fn apart fresh handsOn again) := by
  refine returnsInHanded_of_calls own started noInit witness ?_
  intro w tape i _ hsh _ hok hpre _
  obtain ⟨_, _, _, fn', hfn', _, _, _, _, hval⟩ := hok
  have e : fn' = fn := Option.some.inj (hfn'.symm.trans hfn)
  subst e
  obtain ⟨⟨⟨ds, gs, before, hw, hc⟩, hx⟩, hz⟩ := hpre
  have hw' := DataW.Whole.of_heap (w' := w.forCall tape i) (by rfl) hw
  refine (contract (w.forCall tape i) w.heap.size i.args ds gs before hval hw' (hz.weights hw) (hX _ _ _ (by rfl) hx) hsh).mono fun e W' ⟨v, he, hp⟩ => ?_
  subst he
  exact ChangeSpec.post_blind hp
theorem u_bool : Tryd.prog.underlying 4 = some .bool := by kernel_rfl
theorem shut_true {H : Type} {enc : TypeId × Value → H} {W : World} {base : Nat} {sp : Nat → Bool} {held : Bool} : DataW.Trod enc Tryd.prog W base sp held 4 (.bool true) (.lit (.bool true)) [] := ⟨1, by simp [DataW.trod, Value.cells, u_bool]⟩
/-- A struct's value, by its reading. -/
theorem agg_V {H : Type} {enc : TypeId × Value → H} {W : World} {α : Type} {t : TypeId} {n : Nat} {e : α → List AV} {ok : α → Prop} (hD : ∀ F, Dec enc Tryd.prog W F t n e ok) {base : Nat} {v : Value} {d : DataW H} {p : List MemPlace} {sp : Nat → Bool} {held : Bool}
    (hs : ∃ cs, v = .agg cs) (h : DataW.Trod enc Tryd.prog W base sp held t v d p) (hw : ∀ k ∈ d.weights Tryd.prog t, k ≤ reachBytes) : ∃ a, ok a ∧ V (muW W) W (.agg (e a)) v := by
  obtain ⟨cs, rfl⟩ := hs
  obtain ⟨F, hF⟩ := h
  obtain ⟨a, h1, h2, h3⟩ := hD F F base sp held _ _ (Nat.le_refl F) hF hw
  exact ⟨a, h1, by simp only [V]; exact ⟨cs, rfl, h3⟩⟩
theorem struct_agg {W : World} {base : Nat} {t : TypeId} {L : List (TypeId × Nat)} {v : Value} (hs : structL Tryd.prog t = some L) (h : Value.okWide Tryd.prog W .any base t v) : ∃ cs, v = .agg cs := by
  obtain ⟨fs, hu, _⟩ := struct_of hs
  unfold Value.okWide at h
  rw [hu] at h
  obtain ⟨cs, e, _⟩ := h
  exact ⟨cs, e⟩
end Go.Proofs.YtkcbhebbjpiibaaDoor.Pg
