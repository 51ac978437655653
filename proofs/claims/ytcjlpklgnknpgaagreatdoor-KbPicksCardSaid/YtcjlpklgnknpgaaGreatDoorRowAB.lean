/-
  What concepts and names read as; what is listed (three tables); the wrap.
-/
import Derived.Test.YtcjlpklgnknpgaaGreatDoorRowA
import Derived.Test.YtcjlpklgnknpgaaGreatDoorLj
import Derived.Below
import Derived.Carry
import Derived.Test.YtcjlpklgnknpgaaGreatDoorRows
import Derived.Test.YtcjlpklgnknpgaaGreatDoorTie
import Derived.ProofKit
import Derived.LaidMore
import Derived.OpenShut
import Derived.Stop.Joined
import Derived.Lay
import Derived.Shelf.Vars
import Derived.SevenTiedAt
set_option linter.unusedVariables false
set_option linter.unusedSimpArgs false
set_option maxRecDepth 100000
namespace Go.Proofs.YtcjlpklgnknpgaaGreatDoor.Pg
open Go
section
open Go Go.RowKit Go.ChangeShapes Go.WideShapes Go.ChangeAt
section
variable {H : Type} {enc : TypeId × Value → H} {W : World} {α β : Type}
def structL (P : Program) (t : TypeId) : Option (List (TypeId × Nat)) :=
 match P.underlying t with
 | some (.struct fs) => some (fs.toList.map fun f => (f.type, f.offset))
 | _ => none
theorem struct_of {P : Program} {t : TypeId} {L : List (TypeId × Nat)} (h : structL P t = some L) : ∃ fs, P.underlying t = some (.struct fs) ∧ fs.toList.map (fun f => (f.type, f.offset)) = L := by
 unfold structL at h
 split at h
 ·rename_i fs hu; exact ⟨fs, hu, by simpa using h⟩
 ·cases h
theorem decSt {P : Program} {t : TypeId} {L : List (TypeId × Nat)} {m : Nat} {e : α → List AV} {ok : α → Prop} (h : structL P t = some L) (hc : P.cellsOf t = m) (k : ∀ F, DF enc P W F L 0 m e ok) (F : Nat) : Dec enc P W F t m e ok := by
 obtain ⟨fs, hu, hL⟩ := struct_of h
 exact (DF.dec hu hL hc (k F)).mono (Nat.le_succ F)
theorem decL {P : Program} {t el : TypeId} {m : Nat} {e : α → List AV} {ok : α → Prop} (hu : P.underlying t = some (.slice el)) (hc : P.cellsOf el = m) (hm0 : 0 < m) (hb : 0 < P.bytesOf el) (hm : ∀ a, (e a).length = m) (h : ∀ F, Dec enc P W F el m e ok) (F : Nat) :
  Dec enc P W F t 1 (fun l : List α => [.sl .none l.length (encs e l)]) (fun l => l.length ≤ reachBytes ∧ ∀ a ∈ l, ok a) :=
 (dec_slice hu hc hm0 hb hm (h F)).mono (Nat.le_succ F)
theorem u_int : Tryz.prog.underlying 3 = some (.int .i64) := by kernel_rfl
theorem u_str : Tryz.prog.underlying 9 = some .string := by kernel_rfl
theorem c_int : Tryz.prog.cellsOf 3 = 1 := by kernel_rfl
theorem u_strs : Tryz.prog.underlying 22 = some (.slice 9) := by kernel_rfl
theorem u_cons : Tryz.prog.underlying 68 = some (.slice 71) := by kernel_rfl
theorem s_con : structL Tryz.prog 71 = some [(3, 0), (3, 1), (68, 2)] := by kernel_rfl
theorem s_nms : structL Tryz.prog 24 = some [(22, 0), (22, 1), (22, 2)] := by kernel_rfl
theorem c_one : Tryz.prog.cellsOf 9 = 1 ∧ Tryz.prog.cellsOf 22 = 1 ∧ Tryz.prog.cellsOf 68 = 1 := ⟨by kernel_rfl, by kernel_rfl, by kernel_rfl⟩
theorem c_recs : Tryz.prog.cellsOf 71 = 3 ∧ Tryz.prog.cellsOf 24 = 3 := ⟨by kernel_rfl, by kernel_rfl⟩
theorem b_pos : 0 < Tryz.prog.bytesOf 9 ∧ 0 < Tryz.prog.bytesOf 71 := by
 refine ⟨?_, ?_⟩ <;> exact of_decide_eq_true (by kernel_rfl)
theorem oks_of : ∀ {l : List Con}, (∀ a ∈ l, a.ok) → Con.oks l
 | [], _ => by simp only [Con.oks]
 | c :: l, h => by simp only [Con.oks]; exact ⟨h c List.mem_cons_self, oks_of fun a ha => h a (List.mem_cons_of_mem _ ha)⟩
theorem dec_con : ∀ F, Dec enc Tryz.prog W F 71 3 Con.enc Con.ok
 | 0 => fun fuel base sp held cs x hF h _ => by
  have : fuel = 0 := by omega
  subst this; simp [DataW.trod] at h
 | F + 1 => by
  have ih := dec_con F
  have hs := (dec_slice (enc := enc) u_cons c_recs.1 (by decide) b_pos.2 Con.len ih).mono (Nat.le_succ F)
  obtain ⟨fs, hu, hL⟩ := struct_of s_con
  refine (DF.dec hu hL c_recs.1 (DF_cons (dec_int u_int) c_int (DF_cons (dec_int u_int) c_int (DF_cons hs c_one.2.2 DF_nil)))).map (fun p => .mk p.1 p.2.1 p.2.2.1) (fun p => ?_) (fun p h => ?_)
  ·simp [Con.enc, Con.encs_eq]
  ·obtain ⟨h1, h2, ⟨h3, h4⟩, _⟩ := h
   simp only [Con.ok]
   exact ⟨h1, h2, by unfold reachBytes at h3; omega, oks_of h4⟩
theorem dec_nms (F : Nat) : Dec enc Tryz.prog W F 24 3 Nms.enc (fun n => n.ok ∧ n.short) := by
 have hl := decL (enc := enc) (W := W) u_strs c_one.1 (by decide) b_pos.1 (fun _ => rfl) (fun F => dec_str u_str)
 refine (decSt s_nms c_recs.2 (fun F => DF_cons (hl F) c_one.2.1 (DF_cons (hl F) c_one.2.1 (DF_cons (hl F) c_one.2.1 DF_nil))) F).map (fun p => ⟨p.1, p.2.1, p.2.2.1⟩) (fun p => ?_) (fun p h => ?_)
 ·have e : ∀ l : List ByteArray, encs (fun s => [STR s]) l = strs l := fun l => by
   induction l with
   | nil => rfl
   | cons s l ih => rw [encs_cons, ih]; rfl
  simp [Nms.enc, e]
 ·obtain ⟨⟨a1, a2⟩, ⟨b1, b2⟩, ⟨c1, c2⟩, _⟩ := h
  unfold reachBytes at a1 b1 c1
  refine ⟨⟨by simp only; omega, by simp only; omega, by simp only; omega⟩, fun l hl s hs => ?_⟩
  simp only [Nms.lists, List.mem_cons, List.not_mem_nil, or_false] at hl
  rcases hl with rfl | rfl | rfl
  ·exact a2 s hs
  ·exact b2 s hs
  ·exact c2 s hs
end
section
variable {H : Type} {enc : TypeId × Value → H} {P : Program} {W : World} {α β : Type}
theorem dec_sliceB {F : Nat} {t el : TypeId} {m : Nat} {e : α → List AV} {ok : α → Prop} (hu : P.underlying t = some (.slice el)) (hc : P.cellsOf el = m) (hm0 : 0 < m) (hb : 0 < P.bytesOf el) (hm : ∀ a, (e a).length = m) (h : Dec enc P W F el m e ok) :
  Dec enc P W (F + 1) t 1 (fun l : List α => [.sl .none l.length (encs e l)]) (fun l => l.length * P.bytesOf el ≤ reachBytes ∧ ∀ a ∈ l, ok a) := by
 intro fuel base sp held cs x hF ht hk
 rcases DataW.trod_slice hu ht with ⟨rfl, rfl⟩ | ⟨a, len, cap, elems, rest, n, rfl, rfl, rfl, hbl, hl, hcap, hlen, hel, _, _⟩
 ·exact ⟨[], ⟨by simp, by simp⟩, rfl, Vs_one (by simp only [V]; exact ⟨none, 0, rfl, Nat.le_refl _, fun q => absurd rfl q⟩)⟩
 ·simp only [DataW.weights, hu, List.mem_cons, List.mem_append] at hk
  obtain ⟨l, hl1, hl2⟩ := list_of (Q := fun i b => ok b ∧ Cells (muW W) W (e b) a.block (a.off + i * m) ∧ (0 < len → a.spot = none)) len fun i hi => by
   have he := hel i hi
   have hy : elems[i]? = some (elems[i]'(by omega)) := List.getElem?_eq_getElem (by omega)
   rw [hy, Option.bind_eq_some_iff] at he
   obtain ⟨cs', h1, h2⟩ := he
   rw [hc] at h1
   obtain ⟨b, k1, k2, k3⟩ := h n base sp held cs' _ (by omega) h2 (fun k hk' => hk k (.inr (.inl (weightsAll_mem (l := elems.map (·.1)) (i := i) (by simp [hy]) k hk'))))
   obtain ⟨g1, g2⟩ := cells_get h1
   refine ⟨b, k1, Cells.mk fun q y hq => ?_, fun _ => ?_⟩
   ·have hqm : q < m := by
     rw [← hm b]
     rcases Nat.lt_or_ge q (e b).length with q1 | q1
     ·exact q1
     ·rw [List.getElem?_eq_none q1] at hq; cases hq
    obtain ⟨v, e1, e2, _⟩ := g2 q hqm
    obtain ⟨u, e3, e4⟩ := k3.get q y hq
    rw [e1] at e3; cases e3
    rw [add_block, add_off] at e2
    exact ⟨World.block_lt_of_cell? W ⟨a.block, a.off + i * m + q, none⟩ e2, v, e2, e4⟩
   ·have he0 := hel 0 (by omega)
    have hy0 : elems[0]? = some (elems[0]'(by omega)) := List.getElem?_eq_getElem (by omega)
    rw [hy0, Option.bind_eq_some_iff] at he0
    obtain ⟨cs0, h10, _⟩ := he0
    rw [hc, Nat.zero_mul] at h10
    obtain ⟨_, _, _, g3⟩ := (cells_get h10).2 0 hm0
    simpa [Addr.add] using g3
  refine ⟨l, ⟨?_, fun b hb' => ?_⟩, rfl, Vs_one ?_⟩
  ·have := hk _ (.inl rfl)
   simp only [List.length_map] at this
   rw [hl1]
   exact Nat.le_trans (Nat.mul_le_mul_right _ (by omega)) this
  ·obtain ⟨i, hi⟩ := List.getElem?_of_mem hb'
   exact (hl2 i b hi).1
  ·simp only [V]
   refine ⟨some a, cap, by rw [hl1], by omega, fun hne => ?_⟩
   have hpos : 0 < l.length := by
    cases l with
    | nil => exact absurd encs_nil hne
    | cons _ _ => simp
   have h0 := hl2 0 _ (List.getElem?_eq_getElem hpos)
   have hsp := h0.2.2 (by omega)
   refine ⟨a.block, a.off, ?_, Cells_encs hm l _ _ fun i b hi => (hl2 i b hi).2.1⟩
   obtain ⟨x1, x2, x3⟩ := a
   simp only at hsp; subst hsp; rfl
theorem decLB {P : Program} {t el : TypeId} {m : Nat} {e : α → List AV} {ok : α → Prop} (hu : P.underlying t = some (.slice el)) (hc : P.cellsOf el = m) (hm0 : 0 < m) (hb : 0 < P.bytesOf el) (hm : ∀ a, (e a).length = m) (h : ∀ F, Dec enc P W F el m e ok) (F : Nat) :
  Dec enc P W F t 1 (fun l : List α => [.sl .none l.length (encs e l)]) (fun l => l.length * P.bytesOf el ≤ reachBytes ∧ ∀ a ∈ l, ok a) :=
 (dec_sliceB hu hc hm0 hb hm (h F)).mono (Nat.le_succ F)
theorem u_ints : Tryz.prog.underlying 43 = some (.slice 3) := by kernel_rfl
end
section
variable {m : GM} {W : World}
structure Laid (m : GM) (W : World) : Prop where
 max : W.cell? ⟨1, 0, none⟩ = some (.int .i64 m.n)
 args : ∀ (i : Nat) (x : Int), [(0 : Int), 0, 0, 1, 2, 2, 1, 1][i]? = some x → W.cell? ⟨0, i, none⟩ = some (.int .i64 x)
 more : ∀ g cs, m.more g = some cs → Cells (muW W) W cs g 0
theorem cells_ints {W : World} {b : Nat} {l : List Int} (q : ∀ (i : Nat) (x : Int), l[i]? = some x → W.cell? ⟨b, i, none⟩ = some (.int .i64 x)) : Cells (muW W) W (ints l) b 0 :=
 Cells.mk fun i x hx => by
  unfold ints at hx
  rw [List.getElem?_map, Option.map_eq_some_iff] at hx
  obtain ⟨y, hy, rfl⟩ := hx
  have := q i y hy
  rw [Nat.zero_add]
  exact ⟨World.block_lt_of_cell? W ⟨b, i, none⟩ this, _, this, by simp [V, plain]⟩
theorem Laid.glob (h : Laid m W) : ∀ g cs, GG m g = some cs → Cells (muW W) W cs g 0 := by
 intro g cs e
 unfold GG at e
 split at e
 ·rename_i hg; subst hg; cases e
  refine cells_ints (l := [m.n]) fun i x hx => ?_
  cases i with
  | zero => simp at hx; subst hx; exact h.max
  | succ i => simp at hx
 ·split at e
  ·rename_i hg; subst hg; cases e
   exact cells_ints (l := [0, 0, 0, 1, 2, 2, 1, 1]) h.args
  ·exact h.more g cs e
theorem rel_start (h : Laid m W) : R W.heap.size (GG m) (muW W) AH.empty W where
 base := Nat.le_refl _
 obj := fun o b e => by cases e
 inj := fun o o' b e => by cases e
 com := fun b off e => ⟨(fun o q => by cases q), (fun t i q => by cases q), e⟩
 tok := fun t i e => by cases e
 tinj := fun t t' i i' e => by cases e
 sep := fun t i o e => by cases e
 next := fun o _ => rfl
 tnext := fun o _ => rfl
 glob := h.glob
theorem law_calls {f : FuncId} {avs : List AV} {vs : List Value} (hJ : ∀ j, JC Tryz.prog (GG m) f avs j (RET (BOO true) j)) (h : Laid m W) (hv : Vs (muW W) W avs vs) :
  Calls Tryz.prog f vs.toArray W fun e W' => e = .returned (.bool true) ∧ Below W.heap.size W W' := by
 refine (hJ _ AH.empty rfl W.heap.size (muW W) W vs (rel_start h) hv).mono ?_
 rintro e W' ⟨out, h', ⟨rfl, _⟩, μ', st, u, rfl, hu⟩
 simp only [V] at hu
 refine ⟨by rw [hu.2], st.env.1, st.env.2.1, st.env.2.2, st.size, fun k hk => st.keep k hk (fun o q => by cases q) (fun t i q => by cases q)⟩
end
theorem rowOwn : ownKnob Tryz.prog.godebug = none := by kernel_rfl
theorem rowLaidOut : laidOutB Tryz.prog = true := by kernel_rfl
abbrev rowLaid : List (String × DataW Unit) := [("unicode/utf8.acceptRanges", Rows.laid_unicode_utf8_acceptRanges), ("isagoge/concept.args", Rows.laid_isagoge_concept_args), ("unicode/utf8.first", Rows.laid_unicode_utf8_first)]
theorem gArgs : Tryz.prog.globalNamed "isagoge/concept.args" = some 0 := by kernel_rfl
theorem tArgs : (Tryz.prog.globals[0]?).map (·.type) = some 190 := by kernel_rfl
theorem uArr : Tryz.prog.underlying 190 = some (.array 8 3) := by kernel_rfl
theorem of_table {W : World} {n : String} {g g0 : Nat} {t0 : TypeId} {cs0 : Array Value} {f0 : Nat} {p0 : List MemPlace} {l : List Int} (hl : l.length = 8) (hg : Tryz.prog.globalNamed n = some g) (ht : (Tryz.prog.globals[g]?).map (·.type) = some 190)
  (hg0 : Tryz.prog.globalNamed n = some g0) (ht0 : (Tryz.prog.globals[g0]?).map (·.type) = some t0) (hv0 : W.var? Tryz.prog n = some cs0)
  (hd0 : DataW.trod (fun _ => ()) Tryz.prog W 0 (fun _ => true) false f0 t0 cs0.toList = some ((.agg (l.map fun i => .lit (.int .i64 i)) : DataW Unit), p0)) : ∀ (i : Nat) (x : Int), l[i]? = some x → W.cell? ⟨g, i, none⟩ = some (.int .i64 x) := by
 obtain rfl := Option.some.inj (hg.symm.trans hg0)
 obtain rfl := Option.some.inj (ht.symm.trans ht0)
 obtain ⟨xs, m1, rfl, hx1, hlen, hn, hel⟩ := DataW.trod_array uArr hd0
 simp only [Prod.mk.injEq, DataW.agg.injEq] at hx1
 intro i x hx
 have hi : i < 8 := by
  rcases Nat.lt_or_ge i 8 with q | q
  ·exact q
  ·rw [List.getElem?_eq_none (by omega)] at hx; cases hx
 have h0 := hel i hi
 rw [c_int, Nat.mul_one] at h0
 have hy : xs[i]? = some (xs[i]'(by omega)) := List.getElem?_eq_getElem (by omega)
 rw [hy] at h0
 obtain ⟨n, e1, e2, _⟩ := DataW.trod_int u_int h0
 have hm : (xs.map (·.1))[i]? = some (.lit (.int .i64 n)) := by rw [List.getElem?_map, hy, e2]; rfl
 rw [← hx1.1, List.getElem?_map, hx] at hm
 have e3 : x = n := by simpa using hm
 subst e3
 have e4 : cs0.toList[i]? = some (.int .i64 x) := by
  have := congrArg (·[0]?) e1
  simpa [List.getElem?_take, List.getElem?_drop] using this
 have := World.var?_cell hg hv0 i
 rw [this]; simpa using e4
theorem max_cell {W : World} (h : W.ShapedOpen Tryz.prog) : ∃ m, W.cell? ⟨1, 0, none⟩ = some (.int .i64 m) :=
 cell_of_shapedOpen_int (t := 3) (zero := #[.int .i64 0]) h (of_decide_eq_true (by kernel_rfl)) (by kernel_rfl) rfl (by kernel_rfl) (by kernel_rfl) u_int
theorem laid_of {W : World} (h : laidMetH Tryz.prog rowLaid W) (hs : W.ShapedOpen Tryz.prog) : ∃ k : Int, Laid ⟨k, fun _ => none⟩ W := by
 obtain ⟨m, hm⟩ := max_cell hs
 rw [MakeChecks.laidMetH_plain _ _ _ (by kernel_rfl)] at h
 obtain ⟨ps, ⟨g0, t0, cs0, f0, p0, q0, hg0, ht0, hv0, hd0, ⟨g1, t1, cs1, f1, p1, q1, hg1, ht1, hv1, hd1, _⟩, _⟩, _⟩ := h
 exact ⟨m, hm, of_table rfl gArgs tArgs hg1 ht1 hv1 hd1, fun g cs e => by cases e⟩
theorem returns_laid {H : Type} {enc : TypeId × Value → H} {a : Assume} {C : Checked} {os : Os} {f : FuncId} {fn : Func} {s : ChangeSpec} {conds : List PathCond} {apart fresh handsOn again : Bool} {X : World → Array Value → Prop}
  (hX : ∀ (w w' : World) (args : Array Value), w.heap = w'.heap → X w args → X w' args)
  (own : ownKnob C.prog.godebug = none) (started : os.Started) (noInit : C.prog.inits.idxOf? f = none) (hfn : C.prog.funcs[f]? = some fn)
  (witness : ∃ (w : World) (tape : Tape) (i : Input), w.os = os ∧ (w.forCall tape i).Shaped C.prog ∧ i.vars = [] ∧ Input.okWide C.prog (w.forCall tape i) .any w.heap.size f i ∧
   ((s.pre enc C.prog fn conds apart (w.forCall tape i).memory i.args ∧ X (w.forCall tape i).memory i.args) ∧ sizedMet enc C.prog fn (OpenSpec.ofChange s) apart (w.forCall tape i).memory i.args) ∧ a.holds C.prog (lone (Frame.enter C.prog f i.args .normal) [] (w.forCall tape i)))
  (contract : ∀ (W : World) (base : Nat) (args : Array Value) (ds gs : List (DataW H)) (before : List MemPlace),
   (∀ (j : Nat) t v, fn.params[j]? = some t → args[j]? = some v → Value.okWide C.prog W .any base t v) →
   DataW.Whole enc C.prog fn.params.toList s.vars apart W args.toList ds gs before →
   (DataW.weightsEach C.prog (fn.params.toList ++ s.plain.varTypes C.prog) (ds ++ gs)).all (· ≤ reachBytes) = true → X W args → W.ShapedOpen C.prog →
   Calls C.prog f args W fun e W' => ∃ v, e = .returned v ∧ s.post enc C.prog fn apart fresh handsOn again W args v W') :
  ReturnsInHanded a C os f .any (fun w args => (s.pre enc C.prog fn conds apart w args ∧ X w args) ∧ sizedMet enc C.prog fn (OpenSpec.ofChange s) apart w args) (s.post enc C.prog fn apart fresh handsOn again) := by
 refine returnsInHanded_of_calls own started noInit witness ?_
 intro w tape i _ hsh _ hok hpre _
 obtain ⟨_, _, _, fn', hfn', _, _, _, _, hval⟩ := hok
 have e : fn' = fn := Option.some.inj (hfn'.symm.trans hfn)
 subst e
 obtain ⟨⟨⟨ds, gs, before, hw, hc⟩, hx⟩, hz⟩ := hpre
 have hw' := DataW.Whole.of_heap (w' := w.forCall tape i) (by rfl) hw
 refine (contract (w.forCall tape i) w.heap.size i.args ds gs before hval hw' (hz.weights hw) (hX _ _ _ (by rfl) hx) hsh).mono fun e W' ⟨v, he, hp⟩ => ?_
 subst he
 exact ChangeSpec.post_blind hp
theorem u_bool : Tryz.prog.underlying 4 = some .bool := by kernel_rfl
theorem shut_true {H : Type} {enc : TypeId × Value → H} {W : World} {base : Nat} {sp : Nat → Bool} {held : Bool} : DataW.Trod enc Tryz.prog W base sp held 4 (.bool true) (.lit (.bool true)) [] := ⟨1, by simp [DataW.trod, Value.cells, u_bool]⟩
section
variable {H : Type} {enc : TypeId × Value → H} {P : Program} {w : World} {base : Nat} {spare : Nat → Bool} {held : Bool}
end
theorem agg_V {H : Type} {enc : TypeId × Value → H} {W : World} {α : Type} {t : TypeId} {n : Nat} {e : α → List AV} {ok : α → Prop} (hD : ∀ F, Dec enc Tryz.prog W F t n e ok) {base : Nat} {v : Value} {d : DataW H} {p : List MemPlace} {sp : Nat → Bool} {held : Bool}
  (hs : ∃ cs, v = .agg cs) (h : DataW.Trod enc Tryz.prog W base sp held t v d p) (hw : ∀ k ∈ d.weights Tryz.prog t, k ≤ reachBytes) : ∃ a, ok a ∧ V (muW W) W (.agg (e a)) v := by
 obtain ⟨cs, rfl⟩ := hs
 obtain ⟨F, hF⟩ := h
 obtain ⟨a, h1, h2, h3⟩ := hD F F base sp held _ _ (Nat.le_refl F) hF hw
 exact ⟨a, h1, by simp only [V]; exact ⟨cs, rfl, h3⟩⟩
theorem struct_agg {W : World} {base : Nat} {t : TypeId} {L : List (TypeId × Nat)} {v : Value} (hs : structL Tryz.prog t = some L) (h : Value.okWide Tryz.prog W .any base t v) : ∃ cs, v = .agg cs := by
 obtain ⟨fs, hu, _⟩ := struct_of hs
 unfold Value.okWide at h
 rw [hu] at h
 obtain ⟨cs, e, _⟩ := h
 exact ⟨cs, e⟩
theorem sca_int {W : World} {base : Nat} {v : Value} (h : Value.okWide Tryz.prog W .any base 3 v) : ∃ n, R64 n ∧ V (muW W) W (I64 n) v := by
 unfold Value.okWide at h
 rw [u_int] at h
 simp only at h
 unfold Cell.okWide Cell.ok at h
 rw [u_int] at h
 cases v <;> first | (exact h.elim; done) | skip
 rename_i k n
 obtain ⟨rfl, h⟩ := h
 refine ⟨n, ?_, by simp [V, plain]⟩
 have h1 : IntKind.i64.min = -9223372036854775808 := by decide
 have h2 : IntKind.i64.max = 9223372036854775807 := by decide
 unfold IntKind.has at h
 rw [h1, h2] at h
 exact h
end
section
open Go Go.RowKit Go.ChangeShapes Go.WideShapes Go.ChangeAt
section
variable {H : Type} {enc : TypeId × Value → H} {W : World}
theorem u_incls : Tryz.prog.underlying 25 = some (.slice 113) := by kernel_rfl
theorem u_rols : Tryz.prog.underlying 26 = some (.slice 116) := by kernel_rfl
theorem u_facts : Tryz.prog.underlying 27 = some (.slice 118) := by kernel_rfl
theorem u_links : Tryz.prog.underlying 28 = some (.slice 120) := by kernel_rfl
theorem s_inc : structL Tryz.prog 113 = some [(71, 0), (71, 3)] := by kernel_rfl
theorem s_rin : structL Tryz.prog 116 = some [(3, 0), (3, 1)] := by kernel_rfl
theorem s_fac : structL Tryz.prog 118 = some [(3, 0), (71, 1)] := by kernel_rfl
theorem s_lnk : structL Tryz.prog 120 = some [(3, 0), (3, 1), (3, 2)] := by kernel_rfl
theorem s_bas : structL Tryz.prog 30 = some [(24, 0), (25, 3), (26, 4), (27, 5), (28, 6)] := by kernel_rfl
theorem k_one : Tryz.prog.cellsOf 25 = 1 ∧ Tryz.prog.cellsOf 26 = 1 ∧ Tryz.prog.cellsOf 27 = 1 ∧ Tryz.prog.cellsOf 28 = 1 := ⟨by kernel_rfl, by kernel_rfl, by kernel_rfl, by kernel_rfl⟩
theorem k_recs : Tryz.prog.cellsOf 113 = 6 ∧ Tryz.prog.cellsOf 116 = 2 ∧ Tryz.prog.cellsOf 118 = 4 ∧ Tryz.prog.cellsOf 120 = 3 ∧ Tryz.prog.cellsOf 30 = 7 := ⟨by kernel_rfl, by kernel_rfl, by kernel_rfl, by kernel_rfl, by kernel_rfl⟩
theorem k_pos : 0 < Tryz.prog.bytesOf 113 ∧ 0 < Tryz.prog.bytesOf 116 ∧ 0 < Tryz.prog.bytesOf 118 ∧ 0 < Tryz.prog.bytesOf 120 := by
 refine ⟨?_, ?_, ?_, ?_⟩ <;> exact of_decide_eq_true (by kernel_rfl)
theorem dec_inc (F : Nat) : Dec enc Tryz.prog W F 113 6 Inc.enc (fun x => x.sub.ok ∧ x.sup.ok) :=
 (decSt s_inc k_recs.1 (fun F => DF_cons (dec_con F) c_recs.1 (DF_cons (dec_con F) c_recs.1 DF_nil)) F).map (fun p => ⟨p.1, p.2.1⟩) (fun p => by simp [Inc.enc]) (fun p h => ⟨h.1, h.2.1⟩)
theorem dec_rin (F : Nat) : Dec enc Tryz.prog W F 116 2 RIn.enc (fun x => R64 x.sub ∧ R64 x.sup) :=
 (decSt s_rin k_recs.2.1 (fun F => DF_cons (dec_int u_int) c_int (DF_cons (dec_int u_int) c_int DF_nil)) F).map (fun p => ⟨p.1, p.2.1⟩) (fun p => rfl) (fun p h => ⟨h.1, h.2.1⟩)
theorem dec_fac (F : Nat) : Dec enc Tryz.prog W F 118 4 Fac.enc (fun x => R64 x.ind ∧ x.con.ok) :=
 (decSt s_fac k_recs.2.2.1 (fun F => DF_cons (dec_int u_int) c_int (DF_cons (dec_con F) c_recs.1 DF_nil)) F).map (fun p => ⟨p.1, p.2.1⟩) (fun p => by simp [Fac.enc]) (fun p h => ⟨h.1, h.2.1⟩)
theorem dec_lnk (F : Nat) : Dec enc Tryz.prog W F 120 3 Lnk.enc (fun x => R64 x.role ∧ R64 x.fr ∧ R64 x.to) :=
 (decSt s_lnk k_recs.2.2.2.1 (fun F => DF_cons (dec_int u_int) c_int (DF_cons (dec_int u_int) c_int (DF_cons (dec_int u_int) c_int DF_nil))) F).map (fun p => ⟨p.1, p.2.1, p.2.2.1⟩) (fun p => rfl) (fun p h => ⟨h.1, h.2.1, h.2.2.1⟩)
theorem dec_bas (F : Nat) : Dec enc Tryz.prog W F 30 7 Bas.enc Bas.ok := by
 refine (decSt s_bas k_recs.2.2.2.2 (fun F => DF_cons (dec_nms F) c_recs.2 (DF_cons (decL u_incls k_recs.1 (by decide) k_pos.1 Inc.len dec_inc F) k_one.1
  (DF_cons (decL u_rols k_recs.2.1 (by decide) k_pos.2.1 RIn.len dec_rin F) k_one.2.1 (DF_cons (decL u_facts k_recs.2.2.1 (by decide) k_pos.2.2.1 Fac.len dec_fac F) k_one.2.2.1
  (DF_cons (decL u_links k_recs.2.2.2.1 (by decide) k_pos.2.2.2 Lnk.len dec_lnk F) k_one.2.2.2 DF_nil))))) F).map (fun p => ⟨p.1, p.2.1, p.2.2.1, p.2.2.2.1, p.2.2.2.2.1⟩) (fun p => ?_) (fun p h => ?_)
 ·simp [Bas.enc]
 ·obtain ⟨⟨a1, a2⟩, ⟨b1, b2⟩, ⟨c1, c2⟩, ⟨d1, d2⟩, ⟨e1, e2⟩, _⟩ := h
  unfold reachBytes at b1 c1 d1 e1
  exact ⟨a1, a2, by simp only; omega, by simp only; omega, by simp only; omega, by simp only; omega, b2, c2, d2, e2⟩
end
end
section
open Go
theorem encs_int : ∀ l : List Int, encs (fun i : Int => [I64 i]) l = ints l
 | [] => rfl
 | x :: l => by rw [encs_cons, encs_int l]; rfl
theorem b_int : Tryz.prog.bytesOf 3 = 8 := by kernel_rfl
theorem sca_ints {H : Type} {enc : TypeId × Value → H} {W : World} {base base0 : Nat} {v : Value} {d : DataW H} {p : List MemPlace} {sp : Nat → Bool} {held : Bool} (hok : Value.okWide Tryz.prog W .any base0 43 v)
  (h : DataW.Trod enc Tryz.prog W base sp held 43 v d p) (hw : ∀ k ∈ d.weights Tryz.prog 43, k ≤ reachBytes) : ∃ l : List Int, l.length < 4611686018427387904 ∧ V (muW W) W (.sl .none l.length (ints l)) v := by
 obtain ⟨F, hF⟩ := h
 have hi := decLB (enc := enc) (W := W) u_ints c_int (by decide) (by rw [b_int]; decide) (fun _ => rfl) (fun F => dec_int u_int) F
 unfold Value.okWide at hok
 rw [u_ints] at hok
 simp only at hok
 unfold Cell.okWide Cell.ok at hok
 rw [u_ints] at hok
 have hc : v.cells.toList = [v] := by cases v <;> first | rfl | exact hok.elim | (simp only at hok)
 rw [hc] at hF
 obtain ⟨l, ⟨h1, h2⟩, _, h3⟩ := hi F base sp held _ _ (Nat.le_refl F) hF hw
 have h3' : Vs (muW W) W [AV.sl Tok.none l.length (encs (fun i : Int => [I64 i]) l)] [v] := h3
 rw [encs_int] at h3'
 obtain ⟨u, us, e, h4, h5⟩ := h3'
 simp only [Vs] at h5
 subst h5
 obtain rfl := (List.cons.inj e).1
 rw [b_int] at h1
 unfold reachBytes at h1
 exact ⟨l, by omega, h4⟩
end
end Go.Proofs.YtcjlpklgnknpgaaGreatDoor.Pg
