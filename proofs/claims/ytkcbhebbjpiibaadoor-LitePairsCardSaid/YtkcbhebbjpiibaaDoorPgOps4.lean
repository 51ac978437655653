/-
  Pg, part 6: append; maps; what builtin functions come to.
-/
import Derived.Test.YtkcbhebbjpiibaaDoorPgOps2
import Derived.MapKept
set_option linter.unusedVariables false
set_option linter.unusedSimpArgs false
namespace Go.Proofs.YtkcbhebbjpiibaaDoor.Pg
open Go
section
variable {P : Program} {B0 : Nat} {G : Nat → Option (List AV)} {μ : Mu} {h : AH} {w : World}

theorem Cells.values {cs : List AV} {b off : Nat} (hc : Cells μ w cs b off) : ∃ us : List Value, us.length = cs.length ∧ (∀ (j : Nat) v, us[j]? = some v → w.cell? ⟨b, off + j, none⟩ = some v) ∧ Vs μ w cs us := by
  refine ⟨(List.range cs.length).map fun j => (w.cell? ⟨b, off + j, none⟩).getD undef, by simp, fun j v hv => ?_, Vs.mk (by simp) fun j x u hx hu => ?_⟩
  · simp only [List.getElem?_map, Option.map_eq_some_iff] at hv
    obtain ⟨k, hk, rfl⟩ := hv
    have hj : j < cs.length := by simpa using (List.getElem?_eq_some_iff.1 hk).1
    rw [List.getElem?_range hj] at hk
    cases hk
    obtain ⟨_, u, hu, _⟩ := hc.get j _ (List.getElem?_eq_getElem hj)
    rw [hu]; rfl
  · have hj : j < cs.length := (List.getElem?_eq_some_iff.1 hx).1
    simp only [List.getElem?_map, List.getElem?_range hj, Option.map_some, Option.some.injEq] at hu
    obtain ⟨_, u', hu', hv⟩ := hc.get j x hx
    rw [hu'] at hu; simp at hu; subst hu; exact hv

def aappend (P : Program) (h : AH) (t : TypeId) (a b : AV) : Option (AV × AH) :=
  match P.underlying t, a, b with
  | some (.slice e), .sl tok n cs, .sl _ m cs' => match P.info? e, azero P e with
    | some i, some z =>
      if z.length = i.size ∧ 0 < i.size ∧ cs.length = n * i.size ∧ cs'.length = m * i.size ∧ cs'.all AV.one = true ∧ (n + m) * i.bytes ≤ 140737488355328 ∧ n + m ≤ 9223372036854775807 then
        if m = 0 then some (a, h)
        else match tok with
          | .nil => some (.sl (.own h.tnext 0 i.size) m cs', h.pushTok m)
          | .own tk k s => if h.tok tk = some (k + n) ∧ s = i.size then some (.sl (.own tk k s) (n + m) (cs ++ cs'), h.setTok tk (k + n + m)) else none
          | .none => none
      else none
    | _, _ => none
  | _, _, _ => none
theorem append_res (r : R B0 G μ h w) {t ty : TypeId} {a b x : AV} {ua ub : Value} {h' : AH} (ha : V μ w a ua) (hb : V μ w b ub) (e : aappend P h t a b = some (x, h')) :
    Res P B0 G μ h w x h' (Builtin.append_ #[t, t] ty #[ua, ub]) := by
  unfold aappend at e
  split at e
  · rename_i el tok n cs tok' m cs' hu
    split at e
    · rename_i i z hi hz
      split at e
      · rename_i hcond
        obtain ⟨c1, c2, c3, c4, c5, c6, c7⟩ := hcond
        obtain ⟨i', zz, hi', hiz, hzc⟩ := azero_info hz
        rw [hi] at hi'; cases hi'
        have hzV : Vs μ w z zz.cells.toList := ofVs_Vs _ _ _ hzc
        have hzl := hzV.length
        simp only [Array.length_toList] at hzl
        split at e
        · rename_i hm
          subst hm
          cases e
          obtain ⟨A, c, rfl, hc⟩ := sl_open' ha
          obtain ⟨B, d, rfl, hd⟩ := sl_open' hb
          refine ⟨_, w, μ, ?_, Step.refl r, ha⟩
          cases A <;> cases B <;> simp [Builtin.append_, run_underlying hu, sizeOf, typeInfo, hi, Builtin.lenOf, hc, Builtin.firstCells, loadCells, loadCellsFrom, storeCells]
        · rename_i hm
          have hne : cs' ≠ [] := fun q => by
            subst q
            simp only [List.length_nil] at c4
            have : 0 < m * i.size := Nat.mul_pos (by omega) c2
            omega
          obtain ⟨b2, o2, d, rfl, hd, hcs'⟩ := sl_open hb hne
          obtain ⟨news, hnl, hnc, hnV⟩ := hcs'.values
          have hone := ones_V hnV c5
          have hnews : ∀ (j : Nat) v, news[j]? = some v → w.cell? ((⟨b2, o2, none⟩ : Addr).add j) = some v := fun j v hv => by rw [add_lit]; exact hnc j v hv
          have hnl' : news.length = m * i.size := by omega
          split at e
          · cases e
            simp only [V] at ha
            obtain ⟨rfl, rfl, rfl⟩ := ha
            have hg := grownCap_ge w m 0 el
            have hrun := run_append_nil (P := P) w t ty el i zz hu hi hiz ⟨b2, o2, none⟩ m d news hnl' hnews (by omega) (by omega) (Nat.le_trans (show m * i.bytes ≤ 140737488355328 by simpa using c6) (by omega))
            have st := step_new_row (B0 := B0) (G := G) (w' := w.drew.alloc (.cells (news.toArray ++ Builtin.zeroCells zz.cells (grownCap w m 0 el - m)) el)) r
              (vs := news.toArray ++ Builtin.zeroCells zz.cells (grownCap w m 0 el - m)) (ty := el) ⟨rfl, rfl, rfl, rfl⟩ (t := h.tnext) (F := m) (n := m) (sz := i.size) (sp := grownCap w m 0 el - m) (cs := cs') (h' := h.pushTok m)
              c4 (by simp [size_zeroCells, hnl', hzl, c1]) (by
                rw [Array.toList_append, ← hnl', List.take_left' (by simp)]
                simpa using hnV) ⟨rfl, rfl, fun x => AH.tok_pushTok h m x, by simp [AH.pushTok], by simp [AH.pushTok]⟩ (fun j hj => by rw [r.tnext _ (Nat.le_refl _)] at hj; cases hj) (.inl (Nat.le_refl _))
            obtain ⟨st, hcells, htok⟩ := st
            refine ⟨_, _, _, hrun, st, ?_⟩
            simp only [V]
            exact ⟨_, 0, _, _, rfl, hg, hcells, htok, rfl, by simp, fun _ => ⟨rfl, by simp, by simp; omega⟩⟩
          · rename_i tk k s
            split at e
            · rename_i hc
              obtain ⟨htk, rfl⟩ := hc
              cases e
              simp only [V] at ha
              obtain ⟨b1, o1, c, ti, rfl, hn, hcs, htok, hsz, hF, hf⟩ := ha
              obtain ⟨_, htF, vs, ty', hvs, hcap⟩ := r.tok tk ti htok
              have hFF : k + n = ti.F := by rw [htk] at htF; exact Option.some.inj htF
              obtain ⟨rfl, q2, rfl⟩ := hf hFF
              rw [hsz] at q2 hcap
              by_cases hroom : m ≤ ti.sp
              · have hmul : m * i.size ≤ ti.sp * i.size := Nat.mul_le_mul_right _ hroom
                have hst := run_storeCells_at (P := P) ti.b ti.e ty' news 0 vs w hvs (by omega) hone
                rw [Nat.add_zero] at hst
                have hfc := run_firstCells_some (P := P) w i.size m ⟨b2, o2, none⟩ m d news hnl' hnews
                obtain ⟨hs1, hs2, hs3⟩ := setRow_heap (vs' := (List.take ti.e vs.toList ++ news ++ List.drop (ti.e + news.length) vs.toList).toArray) hvs
                have hvl : ti.e ≤ vs.toList.length := by simp; omega
                have st := step_row_more (B0 := B0) (G := G) r (n := ti.F + m) htok hvs ⟨hs1, hs2, hs3⟩ ⟨rfl, rfl, rfl⟩ (m := m) (cs := cs') (us := news) (by rw [hsz]; exact c4) hnV (by omega) hroom rfl
                  ⟨by simp; omega, fun j hj => by
                    rw [List.getElem?_toArray, List.append_assoc, List.getElem?_append_left (by rw [List.length_take]; omega), List.getElem?_take, if_pos hj, Array.getElem?_toList], fun j u hu => by
                    have hj : j < news.length := (List.getElem?_eq_some_iff.1 hu).1
                    have hlt : (List.take ti.e vs.toList).length = ti.e := by rw [List.length_take]; omega
                    rw [List.getElem?_toArray, List.append_assoc, List.getElem?_append_right (by omega), List.getElem?_append_left (by omega), hlt, show ti.e + j - ti.e = j from by omega]
                    exact hu⟩
                obtain ⟨st, hcells, htk'⟩ := st
                refine ⟨.slice (some ⟨ti.b, o1, none⟩) (n + m) (n + ti.sp), _, _, ?_, by rw [hFF]; exact st, ?_⟩
                · have hge : n + m ≤ n + ti.sp := by omega
                  simp [Builtin.append_, run_underlying hu, sizeOf, typeInfo, hi, Builtin.lenOf, hge, hroom, hfc, add_lit, q2, hst]
                · simp only [V]
                  refine ⟨_, o1, _, _, rfl, by omega, Cells.append (Cells.mono st.le st.com _ _ _ hcs) (by rw [c3, q2]; exact hcells), htk', hsz, by simp; omega, fun _ => ⟨rfl, ?_, by simp; omega⟩⟩
                  simp only [hsz]
                  rw [Nat.add_mul]; omega
              · obtain ⟨olds, hol, hoc, hoV⟩ := hcs.values
                have hlt : n + ti.sp < n + m := by omega
                have hg := grownCap_ge w (n + m) (n + ti.sp) el
                have hol' : olds.length = n * i.size := by omega
                have hrun := run_append_grow (P := P) w t ty el i zz hu hi hiz ⟨ti.b, o1, none⟩ n (n + ti.sp) olds hol' (fun j v hv => by rw [add_lit]; exact hoc j v hv) ⟨b2, o2, none⟩ m d news hnl' hnews hlt (by omega) (growslice_fits hlt c6)
                have hmul : (n + m) * i.size = n * i.size + m * i.size := Nat.add_mul ..
                have st := step_new_row (B0 := B0) (G := G) (w' := w.drew.alloc (.cells (olds.toArray ++ news.toArray ++ Builtin.zeroCells zz.cells (grownCap w (n + m) (n + ti.sp) el - (n + m))) el)) r
                  (vs := olds.toArray ++ news.toArray ++ Builtin.zeroCells zz.cells (grownCap w (n + m) (n + ti.sp) el - (n + m))) (ty := el) ⟨rfl, rfl, rfl, rfl⟩ (t := tk) (F := k + n + m) (n := n + m) (sz := i.size) (sp := grownCap w (n + m) (n + ti.sp) el - (n + m)) (cs := cs ++ cs') (h' := h.setTok tk (k + n + m))
                  (by simp; omega) (by simp [size_zeroCells, hnl', hol']; rw [hzl, c1]; omega) (by
                    have hl : (n + m) * i.size = (olds ++ news).length := by simp; omega
                    rw [Array.toList_append, Array.toList_append, hl, List.take_left' (by simp)]
                    exact hoV.append hnV) ⟨rfl, rfl, fun x => AH.tok_setTok h tk _ x, Nat.le_refl _, by
                      rcases Nat.lt_or_ge tk h.tnext with q | q
                      · exact q
                      · rw [r.tnext _ q] at htok; cases htok⟩ (fun j hj => by rw [htok] at hj; cases hj; exact ⟨by omega, hsz⟩) (.inr ⟨ti, htok⟩)
                obtain ⟨st, hcells, htk'⟩ := st
                refine ⟨_, _, _, hrun, st, ?_⟩
                simp only [V]
                exact ⟨_, 0, _, _, rfl, hg, hcells, htk', rfl, by simp; omega, fun _ => ⟨rfl, by simp, by simp; omega⟩⟩
            · cases e
          · cases e
      · cases e
    · cases e
  · cases e

/-! ### Maps -/
def simpleKey (P : Program) (t : TypeId) : Option TypeDesc :=
  match P.underlying t with
  | some (.int k) => some (.int k)
  | some .string => some .string
  | some .bool => some .bool
  | _ => none
def afind (kind : TypeDesc) (k : Value) : List (Value × AV) → Nat → Option (Option (Nat × AV))
  | [], _ => some none
  | e :: es, i => match Instr.sameNow kind k e.1 with
    | some true => some (some (i, e.2))
    | some false => afind kind k es (i + 1)
    | none => none
def MRel (μ : Mu) (w : World) (es : List (Value × AV)) (ents : List MapEntry) : Prop := ents.map (·.key) = es.map (·.1) ∧ Vs μ w (es.map (·.2)) (ents.map (·.val))
theorem find_V {kind : TypeDesc} {k : Value} : ∀ {es : List (Value × AV)} {ents : List MapEntry} {i : Nat}, MRel μ w es ents → ∀ q, afind kind k es i = some q →
    match q with
    | none => Instr.findNow kind k ents i = some none
    | some (j, x) => ∃ u, Instr.findNow kind k ents i = some (some (j, u)) ∧ V μ w x u ∧ i ≤ j ∧ ∃ e, es[j - i]? = some e ∧ Instr.sameNow kind k e.1 = some true
  | [], ents, i, hm, q, e => by
    obtain ⟨h1, h2⟩ := hm
    simp only [List.map_nil, List.map_eq_nil_iff] at h1
    subst h1
    simp only [afind, Option.some.injEq] at e
    subst e
    rfl
  | p :: es, ents, i, hm, q, e => by
    obtain ⟨h1, h2⟩ := hm
    cases ents with
    | nil => simp at h1
    | cons en ents =>
      simp only [List.map_cons, List.cons.injEq] at h1
      simp only [List.map_cons, Vs] at h2
      obtain ⟨u, us, hu, hx, hxs⟩ := h2
      simp only [List.cons.injEq] at hu
      obtain ⟨rfl, rfl⟩ := hu
      simp only [afind] at e
      cases hs : Instr.sameNow kind k p.1 with
      | none => rw [hs] at e; simp at e
      | some t =>
        rw [hs] at e
        cases t with
        | true =>
          simp only [Option.some.injEq] at e
          subst e
          exact ⟨_, by simp only [Instr.findNow, h1.1, hs], hx, Nat.le_refl _, p, by simp, hs⟩
        | false =>
          simp only at e
          have ih := find_V (i := i + 1) ⟨h1.2, hxs⟩ q e
          cases q with
          | none => simp only [Instr.findNow, h1.1, hs]; exact ih
          | some jx =>
            obtain ⟨j, x⟩ := jx
            obtain ⟨u, hf, hv, hle, e', he', hse⟩ := ih
            refine ⟨u, by simp only [Instr.findNow, h1.1, hs]; exact hf, hv, by omega, e', ?_, hse⟩
            rw [show j - i = (j - (i + 1)) + 1 from by omega]
            simpa using he'
def azeroV (P : Program) (t : TypeId) : Option AV := ((P.info? t).bind (·.zero)).bind fun z => ofV (z.cells.size + 64) z
theorem azeroV_V {t : TypeId} {x : AV} (e : azeroV P t = some x) : ∃ z : Value, (zeroValue t).run P w = .ok z w ∧ V μ w x z := by
  unfold azeroV at e
  cases h1 : P.info? t with
  | none => rw [h1] at e; simp at e
  | some i =>
    rw [h1] at e; simp only [Option.bind_some] at e
    cases h2 : i.zero with
    | none => rw [h2] at e; simp at e
    | some z =>
      rw [h2] at e; simp only [Option.bind_some] at e
      refine ⟨z, ?_, ofV_V _ _ _ e⟩
      simp only [zeroValue, Sem.run_bind, run_typeInfo w h1, Result.andThen_ok, h2]; rfl
theorem checkKey_run {t : TypeId} {d : TypeDesc} {k : Value} {b : Bool} (hd : simpleKey P t = some d) : (Instr.checkKey b 10000 t k).run P w = .ok () w ∧ P.underlying t = some d := by
  unfold simpleKey at hd
  split at hd
  · rename_i kk hu; cases hd; exact ⟨by rw [show (10000 : Nat) = 9999 + 1 from rfl, Instr.checkKey]; simp only [Sem.run_bind, run_underlying hu, Result.andThen_ok]; cases k <;> rfl, hu⟩
  · rename_i hu; cases hd; exact ⟨by rw [show (10000 : Nat) = 9999 + 1 from rfl, Instr.checkKey]; simp only [Sem.run_bind, run_underlying hu, Result.andThen_ok]; cases k <;> rfl, hu⟩
  · rename_i hu; cases hd; exact ⟨by rw [show (10000 : Nat) = 9999 + 1 from rfl, Instr.checkKey]; simp only [Sem.run_bind, run_underlying hu, Result.andThen_ok]; cases k <;> rfl, hu⟩
  · cases hd
def mapOf (C : Nat → Option AObj) : AV → Option (List (Value × AV))
  | .mp o => match C o with
    | some (.map es) => some es
    | _ => none
  | .v (.map none) => some []
  | _ => none
def alookup (P : Program) (C : Nat → Option AObj) (t : TypeId) (m k : AV) (ok : Bool) : Option AV :=
  match P.underlying t, mapOf C m, lit k with
  | some (.map key elem), some es, some kv => match simpleKey P key with
    | some kind => match afind kind kv es 0 with
      | some (some (_, x)) => some (if ok then .tup [x, .v (.bool true)] else x)
      | some none => match azeroV P elem with
        | some x => some (if ok then .tup [x, .v (.bool false)] else x)
        | none => none
      | none => none
    | none => none
  | _, _, _ => none
theorem map_open {C : Nat → Option AObj} (r : ObjsOk μ w C) {m : AV} {u : Value} {es : List (Value × AV)} (hv : V μ w m u) (e : mapOf C m = some es) :
    ∃ ents : Array MapEntry, MRel μ w es ents.toList ∧ ((u = .map none ∧ ents = #[]) ∨ ∃ b clock, u = .map (some b) ∧ w.heap[b]? = some (.map ents clock)) := by
  unfold mapOf at e
  split at e
  · rename_i o
    split at e
    · rename_i es' ho
      cases e
      simp only [V] at hv
      obtain ⟨b, hb, rfl⟩ := hv
      obtain ⟨ob, hob, hor⟩ := r o b hb
      rw [ho] at hob; cases hob
      obtain ⟨ents, clock, hh, h1, h2⟩ := hor
      exact ⟨ents, ⟨h1, h2⟩, .inr ⟨b, clock, rfl, hh⟩⟩
    · cases e
  · cases e
    simp only [V] at hv
    exact ⟨#[], ⟨rfl, by simp [Vs]⟩, .inl ⟨hv.2, rfl⟩⟩
  · cases e
theorem findKey_run {key : TypeId} {d : TypeDesc} {k : Value} {ents : List MapEntry} {q : Option (Nat × Value)} (hu : P.underlying key = some d) (e : Instr.findNow d k ents 0 = some q) : (Instr.findKey key k ents).run P w = .ok q w := by
  simp only [Instr.findKey, Sem.run_bind, run_underlying hu, Result.andThen_ok, e, Sem.run_pure]
theorem lookup_run {C : Nat → Option AObj} (r : ObjsOk μ w C) {t : TypeId} {m k x : AV} {um uk : Value} {ok : Bool} (hm : V μ w m um) (hk : V μ w k uk) (e : alookup P C t m k ok = some x) :
    ∃ u, (Instr.lookup t um uk ok).run P w = .ok u w ∧ V μ w x u := by
  unfold alookup at e
  split at e
  · rename_i key elem es kv hu hes hlk
    obtain rfl := lit_eq _ _ _ hlk hk
    split at e
    · rename_i kind hkind
      obtain ⟨ents, hrel, hents⟩ := map_open r hm hes
      obtain ⟨_, huk⟩ := checkKey_run (w := w) (k := uk) (b := ents.isEmpty) hkind
      have hck := (checkKey_run (w := w) (k := uk) (b := ents.isEmpty) hkind).1
      split at e
      · rename_i j y hf
        cases e
        have := find_V hrel _ hf
        obtain ⟨u, hfn, hv, _⟩ := this
        have hfk := findKey_run (w := w) huk hfn
        rcases hents with ⟨rfl, rfl⟩ | ⟨b, clock, rfl, hh⟩
        · refine ⟨if ok then .tuple #[u, .bool true] else u, ?_, ?_⟩
          · simp only [Instr.lookup, Sem.run_bind, run_underlying hu, Result.andThen_ok, Sem.run_pure, hck, hfk]
          · cases ok <;> simp [V, Vs, hv, plain]
        · refine ⟨if ok then .tuple #[u, .bool true] else u, ?_, ?_⟩
          · simp only [Instr.lookup, Sem.run_bind, run_underlying hu, Result.andThen_ok, Sem.run_pure, getObj, Sem.run, hh, hck, hfk]
          · cases ok <;> simp [V, Vs, hv, plain]
      · rename_i hf
        have hfn := find_V hrel _ hf
        simp only at hfn
        have hfk := findKey_run (w := w) huk hfn
        split at e
        · rename_i y hz
          cases e
          obtain ⟨z, hzr, hv⟩ := azeroV_V (μ := μ) (w := w) hz
          rcases hents with ⟨rfl, rfl⟩ | ⟨b, clock, rfl, hh⟩
          · refine ⟨if ok then .tuple #[z, .bool false] else z, ?_, ?_⟩
            · simp only [Instr.lookup, Sem.run_bind, run_underlying hu, Result.andThen_ok, Sem.run_pure, hck, hfk, hzr]
            · cases ok <;> simp [V, Vs, hv, plain]
          · refine ⟨if ok then .tuple #[z, .bool false] else z, ?_, ?_⟩
            · simp only [Instr.lookup, Sem.run_bind, run_underlying hu, Result.andThen_ok, Sem.run_pure, getObj, Sem.run, hh, hck, hfk, hzr]
            · cases ok <;> simp [V, Vs, hv, plain]
        · cases e
      · cases e
    · cases e
  · cases e

def amapUpdate (P : Program) (h : AH) (t : TypeId) (m k x : AV) : Option AH :=
  match P.underlying t, m, lit k with
  | some (.map key _), .mp o, some kv => match h.get o, simpleKey P key with
    | some (.map es), some kind => match afind kind kv es 0 with
      | some (some (j, _)) => some (h.set o (.map (es.set j (kv, x))))
      | some none => some (h.set o (.map (es ++ [(kv, x)])))
      | none => none
    | _, _ => none
  | _, _, _ => none
theorem sameBits_of {d : TypeDesc} {a b : Value} (e : Instr.sameNow d a b = some true) : Instr.sameBits 10000 b a = true := by
  unfold Instr.sameNow at e
  split at e
  · split at e
    · rename_i hk; simp at e; subst hk; subst e; simp [Instr.sameBits]
    · cases e
  · simp only [Option.some.injEq] at e; obtain rfl := (MapKept.bytes_beq _ _).1 e; simp [Instr.sameBits, (MapKept.bytes_beq _ _).2]
  · simp at e; subst e; simp [Instr.sameBits]
  · cases e
theorem setObj_run {b : Nat} {ents : Array MapEntry} {clock : Nat} (hh : w.heap[b]? = some (.map ents clock)) (o : Obj) : (setObj b o).run P w = .ok () { w with heap := w.heap.setIfInBounds b o } := by
  simp [setObj, Sem.run, hh]
theorem set_heap {b : Nat} (hb : b < w.heap.size) (o : Obj) : ({ w with heap := w.heap.setIfInBounds b o } : World).heap.size = w.heap.size ∧ ({ w with heap := w.heap.setIfInBounds b o } : World).heap[b]? = some o ∧ ∀ b', b' ≠ b → ({ w with heap := w.heap.setIfInBounds b o } : World).heap[b']? = w.heap[b']? :=
  ⟨by simp, by simp [hb], fun b' hne => by simp only []; rw [Array.getElem?_setIfInBounds_ne (fun e => hne e.symm)]⟩
theorem mapUpdate_res (r : R B0 G μ h w) {t : TypeId} {m k x : AV} {um uk ux : Value} {h' : AH} (hm : V μ w m um) (hk : V μ w k uk) (hx : V μ w x ux) (e : amapUpdate P h t m k x = some h') :
    ∃ w', (Instr.mapUpdate t um uk ux).run P w = .ok () w' ∧ Step B0 G μ h w μ h' w' := by
  unfold amapUpdate at e
  split at e
  · rename_i key elem o kv hu hlk
    obtain rfl := lit_eq _ _ _ hlk hk
    split at e
    · rename_i es kind hes hkind
      obtain ⟨ents, hrel, hents⟩ := map_open r.objs hm (show mapOf h.get (.mp o) = some es by simp [mapOf, hes])
      obtain ⟨_, huk⟩ := checkKey_run (w := w) (k := uk) (b := false) hkind
      have hck := (checkKey_run (w := w) (k := uk) (b := false) hkind).1
      simp only [V] at hm
      obtain ⟨b, hb, rfl⟩ := hm
      obtain ⟨b', clock, hbb, hh⟩ : ∃ b' clock, (Value.map (some b)) = .map (some b') ∧ w.heap[b']? = some (.map ents clock) := by
        rcases hents with ⟨h1, _⟩ | h1
        · cases h1
        · exact h1
      simp only [Value.map.injEq, Option.some.injEq] at hbb
      subst hbb
      have hlt := r.obj_lt hb
      obtain ⟨hr1, hr2⟩ := hrel
      split at e
      · rename_i j y hf
        cases e
        obtain ⟨u, hfn, hv, hle, ee, hee, hse⟩ := find_V ⟨hr1, hr2⟩ _ hf
        simp only [Nat.sub_zero] at hee
        have hfk := findKey_run (w := w) huk hfn
        have hkey : ((ents[j]?).map (·.key)).getD uk = ee.1 := by
          have h3 : (ents.toList.map (·.key))[j]? = some ee.1 := by rw [hr1, List.getElem?_map, hee]; rfl
          rw [List.getElem?_map, Array.getElem?_toList] at h3
          rw [h3]; rfl
        refine ⟨_, ?_, step_set_obj r hb (set_heap hlt (.map (ents.modify j fun e => { e with key := uk, val := ux }) clock)) ⟨rfl, rfl, rfl⟩ fun w' hk' hb' => ⟨_, clock, hb', ?_, ?_⟩⟩
        · simp only [Instr.mapUpdate, Sem.run_bind, run_underlying hu, Result.andThen_ok, getObj, Sem.run, hh, hck, hfk, hkey, Instr.keyThatStays, sameBits_of hse, if_true, Sem.run_pure, setObj_run hh]
        · rw [List.map_set, ← hr1]
          apply List.ext_getElem?
          intro q
          simp only [List.getElem?_map, List.getElem?_set, Array.getElem?_toList, Array.getElem?_modify, List.length_map, Array.length_toList]
          by_cases hq : j = q
          · subst hq; simp; by_cases hj : j < ents.size <;> simp [hj]
          · simp [hq]
        · rw [List.map_set]
          have h4 := (Vs.mono (Le.refl _) hk' _ _ hr2).set j (V.mono (Le.refl _) hk' _ _ hx)
          have h5 : (ents.modify j fun e => { e with key := uk, val := ux }).toList.map (·.val) = (ents.toList.map (·.val)).set j ux := by
            apply List.ext_getElem?
            intro q
            simp only [List.getElem?_map, List.getElem?_set, Array.getElem?_toList, Array.getElem?_modify, List.length_map, Array.length_toList]
            by_cases hq : j = q
            · subst hq; simp; by_cases hj : j < ents.size <;> simp [hj]
            · simp [hq]
          rw [h5]; exact h4
      · rename_i hf
        cases e
        have hfn := find_V ⟨hr1, hr2⟩ _ hf
        simp only at hfn
        have hfk := findKey_run (w := w) huk hfn
        refine ⟨_, ?_, step_set_obj r hb (set_heap hlt (.map (ents.push { key := uk, val := ux, born := clock }) (clock + 1))) ⟨rfl, rfl, rfl⟩ fun w' hk' hb' => ⟨_, clock + 1, hb', ?_, ?_⟩⟩
        · simp only [Instr.mapUpdate, Sem.run_bind, run_underlying hu, Result.andThen_ok, getObj, Sem.run, hh, hck, hfk, Sem.run_pure, setObj_run hh]
        · simp [hr1]
        · simp only [Array.toList_push, List.map_append, List.map_cons, List.map_nil]
          exact (Vs.mono (Le.refl _) hk' _ _ hr2).append (by simp only [Vs]; exact ⟨ux, [], rfl, V.mono (Le.refl _) hk' _ _ hx, rfl⟩)
      · cases e
    · cases e
  · cases e

def alenOf (P : Program) (t : TypeId) (x : AV) (m : Option (List (Value × AV))) : Option AV :=
  match P.underlying t, x with
  | some (.slice _), .sl _ n _ => some (.v (.int .i64 n))
  | some (.slice _), .arr _ _ n => some (.v (.int .i64 n))
  | some .string, .v (.string s) => some (.v (.int .i64 s.size))
  | some (.array n _), _ => some (.v (.int .i64 n))
  | some (.map _ _), _ => m.map fun es => .v (.int .i64 es.length)
  | _, _ => none
def alen (P : Program) (C : Nat → Option AObj) (t : TypeId) (x : AV) : Option AV := alenOf P t x (mapOf C x)
theorem len_run {C : Nat → Option AObj} (r : ObjsOk μ w C) {t ty : TypeId} {x y : AV} {u : Value} (hv : V μ w x u) (e : alen P C t x = some y) : ∃ v, (Builtin.len_ #[t] ty #[u]).run P w = .ok v w ∧ V μ w y v := by
  unfold alen alenOf at e
  split at e
  · rename_i el tok n cs hu
    cases e
    obtain ⟨A, c, rfl, _⟩ := sl_open' hv
    exact ⟨.int .i64 n, by simp [Builtin.len_, run_underlying hu, goInt], plain_V rfl⟩
  · rename_i el o off n hu
    cases e
    simp only [V] at hv
    obtain ⟨b, c, _, rfl, _⟩ := hv
    exact ⟨.int .i64 n, by simp [Builtin.len_, run_underlying hu, goInt], plain_V rfl⟩
  · rename_i s hu
    cases e
    simp only [V] at hv
    obtain ⟨_, rfl⟩ := hv
    exact ⟨.int .i64 s.size, by simp [Builtin.len_, run_underlying hu, goInt], plain_V rfl⟩
  · rename_i n el hu
    cases e
    exact ⟨.int .i64 n, by simp [Builtin.len_, run_underlying hu, goInt], plain_V rfl⟩
  · rename_i x d x2 key el hu
    cases hm : mapOf C x with
    | none => rw [hm] at e; simp at e
    | some es =>
      rw [hm] at e; simp at e; subst e
      obtain ⟨ents, ⟨hr1, _⟩, hents⟩ := map_open r hv hm
      have hl : es.length = ents.size := by have := congrArg List.length hr1; simp at this; omega
      rcases hents with ⟨rfl, rfl⟩ | ⟨b, clock, rfl, hh⟩
      · exact ⟨.int .i64 0, by simp [Builtin.len_, run_underlying hu, goInt], by rw [hl]; exact plain_V rfl⟩
      · exact ⟨.int .i64 ents.size, by simp [Builtin.len_, run_underlying hu, goInt, getObj, Sem.run, hh], by rw [hl]; exact plain_V rfl⟩
  · cases e
end
end Go.Proofs.YtkcbhebbjpiibaaDoor.Pg
