/-
  append(list, f(..)) to a captured list: the element is stored late.
-/
import Derived.Test.YtcajjicdbphkpaaGreatDoorPgX
set_option linter.unusedVariables false
set_option linter.unusedSimpArgs false
set_option maxRecDepth 100000
set_option maxHeartbeats 8000000
namespace Go.Proofs.YtcajjicdbphkpaaGreatDoor.Pg
open Go
section
variable {P : Program} {B0 : Nat} {G : Nat → Option (List AV)} {μ : Mu} {h : AH} {w : World}
theorem setRow_comm {w : World} {a b : Nat} (hab : a ≠ b) (x y : Array Value) : (w.setRow a x).setRow b y = (w.setRow b y).setRow a x := by
  unfold World.setRow
  simp only
  congr 1
  apply Array.ext_getElem?
  intro i
  simp only [Array.getElem?_modify]
  by_cases h1 : a = i <;> by_cases h2 : b = i <;> simp [h1, h2]
  exact absurd (h1.trans h2.symm) hab
theorem setRow_push {w w1 : World} {cs cs' : Array Value} {el : TypeId} (hw : w1.heap = w.heap.push (.cells cs el (0, 0))) : (w1.setRow w.heap.size cs').heap = w.heap.push (.cells cs' el (0, 0)) := by
  unfold World.setRow
  simp only [hw]
  apply Array.ext_getElem?
  intro i
  rw [Array.getElem?_modify]
  by_cases h1 : w.heap.size = i
  · subst h1; simp
  · rw [if_neg h1, Array.getElem?_push, Array.getElem?_push, if_neg (Ne.symm h1), if_neg (Ne.symm h1)]
def spl (vs : Array Value) (off : Nat) (us : List Value) : Array Value := (vs.toList.take off ++ us ++ vs.toList.drop (off + us.length)).toArray
theorem spl_size {vs : Array Value} {off : Nat} {us : List Value} (h : off + us.length ≤ vs.size) : (spl vs off us).size = vs.size := by
  simp [spl]; omega
theorem spl_list {a nw c dv : List Value} {off : Nat} (h : a.length = off) (h2 : nw.length = dv.length) : (a ++ nw ++ c).take off ++ dv ++ (a ++ nw ++ c).drop (off + dv.length) = a ++ dv ++ c := by
  rw [List.append_assoc a nw c, List.take_left' h]
  congr 1
  rw [← List.append_assoc, List.drop_left' (by rw [List.length_append]; omega)]
/-- What the four steps come to: append of a row of one element, then other cells into that element. -/
structure Late (P : Program) (B0 : Nat) (G : Nat → Option (List AV)) (μ : Mu) (h : AH) (w : World) (t : TypeId) (n size : Nat) (ua ub : Value) (dv : List Value) (x : AV) (h' : AH) (b o1 cp : Nat) (vs : Array Value) (el : TypeId) (w1 : World) (μ' : Mu) : Prop where
  run : ∀ ty, (Builtin.append_ #[t, t] ty #[ua, ub]).run P w = .ok (.slice (some ⟨b, o1, none⟩) (n + 1) cp) w1
  row : w1.heap[b]? = some (.cells vs el (0, 0))
  fits : o1 + n * size + size ≤ vs.size
  step : Step B0 G μ h w μ' h' (w1.setRow b (spl vs (o1 + n * size) dv))
  val : V μ' (w1.setRow b (spl vs (o1 + n * size) dv)) x (.slice (some ⟨b, o1, none⟩) (n + 1) cp)
  apart : ∀ o, μ.obj o ≠ some b
  same : ∀ b', b' ≠ b → b' < w.heap.size → w1.heap[b']? = w.heap[b']?
  size : w.heap.size ≤ w1.heap.size
  cap : n + 1 ≤ cp
theorem append_late (r : R B0 G μ h w) {t el : TypeId} {i : TypeInfo} (hu : P.underlying t = some (.slice el)) (hi : P.info? el = some i) {tok tok' : Tok} {n : Nat} {cs zs ds : List AV} {ua ub : Value} {dv : List Value} {x : AV} {h' : AH}
    (ha : V μ w (.sl tok n cs) ua) (hb : V μ w (.sl tok' 1 zs) ub) (hzl : zs.length = i.size) (hz1 : zs.all AV.one = true) (hd : Vs μ w ds dv) (hd1 : ds.all AV.one = true) (e : aappend P h t (.sl tok n cs) (.sl .none 1 ds) = some (x, h')) :
    ∃ b o1 cp vs el' w1 μ', Late P B0 G μ h w t n i.size ua ub dv x h' b o1 cp vs el' w1 μ' := by
  simp only [aappend, hu, hi] at e
  cases hz : azero P el with
  | none => rw [hz] at e; cases e
  | some z =>
    rw [hz] at e
    simp only at e
    split at e
    · rename_i hcond
      obtain ⟨c1, c2, c3, c4, c5, c6, c7⟩ := hcond
      obtain ⟨i', zz, hi', hiz, hzc⟩ := azero_info hz
      rw [hi] at hi'; cases hi'
      have hzV : Vs μ w z zz.cells.toList := ofVs_Vs _ _ _ hzc
      have hzzl := hzV.length
      simp only [Array.length_toList] at hzzl
      have hne : zs ≠ [] := fun q => by subst q; simp at hzl; omega
      obtain ⟨b2, o2, d, rfl, hd2, hcs'⟩ := sl_open hb hne
      obtain ⟨news, hnl, hnc, hnV⟩ := hcs'.values
      have hone := ones_V hnV hz1
      have hdl := hd.length
      have hnews : ∀ (j : Nat) v, news[j]? = some v → w.cell? ((⟨b2, o2, none⟩ : Addr).add j) = some v := fun j v hv => by rw [add_lit]; exact hnc j v hv
      have hnl' : news.length = 1 * i.size := by omega
      rw [Nat.one_mul] at c4
      rw [if_neg (by omega)] at e
      split at e
      · cases e
        simp only [V] at ha
        obtain ⟨rfl, rfl, rfl⟩ := ha
        have hg := grownCap_ge w 1 0 el
        have hrun := fun ty => run_append_nil (P := P) w t ty el i zz hu hi hiz ⟨b2, o2, none⟩ 1 d news hnl' hnews (by omega) (by omega) (Nat.le_trans (show 1 * i.bytes ≤ 140737488355328 by simpa using c6) (by omega))
        have st := step_new_row (B0 := B0) (G := G) (w' := (w.drew.alloc (.cells (news.toArray ++ Builtin.zeroCells zz.cells (grownCap w 1 0 el - 1)) el)).setRow w.heap.size (dv.toArray ++ Builtin.zeroCells zz.cells (grownCap w 1 0 el - 1))) r
          (vs := dv.toArray ++ Builtin.zeroCells zz.cells (grownCap w 1 0 el - 1)) (ty := el) ⟨setRow_push rfl, rfl, rfl, rfl⟩ (t := h.tnext) (F := 1) (n := 1) (sz := i.size) (sp := grownCap w 1 0 el - 1) (cs := ds) (h' := h.pushTok 1)
          (by omega) (by simp [size_zeroCells, hzzl, c1]; omega) (by
            rw [Array.toList_append, show 1 * i.size = dv.length by omega, List.take_left' (by simp)]
            simpa using hd) ⟨rfl, rfl, fun x => AH.tok_pushTok h 1 x, by simp [AH.pushTok], by simp [AH.pushTok]⟩ (fun j hj => by rw [r.tnext _ (Nat.le_refl _)] at hj; cases hj) (.inl (Nat.le_refl _))
        obtain ⟨st, hcells, htok⟩ := st
        have espl : spl (news.toArray ++ Builtin.zeroCells zz.cells (grownCap w 1 0 el - 1)) (0 + 0 * i.size) dv = dv.toArray ++ Builtin.zeroCells zz.cells (grownCap w 1 0 el - 1) := by
          apply Array.ext'
          simp only [spl, Nat.zero_mul, Nat.add_zero, List.take_zero, List.nil_append, Nat.zero_add, Array.toList_append]
          rw [List.drop_left' (by omega)]
        refine ⟨w.heap.size, 0, _, news.toArray ++ Builtin.zeroCells zz.cells (grownCap w 1 0 el - 1), el, _, _, hrun, by show (w.heap.push _)[w.heap.size]? = _; simp, by simp [size_zeroCells]; omega, by rw [espl]; exact st, ?_, fun o q => by have := r.obj_lt q; omega, fun b' h1 h2 => by show (w.heap.push _)[b']? = _; rw [Array.getElem?_push, if_neg h1], by show _ ≤ (w.heap.push _).size; simp, by omega⟩
        rw [espl]
        simp only [V]
        exact ⟨_, 0, _, _, rfl, hg, hcells, htok, rfl, by simp, fun _ => ⟨rfl, by simp, by simp; omega⟩⟩
      · rename_i tk k s
        split at e
        · rename_i hc
          obtain ⟨htk, rfl⟩ := hc
          cases e
          simp only [V] at ha
          obtain ⟨b1, o1, c, ti, rfl, hn, hcs, htok, hsz, hF, hf⟩ := ha
          obtain ⟨_, htF, vs, ty', hvs, hcap⟩ := r.tok tk ti htok
          have hFF : k + n = ti.F := by rw [htk] at htF; exact Option.some.inj htF
          obtain ⟨rfl, q2, rfl⟩ := hf hFF
          rw [hsz] at q2 hcap
          by_cases hroom : 1 ≤ ti.sp
          · have hmul : 1 * i.size ≤ ti.sp * i.size := Nat.mul_le_mul_right _ hroom
            have hst := run_storeCells_at (P := P) ti.b ti.e ty' news 0 vs w hvs (by omega) hone
            rw [Nat.add_zero] at hst
            have hfc := run_firstCells_some (P := P) w i.size 1 ⟨b2, o2, none⟩ 1 d news hnl' hnews
            obtain ⟨hs1, hs2, hs3⟩ := setRow_heap (vs' := (List.take ti.e vs.toList ++ news ++ List.drop (ti.e + news.length) vs.toList).toArray) hvs
            have hvl : ti.e ≤ vs.toList.length := by simp; omega
            have hvsz : ((List.take ti.e vs.toList ++ news ++ List.drop (ti.e + news.length) vs.toList).toArray).size = vs.size := by simp; omega
            obtain ⟨ht1, ht2, ht3⟩ := setRow_heap (vs' := spl (List.take ti.e vs.toList ++ news ++ List.drop (ti.e + news.length) vs.toList).toArray (o1 + n * i.size) dv) hs2
            have hlt : (List.take ti.e vs.toList).length = ti.e := by rw [List.length_take]; omega
            have hspl : spl (List.take ti.e vs.toList ++ news ++ List.drop (ti.e + news.length) vs.toList).toArray (o1 + n * i.size) dv = (List.take ti.e vs.toList ++ dv ++ List.drop (ti.e + news.length) vs.toList).toArray := by
              apply Array.ext'
              simp only [spl, q2]
              exact spl_list hlt (by omega)
            have st := step_row_more (B0 := B0) (G := G) r (n := ti.F + 1) htok hvs ⟨ht1.trans hs1, ht2, fun b' hb' => (ht3 b' hb').trans (hs3 b' hb')⟩ ⟨rfl, rfl, rfl⟩ (m := 1) (cs := ds) (us := dv) (by rw [hsz]; omega) hd (by omega) hroom rfl
              ⟨by rw [hspl]; simp; omega, fun j hj => by
                rw [hspl, List.getElem?_toArray, List.append_assoc, List.getElem?_append_left (by omega), List.getElem?_take, if_pos hj, Array.getElem?_toList], fun j u hu => by
                have hj : j < dv.length := (List.getElem?_eq_some_iff.1 hu).1
                rw [hspl, List.getElem?_toArray, List.append_assoc, List.getElem?_append_right (by omega), List.getElem?_append_left (by omega), hlt, show ti.e + j - ti.e = j from by omega]
                exact hu⟩
            obtain ⟨st, hcells, htk'⟩ := st
            refine ⟨ti.b, o1, n + ti.sp, _, ty', _, _, ?_, hs2, by rw [hvsz]; omega, by rw [hFF]; exact st, ?_, fun o q => r.sep tk ti o htok q, fun b' h1 h2 => hs3 b' h1, by rw [hs1]; exact Nat.le_refl _, by omega⟩
            · intro ty
              have hge : n + 1 ≤ n + ti.sp := by omega
              simp [Builtin.append_, run_underlying hu, sizeOf, typeInfo, hi, Builtin.lenOf, hge, hroom, hfc, add_lit, q2, hst]
            · simp only [V]
              refine ⟨_, o1, _, _, rfl, by omega, Cells.append (Cells.mono st.le st.com _ _ _ hcs) (by rw [c3, q2]; rw [q2] at hcells; exact hcells), htk', hsz, by simp; omega, fun _ => ⟨rfl, ?_, by simp; omega⟩⟩
              simp only [hsz]
              rw [Nat.add_mul]; omega
          · obtain ⟨olds, hol, hoc, hoV⟩ := hcs.values
            have hlt : n + ti.sp < n + 1 := by omega
            have hg := grownCap_ge w (n + 1) (n + ti.sp) el
            have hol' : olds.length = n * i.size := by omega
            have hrun := fun ty => run_append_grow (P := P) w t ty el i zz hu hi hiz ⟨ti.b, o1, none⟩ n (n + ti.sp) olds hol' (fun j v hv => by rw [add_lit]; exact hoc j v hv) ⟨b2, o2, none⟩ 1 d news hnl' hnews hlt (by omega) (growslice_fits hlt c6)
            have hmul : (n + 1) * i.size = n * i.size + 1 * i.size := Nat.add_mul ..
            have st := step_new_row (B0 := B0) (G := G) (w' := (w.drew.alloc (.cells (olds.toArray ++ news.toArray ++ Builtin.zeroCells zz.cells (grownCap w (n + 1) (n + ti.sp) el - (n + 1))) el)).setRow w.heap.size (olds.toArray ++ dv.toArray ++ Builtin.zeroCells zz.cells (grownCap w (n + 1) (n + ti.sp) el - (n + 1)))) r
              (vs := olds.toArray ++ dv.toArray ++ Builtin.zeroCells zz.cells (grownCap w (n + 1) (n + ti.sp) el - (n + 1))) (ty := el) ⟨setRow_push rfl, rfl, rfl, rfl⟩ (t := tk) (F := k + n + 1) (n := n + 1) (sz := i.size) (sp := grownCap w (n + 1) (n + ti.sp) el - (n + 1)) (cs := cs ++ ds) (h' := h.setTok tk (k + n + 1))
              (by simp; omega) (by simp [size_zeroCells, hol']; rw [hzzl, c1]; omega) (by
                have hl : (n + 1) * i.size = (olds ++ dv).length := by simp; omega
                rw [Array.toList_append, Array.toList_append, hl, List.take_left' (by simp)]
                exact hoV.append hd) ⟨rfl, rfl, fun x => AH.tok_setTok h tk _ x, Nat.le_refl _, by
                  rcases Nat.lt_or_ge tk h.tnext with q | q
                  · exact q
                  · rw [r.tnext _ q] at htok; cases htok⟩ (fun j hj => by rw [htok] at hj; cases hj; exact ⟨by omega, hsz⟩) (.inr ⟨ti, htok⟩)
            obtain ⟨st, hcells, htk'⟩ := st
            have espl : spl (olds.toArray ++ news.toArray ++ Builtin.zeroCells zz.cells (grownCap w (n + 1) (n + ti.sp) el - (n + 1))) (0 + n * i.size) dv = olds.toArray ++ dv.toArray ++ Builtin.zeroCells zz.cells (grownCap w (n + 1) (n + ti.sp) el - (n + 1)) := by
              apply Array.ext'
              simp only [spl, Nat.zero_add, Array.toList_append]
              exact spl_list hol' (by omega)
            refine ⟨w.heap.size, 0, _, olds.toArray ++ news.toArray ++ Builtin.zeroCells zz.cells (grownCap w (n + 1) (n + ti.sp) el - (n + 1)), el, _, _, hrun, by show (w.heap.push _)[w.heap.size]? = _; simp, by simp [size_zeroCells]; omega, by rw [espl]; exact st, ?_, fun o q => by have := r.obj_lt q; omega, fun b' h1 h2 => by show (w.heap.push _)[b']? = _; rw [Array.getElem?_push, if_neg h1], by show _ ≤ (w.heap.push _).size; simp, by omega⟩
            rw [espl]
            simp only [V]
            exact ⟨_, 0, _, _, rfl, hg, hcells, htk', rfl, by simp; omega, fun _ => ⟨rfl, by simp, by simp; omega⟩⟩
        · cases e
      · cases e
    · cases e
/-! ### The four operations, in the orders that are open -/
theorem wpIn_val {ro : Option Nat} {o : Oper} {a : Act} {w w' : World} {u : Value} {K : Act → World → Prop} {Q : Exit → Act → World → Prop} (hd : ∀ c, o.op ≠ .defer c) (e : (execOp a.eval o).run P w = .ok (.value u) w') (k : K (a.put o.dst u) w') : o.wpIn (Fw ro) 0 P a w K Q := by
  refine ⟨fun f _ => Fw_fn ro f, ?_⟩
  rw [Oper.semAt_eq _ _ _ hd, e]
  exact k
theorem wpIn_skip' {ro : Option Nat} {o : Oper} {a : Act} {w w' : World} {K : Act → World → Prop} {Q : Exit → Act → World → Prop} (hd : ∀ c, o.op ≠ .defer c) (e : (execOp a.eval o).run P w = .ok .skip w') (k : K (a.put o.dst undef) w') : o.wpIn (Fw ro) 0 P a w K Q := by
  refine ⟨fun f _ => Fw_fn ro f, ?_⟩
  rw [Oper.semAt_eq _ _ _ hd, e]
  exact k
theorem put_ne {a : Act} {d t : Tmp} {u : Value} (h : t ≠ d) : (a.put (some d) u).eval (.tmp t) = a.eval (.tmp t) := by
  simp only [Act.put, Act.eval, Array.getD_eq_getD_getElem?]
  rw [Array.getElem?_setIfInBounds_ne (Ne.symm h)]
theorem put_eq {a : Act} {d : Tmp} {u : Value} (h : d < a.tmps.size) : (a.put (some d) u).eval (.tmp d) = u := by
  simp only [Act.put, Act.eval, Array.getD_eq_getD_getElem?]
  rw [Array.getElem?_setIfInBounds_self_of_lt h]; rfl
theorem put_size {a : Act} {d : Tmp} {u : Value} : (a.put (some d) u).tmps.size = a.tmps.size := by simp [Act.put]
theorem put_none {a : Act} {u : Value} : a.put none u = a := rfl
/-- What the four operations are. -/
structure LateOps (ops : Array Oper) (p : Nat) (t el : TypeId) (ra rz rx rv rq d5 d6 : Tmp) : Prop where
  o5 : ∃ o, ops[p]? = some o ∧ o.guard = none ∧ o.dst = some d5 ∧ o.op = .call { callee := .builtin .append, args := #[.tmp ra, .tmp rz], argTypes := #[t, t] }
  o6 : ∃ o, ops[p + 1]? = some o ∧ o.guard = none ∧ o.dst = some d6 ∧ o.op = .indexAddr t (.tmp d5) (.tmp rx)
  o7 : ∃ o, ops[p + 2]? = some o ∧ o.guard = none ∧ o.dst = none ∧ o.op = .store el (.tmp d6) (.tmp rv)
  o8 : ∃ o, ops[p + 3]? = some o ∧ o.guard = none ∧ o.dst = none ∧ o.op = .store t (.tmp rq) (.tmp d5)
  n1 : rv ≠ d5 ∧ rv ≠ d6 ∧ rq ≠ d5 ∧ rq ≠ d6 ∧ rx ≠ d5 ∧ d5 ≠ d6
theorem late_tail {ro : Option Nat} {ops : Array Oper} {p : Nat} {t el : TypeId} {ra rz rx rv rq d5 d6 : Tmp} (lo : LateOps ops p t el ra rz rx rv rq d5 d6) {i it : TypeInfo} (hu : P.underlying t = some (.slice el)) (hi : P.info? el = some i) (hit : P.info? t = some it) (hit1 : it.size = 1)
    {a : Act} {w w1 : World} {μ μ' : Mu} {h h' : AH} {x : AV} {n : Nat} {dv : List Value} {b o1 cp : Nat} {vs : Array Value} {el' : TypeId} {bo : Nat} {y : Value} {te : TypeId} {uv : Value}
    (hlt : Late P B0 G μ h w t n i.size (a.eval (.tmp ra)) (a.eval (.tmp rz)) dv x h' b o1 cp vs el' w1 μ')
    (h5 : d5 < a.tmps.size) (h6 : d6 < a.tmps.size) (hx : a.eval (.tmp rx) = .int .i64 n) (hv : a.eval (.tmp rv) = uv) (huv : uv.cells.toList = dv) (hdl : dv.length = i.size) (hone : ∀ v ∈ dv, v.oneCell' = true)
    (hq : a.eval (.tmp rq) = .pointer (some ⟨bo, 0, none⟩)) (hbo : w.heap[bo]? = some (.cells #[y] te (0, 0))) (hne : bo ≠ b)
    {Q : Exit → Act → World → Prop}
    (k : Q .normal ((a.put (some d5) (.slice (some ⟨b, o1, none⟩) (n + 1) cp)).put (some d6) (.pointer (some ⟨b, o1 + n * i.size, none⟩))) ((w1.setRow b (spl vs (o1 + n * i.size) dv)).setRow bo #[.slice (some ⟨b, o1, none⟩) (n + 1) cp]))
    (L2 : List Nat) (hL : L2 = [p, p + 1, p + 2, p + 3] ∨ L2 = [p, p + 1, p + 3, p + 2] ∨ L2 = [p, p + 3, p + 1, p + 2]) : wpOpsIn (Fw ro) 0 P ops Q L2 a w := by
  obtain ⟨n1, n2, n3, n4, n5, n6⟩ := lo.n1
  obtain ⟨o5, e5, g5, t5, p5⟩ := lo.o5
  obtain ⟨o6, e6, g6, t6, p6⟩ := lo.o6
  obtain ⟨o7, e7, g7, t7, p7⟩ := lo.o7
  obtain ⟨o8, e8, g8, t8, p8⟩ := lo.o8
  have w5 : ∀ f, Region.wanted o5 f = true := fun f => by simp [Region.wanted, g5]
  have w6 : ∀ f, Region.wanted o6 f = true := fun f => by simp [Region.wanted, g6]
  have w7 : ∀ f, Region.wanted o7 f = true := fun f => by simp [Region.wanted, g7]
  have w8 : ∀ f, Region.wanted o8 f = true := fun f => by simp [Region.wanted, g8]
  have hU : ∃ U, U = Value.slice (some ⟨b, o1, none⟩) (n + 1) cp := ⟨_, rfl⟩
  obtain ⟨U, hU⟩ := hU
  have hW : ∃ W, W = Value.pointer (some ⟨b, o1 + n * i.size, none⟩) := ⟨_, rfl⟩
  obtain ⟨W, hW⟩ := hW
  have hbo1 : w1.heap[bo]? = some (.cells #[y] te (0, 0)) := by rw [hlt.same bo hne (Array.getElem?_eq_some_iff.1 hbo).1]; exact hbo
  have run5 : (execOp a.eval o5).run P w = .ok (.value U) w1 := by
    simp only [execOp, p5, resolve, Sem.run_bind, Sem.run_pure, Result.andThen_ok, invoke, builtin]
    have := hlt.run o5.type
    rw [← hU] at this
    simp only [List.map_toArray, List.map_cons, List.map_nil]
    rw [this]
    rfl
  have run6 : ∀ (a' : Act) (w' : World), a'.eval (.tmp d5) = U → a'.eval (.tmp rx) = .int .i64 n → (execOp a'.eval o6).run P w' = .ok (.value W) w' := by
    intro a' w' q1 q2
    simp only [execOp, p6, q1, q2, hU, Instr.indexAt, asIntOf, Sem.run_bind, Sem.run_pure, run_underlying hu, Result.andThen_ok, Instr.sureAddr]
    rw [if_pos (by omega)]
    simp only [Sem.run_bind, size_run hi, Result.andThen_ok, Sem.run_pure, add_lit, hW, Int.toNat_natCast]
  have run7 : ∀ (a' : Act) (w' : World), a'.eval (.tmp d6) = W → a'.eval (.tmp rv) = uv → w'.heap[b]? = some (.cells vs el' (0, 0)) → (execOp a'.eval o7).run P w' = .ok .skip (w'.setRow b (spl vs (o1 + n * i.size) dv)) := by
    intro a' w' q1 q2 q3
    have hsz : uv.cells.size = i.size := by rw [← hdl, ← huv]; simp
    have hst := run_storeCells_at (P := P) b (o1 + n * i.size) el' dv 0 vs w' q3 (by have := hlt.fits; omega) hone
    rw [Nat.add_zero] at hst
    simp only [execOp, p7, q1, q2, hW, Instr.storeAt, Instr.sureAddr, storeVar, Sem.run_bind, Sem.run_pure, Result.andThen_ok, size_run hi, ne_eq, hsz, not_true_eq_false, if_false, huv, hst]
    rfl
  have run8 : ∀ (a' : Act) (w' : World), a'.eval (.tmp rq) = .pointer (some ⟨bo, 0, none⟩) → a'.eval (.tmp d5) = U → w'.heap[bo]? = some (.cells #[y] te (0, 0)) → (execOp a'.eval o8).run P w' = .ok .skip (w'.setRow bo #[U]) := by
    intro a' w' q1 q2 q3
    have hst := run_storeCells_at (P := P) bo 0 te [U] 0 #[y] w' q3 (by simp) (by intro v hv; rw [List.mem_singleton.1 hv, hU]; rfl)
    have hc : U.cells.size = it.size := by rw [hU, hit1]; rfl
    have hc' : U.cells.toList = [U] := by rw [hU]; rfl
    simp only [execOp, p8, q1, q2, Instr.storeAt, Instr.sureAddr, storeVar, Sem.run_bind, Sem.run_pure, Result.andThen_ok, size_run hit, ne_eq, hc, not_true_eq_false, if_false, hc', hst]
    simp
  have nd : ∀ {o : Oper} {q : Op}, o.op = q → (∀ c, q ≠ .defer c) → ∀ c, o.op ≠ .defer c := fun e h c => by rw [e]; exact h c
  rw [← hU, ← hW] at k
  have hrow := hlt.row
  have s1 := setRow_heap (vs' := spl vs (o1 + n * i.size) dv) hrow
  have s2 := setRow_heap (vs' := #[U]) hbo1
  have hd5 : (a.put (some d5) U).eval (.tmp d5) = U := put_eq h5
  have hd6 : ((a.put (some d5) U).put (some d6) W).eval (.tmp d6) = W := put_eq (by rw [put_size]; exact h6)
  have hd5' : ((a.put (some d5) U).put (some d6) W).eval (.tmp d5) = U := by rw [put_ne n6]; exact hd5
  have hxx : (a.put (some d5) U).eval (.tmp rx) = .int .i64 n := by rw [put_ne n5]; exact hx
  have hvv : ((a.put (some d5) U).put (some d6) W).eval (.tmp rv) = uv := by rw [put_ne n2, put_ne n1]; exact hv
  have hqq : (a.put (some d5) U).eval (.tmp rq) = .pointer (some ⟨bo, 0, none⟩) := by rw [put_ne n3]; exact hq
  have hqq' : ((a.put (some d5) U).put (some d6) W).eval (.tmp rq) = .pointer (some ⟨bo, 0, none⟩) := by rw [put_ne n4]; exact hqq
  have hcm := setRow_comm (w := w1) (Ne.symm hne) (spl vs (o1 + n * i.size) dv) #[U]
  rcases hL with rfl | rfl | rfl
  · simp only [wpOpsIn, e5, e6, e7, e8, w5, w6, w7, w8, if_true]
    refine wpIn_val (nd p5 (by simp)) run5 ?_
    rw [t5]
    refine wpIn_val (nd p6 (by simp)) (run6 _ _ hd5 hxx) ?_
    rw [t6]
    refine wpIn_skip' (nd p7 (by simp)) (run7 _ _ hd6 hvv hrow) ?_
    rw [t7, put_none]
    refine wpIn_skip' (nd p8 (by simp)) (run8 _ _ hqq' hd5' ((s1.2.2 bo hne).trans hbo1)) ?_
    rw [t8, put_none]
    exact k
  · simp only [wpOpsIn, e5, e6, e7, e8, w5, w6, w7, w8, if_true]
    refine wpIn_val (nd p5 (by simp)) run5 ?_
    rw [t5]
    refine wpIn_val (nd p6 (by simp)) (run6 _ _ hd5 hxx) ?_
    rw [t6]
    refine wpIn_skip' (nd p8 (by simp)) (run8 _ _ hqq' hd5' hbo1) ?_
    rw [t8, put_none]
    refine wpIn_skip' (nd p7 (by simp)) (run7 _ _ hd6 hvv ((s2.2.2 b (Ne.symm hne)).trans hrow)) ?_
    rw [t7, put_none, ← hcm]
    exact k
  · simp only [wpOpsIn, e5, e6, e7, e8, w5, w6, w7, w8, if_true]
    refine wpIn_val (nd p5 (by simp)) run5 ?_
    rw [t5]
    refine wpIn_skip' (nd p8 (by simp)) (run8 _ _ hqq hd5 hbo1) ?_
    rw [t8, put_none]
    refine wpIn_val (nd p6 (by simp)) (run6 _ _ hd5 hxx) ?_
    rw [t6]
    refine wpIn_skip' (nd p7 (by simp)) (run7 _ _ hd6 hvv ((s2.2.2 b (Ne.symm hne)).trans hrow)) ?_
    rw [t7, put_none, ← hcm]
    exact k
end
end Go.Proofs.YtcajjicdbphkpaaGreatDoor.Pg
