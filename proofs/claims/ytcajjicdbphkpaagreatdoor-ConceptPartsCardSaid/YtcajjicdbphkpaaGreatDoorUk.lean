/-
  Regions in which an element is stored late: the rule.
-/
import Derived.Test.YtcajjicdbphkpaaGreatDoorUj
set_option linter.unusedVariables false
set_option linter.unusedSimpArgs false
set_option maxRecDepth 100000
set_option maxHeartbeats 8000000
namespace Go.Proofs.YtcajjicdbphkpaaGreatDoor.Pg
open Go
section
variable {P : Program} {G : Nat → Option (List AV)}
/-- All orders of a region. -/
def orders (ops : Array Oper) : Nat → Array Bool → List (List Nat)
  | 0, _ => [[]]
  | n + 1, l => match Region.ready .any ops l with
    | [] => [[]]
    | r => r.flatMap fun i => (orders ops n (l.setIfInBounds i true)).map (i :: ·)
theorem fol_orders {ops : Array Oper} : ∀ (n : Nat) (l : Array Bool) (L : List Nat), Fol ops n l L → L ∈ orders ops n l
  | 0, l, L, h => by cases (show L = [] from h); exact List.mem_singleton.2 rfl
  | n + 1, l, [], h => by
    have h' : Region.ready .any ops l = [] := h
    simp only [orders, h']; exact List.mem_singleton.2 rfl
  | n + 1, l, i :: L, h => by
    obtain ⟨h1, h2⟩ := h
    simp only [orders]
    split
    · rename_i q; rw [q] at h1; cases h1
    · exact List.mem_flatMap.2 ⟨i, h1, List.mem_map.2 ⟨L, fol_orders n _ L h2, rfl⟩⟩
theorem orders_fol {ops : Array Oper} : ∀ (n : Nat) (l : Array Bool) (L : List Nat), L ∈ orders ops n l → Fol ops n l L
  | 0, l, L, h => List.mem_singleton.1 h
  | n + 1, l, L, h => by
    simp only [orders] at h
    split at h
    · rename_i q
      cases List.mem_singleton.1 h
      exact q
    · rename_i q
      obtain ⟨i, h1, h2⟩ := List.mem_flatMap.1 h
      obtain ⟨L', h3, rfl⟩ := List.mem_map.1 h2
      exact ⟨h1, orders_fol n _ L' h3⟩
theorem fol_lt {ops : Array Oper} : ∀ (n : Nat) (l : Array Bool) (L : List Nat), Fol ops n l L → ∀ i ∈ L, i < ops.size
  | 0, l, L, h, i, hi => by cases (show L = [] from h); cases hi
  | n + 1, l, [], h, i, hi => by cases hi
  | n + 1, l, k :: L, h, i, hi => by
    rcases List.mem_cons.1 hi with rfl | hi
    · exact List.mem_range.1 (List.mem_filter.1 h.1).1
    · exact fol_lt n _ L h.2 i hi
/-- All orders are those of the first p operations, followed by the four others. -/
def ordsOK (ops : Array Oper) (p : Nat) : Bool :=
  let a := orders (ops.extract 0 p) p (Array.replicate p false)
  (orders ops ops.size (Array.replicate ops.size false)).all fun L => a.contains (L.take p) && (L.drop p == [p, p + 1, p + 2, p + 3] || L.drop p == [p, p + 1, p + 3, p + 2] || L.drop p == [p, p + 3, p + 1, p + 2])
theorem Oper.wpIn_both {F : Fence} {n : Nat} {o : Oper} {a : Act} {w : World} {K K' : Act → World → Prop} {Q Q' : Exit → Act → World → Prop} (h : ∀ a w, K a w → K' a w) (hq : ∀ c a w, Q (.panic c) a w → Q' (.panic c) a w) (hl : LetsOut Q → LetsOut Q')
    (hh : o.wpIn F n P a w K Q) : o.wpIn F n P a w K' Q' := by
  unfold Oper.wpIn at *
  refine ⟨hh.1, ?_⟩
  have hh := hh.2
  generalize (o.semAt F.round a.eval).run P w = r at *
  cases r with
  | ok x w' =>
    cases x <;> simp only [Oper.uponIn] at hh ⊢ <;>
      first
        | exact h _ _ hh
        | exact ⟨hh.1, CallsIn.mono hh.2 (fun e w'' he => by cases e <;> first | exact h _ _ he | exact hq _ _ _ he | exact hl he)⟩
        | exact ⟨hh.1, RowsIn.mono hh.2 (fun _ _ he => h _ _ he)⟩
        | exact ⟨hh.1, RoundIn.mono hh.2 (fun e w'' he => by cases e <;> first | exact h _ _ he | exact hq _ _ _ he | exact hl he)⟩
  | halt x w' => cases x <;> simp only [Oper.uponIn] at hh ⊢ <;> first | exact hh | exact hq _ _ _ hh
theorem wpOps_split {F : Fence} {n : Nat} {ops : Array Oper} {p : Nat} (hg : ∀ o ∈ ops.toList, o.guard = none) {Q1 Q : Exit → Act → World → Prop} {L2 : List Nat} (hn : ∀ a w, Q1 .normal a w → wpOpsIn F n P ops Q L2 a w)
    (hq : ∀ c a w, Q1 (.panic c) a w → Q (.panic c) a w) (hl : LetsOut Q1 → LetsOut Q) : ∀ (L1 : List Nat) (a : Act) (w : World), (∀ i ∈ L1, i < (ops.extract 0 p).size) → wpOpsIn F n P (ops.extract 0 p) Q1 L1 a w → wpOpsIn F n P ops Q (L1 ++ L2) a w
  | [], a, w, _, h => hn a w h
  | i :: L1, a, w, hi, h => by
    have hlt := hi i (List.mem_cons_self ..)
    have e : (ops.extract 0 p)[i]? = ops[i]? := by
      rw [Array.size_extract] at hlt
      rw [Array.getElem?_extract, if_pos (by omega), Nat.zero_add]
    have hex : ∃ o, ops[i]? = some o := by
      rw [← e]; exact ⟨_, Array.getElem?_eq_getElem hlt⟩
    obtain ⟨o, ho⟩ := hex
    rw [e.trans ho |> fun q => show wpOpsIn F n P (ops.extract 0 p) Q1 (i :: L1) a w = (if Region.wanted o (yielded (ops.extract 0 p) a.tmps) then o.wpIn F n P a w (wpOpsIn F n P (ops.extract 0 p) Q1 L1) Q1 else (∀ f, o.about P w a.eval = some f → F.fn f) ∧ wpOpsIn F n P (ops.extract 0 p) Q1 L1 (a.put o.dst undef) w) by simp only [wpOpsIn, q]] at h
    have hw : ∀ f, Region.wanted o f = true := fun f => by
      simp [Region.wanted, hg o (by rw [Array.mem_toList_iff]; exact Array.mem_of_getElem? ho)]
    rw [if_pos (hw _)] at h
    simp only [List.cons_append, wpOpsIn, ho]
    rw [if_pos (hw _)]
    exact Oper.wpIn_both (fun a w q => wpOps_split hg hn hq hl L1 a w (fun k hk => hi k (List.mem_cons_of_mem _ hk)) q) hq hl h
theorem okOps_mono {M N : Nat} (h : M ≤ N) {l : List IOp} (k : okOps M l = true) : okOps N l = true := by
  unfold okOps at *
  rw [List.all_eq_true] at *
  intro o ho
  have := k o ho
  simp only [Bool.and_eq_true] at this ⊢
  obtain ⟨h1, h2⟩ := this
  constructor
  · split
    · rfl
    · rename_i d q; rw [q] at h1; simp only [decide_eq_true_eq] at h1 ⊢; omega
  · split
    · rfl
    · rename_i d b q; rw [q] at h2; simp only [decide_eq_true_eq] at h2 ⊢; omega
/-- What is asked behind the first operations. -/
def lateQ (es bytes : Nat) (ra rz rx rv rq d5 d6 : Tmp) (Q : AX → L → JH → Prop) : AX → L → JH → Prop
  | .norm, l, j => ∃ tok n cs tokz zs ds o te y, lk l ra = .sl tok n cs ∧ lk l rz = .sl tokz 1 zs ∧ zs.length = es ∧ zs.all AV.one = true ∧ lk l rx = I64 (n : Nat) ∧ lk l rv = .agg ds ∧ lk l rq = .ptr o 0 ∧ j.get o = some (.cells te [y]) ∧
      @JAPP j es bytes (.sl tok n cs) (.sl .none 1 ds) ⟨fun x j2 => Q .norm ((d6, .any) :: (d5, x) :: l) (j2.set o (.cells te [x]))⟩
  | _, _, _ => False
theorem japp_aappend {h : AH} {t el : TypeId} {i : TypeInfo} {z : List AV} (hu : P.underlying t = some (.slice el)) (hi : P.info? el = some i) (hz : azero P el = some z) (hzl : z.length = i.size) (hs : 0 < i.size)
    {tok : Tok} {n : Nat} {cs ds : List AV} {K : AV → JH → Prop} (k : @JAPP h.j i.size i.bytes (.sl tok n cs) (.sl .none 1 ds) ⟨K⟩) : ∃ x h2, aappend P h t (.sl tok n cs) (.sl .none 1 ds) = some (x, h2) ∧ K x h2.j ∧ ds.length = i.size ∧ ds.all AV.one = true := by
  obtain ⟨⟨c1, c2, c3, c4, c5⟩, _, k⟩ := k
  have k := k (by omega)
  simp only [aappend, hu, hi, hz]
  rw [if_pos ⟨hzl, hs, c1, c2, c3, c4, c5⟩, if_neg (by omega)]
  rw [Nat.one_mul] at c2
  cases tok with
  | nil => exact ⟨_, _, rfl, by rw [AH.j_pushTok]; exact k, c2, c3⟩
  | none => exact k.elim
  | own tk q s =>
    obtain ⟨⟨k1, k2⟩, k3⟩ := k
    refine ⟨.sl (.own tk q s) (n + 1) (cs ++ ds), h.setTok tk (q + n + 1), ?_, by rw [AH.j_setTok]; exact k3, c2, c3⟩
    exact if_pos ⟨k1, k2⟩
theorem JORC.late (hmix : P.follows .mixedOrders = true) {id p : Nat} {ops : Array Oper} {dl : List IOp} {ps : List (Nat × Nat)} {t el : TypeId} {i it : TypeInfo} {z : List AV} {ra rz rx rv rq d5 d6 : Tmp} {l : L} {j : JH} {Q : AX → L → JH → Prop}
    (hnd : ops.toList.all (fun o => nodef o && o.guard.isNone) = true) (hpre : cdraw1 P (ops.extract 0 p) = .draw dl ps) (hp : p ≤ ops.size) (hord : ordsOK ops p = true) (lo : LateOps ops p t el ra rz rx rv rq d5 d6) (hok : okOps (cdmax (.region id ops true)) dl = true)
    (h5 : d5 < cdmax (.region id ops true)) (h6 : d6 < cdmax (.region id ops true))
    (hu : P.underlying t = some (.slice el)) (hi : P.info? el = some i) (hit : P.info? t = some it) (hit1 : it.size = 1) (hz : azero P el = some z) (hzl : z.length = i.size) (hs : 0 < i.size)
    (k : jwp P G (.draw dl ps) l j (lateQ i.size i.bytes ra rz rx rv rq d5 d6 Q)) : @JORC P G (.region id ops true) l j ⟨Q⟩ := by
  refine JORC.of ?_
  rintro N fr h nb hN f rfl ro B0 low Δ μ w a hr r hlo m frel
  have hnd' : ∀ o ∈ ops.toList, nodef o = true ∧ o.guard = none := fun o ho => by
    have := List.all_eq_true.1 hnd o ho
    simp only [Bool.and_eq_true, Option.isNone_iff_eq_none] at this
    exact this
  have hk : iwp P G (cdraw1 P (ops.extract 0 p)) fr h (JQ N (lateQ i.size i.bytes ra rz rx rv rq d5 d6 Q)) := by
    rw [hpre]
    exact jwp_sound (.draw dl ps) (okOps_mono hN hok) f k
  have hpn : ∀ o ∈ (ops.extract 0 p).toList, nodef o = true := fun o ho => (hnd' o (by
    rw [Array.mem_toList_iff] at ho ⊢
    rw [Array.mem_iff_getElem?] at ho ⊢
    obtain ⟨q, hq⟩ := ho
    rw [Array.getElem?_extract] at hq
    split at hq
    · exact ⟨_, hq⟩
    · cases hq)).1
  have hany := cdraw1_sound (nb := nb) hpn hk r m frel (ro := ro)
  have hsz : (ops.extract 0 p).size = p := by rw [Array.size_extract]; omega
  rw [hsz] at hany
  refine wpIn_region_draw fun tt => ?_
  simp only [Region.schedule, hmix, Bool.true_or, if_true]
  have hfol : Fol ops ops.size (Array.replicate ops.size false) (Region.linearise .any ops tt) := fol_lin (ops := ops) ops.size tt (Array.replicate ops.size false)
  generalize Region.linearise .any ops tt = LL at hfol
  have hin := List.all_eq_true.1 hord LL (fol_orders _ _ _ hfol)
  simp only [Bool.and_eq_true, Bool.or_eq_true, beq_iff_eq, List.contains_iff_mem] at hin
  obtain ⟨hin1, hin2⟩ := hin
  have hf1 := orders_fol _ _ _ hin1
  have hw1 := fol_wp _ _ _ _ _ hany hf1
  rw [← List.take_append_drop p LL]
  refine wpOps_split (fun o ho => (hnd' o ho).2) ?_ ?_ (fun q => absurd q FinQ.no) _ _ _ (fun q hq => by rw [hsz]; have := fol_lt _ _ _ hf1 q hq; rw [hsz] at this; exact this) hw1
  · rintro a1 w1 ⟨x, fr1, h1, ⟨l1, f1, q1⟩, μ1, ms, st, fr1', m1, hms, ex⟩
    cases x with
    | norm =>
      obtain ⟨tok, n, cs, tokz, zs, ds, o, te, y, k1, k2, k3, k4, k5, k6, k7, k8, k9⟩ := q1
      obtain ⟨x, h2, e, hQ, hdl, hd1⟩ := japp_aappend hu hi hz hzl hs k9
      have V' : ∀ t, V μ1 w1 (lk l1 t) (a1.eval (.tmp t)) := fun t => by rw [← f1.2]; exact fr1'.val t
      have va := V' ra; rw [k1] at va
      have vz := V' rz; rw [k2] at vz
      have vx := V' rx; rw [k5] at vx
      have vv := V' rv; rw [k6] at vv
      have vq := V' rq; rw [k7] at vq
      simp only [V] at vx vv vq
      obtain ⟨us, hus, hds⟩ := vv
      obtain ⟨bo, hbo, hqe⟩ := vq
      obtain ⟨b, o1, cp, vs, el', w2, μ2, hL⟩ := append_late st.r hu hi va vz k3 k4 hds hd1 e
      obtain ⟨_, ob, hob, hor⟩ := st.r.obj o bo hbo
      have hob' : ob = .cells te [y] := Option.some.inj (hob.symm.trans k8)
      subst hob'
      obtain ⟨vy, hvy, hVy⟩ := hor
      have hvy1 : ∃ y', vy = #[y'] := by
        have := hVy.length
        simp at this
        have h1 : vy.size = 1 := by omega
        exact ⟨vy[0], by apply Array.ext (by simpa using h1); intro i h1 h2; have : i = 0 := by simp at h2; omega
                         subst this; rfl⟩
      obtain ⟨y', rfl⟩ := hvy1
      have hne : bo ≠ b := fun q => hL.apart o (by rw [← q]; exact hbo)
      have hbs : bo < w1.heap.size := (Array.getElem?_eq_some_iff.1 hvy).1
      have hat : a1.tmps.size = N := fr1'.size.trans f1.1
      refine late_tail lo hu hi hit hit1 hL (by rw [hat]; exact Nat.lt_of_lt_of_le h5 hN) (by rw [hat]; exact Nat.lt_of_lt_of_le h6 hN) vx.2 hus rfl (by
        have := hds.length; show us.toList.length = _; omega) (ones_V hds hd1) hqe hvy hne ?_ _ (or_assoc.1 hin2)
      have hrow := setRow_heap (vs' := spl vs (o1 + n * i.size) us.toList) hL.row
      have hbo2 : (w2.setRow b (spl vs (o1 + n * i.size) us.toList)).heap[bo]? = some (.cells #[y'] te (0, 0)) := by
        rw [hrow.2.2 bo hne, hL.same bo hne hbs]; exact hvy
      obtain ⟨s1, s2, s3⟩ := setRow_heap (vs' := #[.slice (some ⟨b, o1, none⟩) (n + 1) cp]) hbo2
      have st2 := hL.step
      have st3 := step_set_obj (w' := (w2.setRow b (spl vs (o1 + n * i.size) us.toList)).setRow bo #[.slice (some ⟨b, o1, none⟩) (n + 1) cp]) st2.r (st2.le.obj o bo hbo) ⟨s1, s2, s3⟩ ⟨rfl, rfl, rfl⟩ (ob := .cells te [x]) fun w' hk hb' => ⟨_, hb', ⟨_, [], rfl, V.mono (Le.refl _) hk _ _ hL.val, rfl⟩⟩
      refine ⟨.norm, (fr1.set d5 x).set d6 .any, h2.set o (.cells te [x]), ⟨_, (f1.set d5 x).set d6 .any, by rw [AH.j_set]; exact hQ⟩, ?_⟩
      refine Fin.trans st hms (Fin.one m1 (st2.trans st3) ?_ rfl)
      refine FrRel.mono st3.le st3.com ?_
      refine FrRel.put (FrRel.put (fr1'.mono st2.le st2.com) (d := some d5) (x := x) (fr' := fr1.set d5 x) ?_ hL.val) (d := some d6) (x := .any) ?_ trivial
      · simp only [Fr.put]; rw [if_pos (by rw [f1.1]; exact Nat.lt_of_lt_of_le h5 hN)]
      · simp only [Fr.put]; exact if_pos (show d6 < fr1.n by rw [f1.1]; exact Nat.lt_of_lt_of_le h6 hN)
    | _ => exact q1.elim
  · rintro c a1 w1 ⟨x, fr1, h1, ⟨l1, f1, q1⟩, _, _, _, _, _, _, ex⟩
    cases x with
    | norm => cases ex
    | _ => exact q1.elim
end
end Go.Proofs.YtcajjicdbphkpaaGreatDoor.Pg
