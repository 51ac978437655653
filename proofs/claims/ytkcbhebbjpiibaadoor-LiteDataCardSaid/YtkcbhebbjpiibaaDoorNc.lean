/-
  What the data say of each individual, as the program lists it.
-/
import Derived.Test.YtkcbhebbjpiibaaDoorNa
import Derived.Test.YtkcbhebbjpiibaaDoorMf
set_option linter.unusedVariables false
set_option linter.unusedSimpArgs false
set_option linter.defProp false
set_option maxRecDepth 20000
set_option maxHeartbeats 1000000
namespace Go.Proofs.YtkcbhebbjpiibaaDoor.Pg
open Go
theorem sbNc {A : Prop} (h : A := by repeat' (first | exact trivial | refine And.intro ?_ ?_ | exact SubB.v | exact SubB.any | ((first | refine SubB.ptr ?_ | refine SubB.arr ?_ | refine SubB.mp ?_) <;> first | assumption | (unfold pid; omega)) | ((first | refine SubB.pure ?_ | refine SubBs.pure ?_) <;> (simp only [AV.pure, AV.pures, pures_append, jpu, rrow_pur, rb_pur, natv_pur, Bool.and_self, Bool.and_true, Bool.true_and]; done)) | refine SubB.fn ?_ ?_ | refine SubB.sl ?_ ?_ | refine SubB.agg ?_ | refine SubB.tup ?_ | rfl)) : A := h
variable {m : Int} {G : Nat → Option (List AV)}
/-! ### The rows as the data say them -/
def rowsS (n : Nat) (S : List (Nat × Nat)) : List (List Nat) := (List.range n).map (stS S)
theorem rowsS_len {n : Nat} {S : List (Nat × Nat)} : (rowsS n S).length = n := by simp [rowsS]
theorem rowsS_at {n : Nat} {S : List (Nat × Nat)} {i : Nat} (h : i < n) : (rowsS n S)[i]? = some (stS S i) := by
  unfold rowsS; rw [List.getElem?_map, List.getElem?_range h]; rfl
theorem stS_app (S : List (Nat × Nat)) (i v k : Nat) : stS (S ++ [(i, v)]) k = stS S k ++ (if i = k then [v] else []) := by
  unfold stS; rw [List.filter_append, List.map_append]
  congr 1
  by_cases h : i = k
  · subst h; simp
  · simp [h]
theorem rowsS_app {n : Nat} {S : List (Nat × Nat)} {i v : Nat} (h : i < n) : (rowsS n S).set i (stS S i ++ [v]) = rowsS n (S ++ [(i, v)]) := by
  refine List.ext_getElem? fun k => ?_
  rw [List.getElem?_set, rowsS_len]
  by_cases e : i = k
  · subst e; rw [if_pos rfl, if_pos h, rowsS_at h, stS_app, if_pos rfl]
  · rw [if_neg e]
    by_cases hk : k < n
    · rw [rowsS_at hk, rowsS_at hk, stS_app, if_neg e, List.append_nil]
    · rw [List.getElem?_eq_none (by rw [rowsS_len]; omega), List.getElem?_eq_none (by rw [rowsS_len]; omega)]
theorem stS_len (S : List (Nat × Nat)) (i : Nat) : (stS S i).length ≤ S.length := by
  unfold stS; rw [List.length_map]; exact List.length_filter_le _ _
/-- What the rows hold when S has been said. -/
structure Rows' (j0 j : JH) (n : Nat) (S : List (Nat × Nat)) (R : List RowT) : Prop where
  fam : Fam j0 j R
  eq : R.map (·.2) = rowsS n S
theorem Rows'.len {j0 j : JH} {n : Nat} {S : List (Nat × Nat)} {R : List RowT} (h : Rows' j0 j n S R) : R.length = n := by
  have := congrArg List.length h.eq
  rw [List.length_map, rowsS_len] at this; exact this
theorem Rows'.at {j0 j : JH} {n : Nat} {S : List (Nat × Nat)} {R : List RowT} (h : Rows' j0 j n S R) {i : Nat} (hi : i < n) : ∃ t, R[i]? = some (t, stS S i) := by
  have e : (R.map (·.2))[i]? = some (stS S i) := by rw [h.eq, rowsS_at hi]
  rw [List.getElem?_map] at e
  cases hr : R[i]? with
  | none => rw [hr] at e; cases e
  | some x =>
    obtain ⟨t, l⟩ := x
    rw [hr] at e
    simp only [Option.map_some, Option.some.injEq] at e
    subst e; exact ⟨t, rfl⟩
theorem JAPP.rows {j0 j : JH} {objs : List AObj} {tok' : Tok} {R : List RowT} {n i v : Nat} {S : List (Nat × Nat)} {t : Tok} {K : AV → JH → Prop} (h : Rows' j0 j n S R) (hi : i < n) (hx : R[i]? = some (t, stS S i)) (ht : TokExt j0 j) (hb : S.length ≤ 1000000)
    (k : ∀ tok1 j1, Rows' j0 j1 n (S ++ [(i, v)]) (R.set i (tok1, stS S i ++ [v])) → TokExt j0 j1 → j.tnext ≤ j1.tnext → K (.sl tok1 ((stS S i).length + 1) (natv (stS S i) ++ [I64 v])) (ext j1 objs)) :
    @JAPP (ext j objs) 1 8 (.sl t (stS S i).length (natv (stS S i))) (.sl tok' 1 [I64 v]) ⟨K⟩ :=
  JAPP.fam (x := (t, stS S i)) hx h.fam ht (Nat.le_trans (stS_len _ _) hb) fun tok1 j1 hf ht1 hle => k tok1 j1 ⟨hf, by rw [List.map_set, h.eq]; exact rowsS_app hi⟩ ht1 hle
theorem Rows'.push {j0 j : JH} {n : Nat} {S : List (Nat × Nat)} {R : List RowT} (h : Rows' j0 j n S R) (F : Nat) : Rows' j0 (j.pushTok F) n S R := ⟨h.fam.push F, h.eq⟩
theorem rows_new (j : JH) (n : Nat) : Rows' j j n [] (List.replicate n (.nil, [])) := by
  refine ⟨⟨fun i x hx => ?_, fun i k x y t hx hy e1 e2 => ?_⟩, ?_⟩
  · obtain ⟨hlt, e⟩ := List.getElem?_eq_some_iff.1 hx
    rw [List.getElem_replicate] at e
    subst e; exact CanApp.nil
  · obtain ⟨hlt, e⟩ := List.getElem?_eq_some_iff.1 hx
    rw [List.getElem_replicate] at e
    subst e; cases e1
  · unfold rowsS stS
    refine List.ext_getElem (by simp) fun i h1 h2 => ?_
    simp
theorem rwc_new (n : Nat) : acycle [.sl .nil 0 []] n = rwc (List.replicate n (.nil, [])) := by
  have := acy_eq [.sl .nil 0 []] (by simp) n
  simp only [List.length_cons, List.length_nil, Nat.zero_add, Nat.mul_one] at this
  rw [this]
  unfold rwc
  clear this
  induction n with
  | zero => rfl
  | succ n ih => rw [acy, ih, List.replicate_succ]; rfl
/-! ### The walk -/
theorem q_e6 {b : Bool} {x y : JH} : okE ⟨b, none, x, y⟩ = (x.next ≤ y.next ∧ x.tnext ≤ y.tnext) := by simp [okE]
theorem flat_take {α : Type} {f : α → List (Nat × Nat)} {l : List α} {k : Nat} {x : α} {r : List α} (h : l.drop k = x :: r) : (l.take (k + 1)).flatMap f = (l.take k).flatMap f ++ f x := by
  have hk : k < l.length := by
    rcases Nat.lt_or_ge k l.length with q | q
    · exact q
    · rw [List.drop_eq_nil_of_le q] at h; cases h
  have e : l.take (k + 1) = l.take k ++ [x] := by
    rw [List.take_succ_eq_append_getElem hk]
    congr 2
    rw [List.drop_eq_getElem_cons hk] at h
    exact (List.cons.inj h).1
  rw [e, List.flatMap_append]; simp
theorem flat_le {α : Type} {f : α → List (Nat × Nat)} {m : Nat} (hf : ∀ x, (f x).length ≤ m) : ∀ (l : List α) (k : Nat), ((l.take k).flatMap f).length ≤ m * l.length
  | [], k => by simp
  | x :: l, 0 => by simp
  | x :: l, k + 1 => by
    have := flat_le hf l k
    have h2 := hf x
    rw [List.take_succ_cons, List.flatMap_cons, List.length_append, List.length_cons, Nat.mul_succ]; omega
theorem inds_nat {n : Nms} {r : Int} (h : indOK n r = true) : ∃ i : Nat, r = i ∧ i < n.is.length := by
  unfold indOK at h; simp only [Bool.and_eq_true, decide_eq_true_eq] at h
  exact ⟨r.toNat, by omega, by omega⟩
/-- What the data are. -/
structure Bas.said (b : Bas) : Prop where
  fac : ∀ x ∈ b.facts, ∃ i c : Nat, x.ind = i ∧ i < b.nms.is.length ∧ x.con.n = c ∧ c < 16
  lnk : ∀ x ∈ b.links, ∃ r i k : Nat, x.role = r ∧ r < 6 ∧ x.fr = i ∧ i < b.nms.is.length ∧ x.to = k ∧ k < b.nms.is.length
  ni : b.nms.is.length ≤ 12
  cnt : b.count ≤ 60
theorem basR_said {b : Bas} (h : basR b = true) : b.said := by
  have hf := names_few (basR_names h)
  unfold basR at h
  simp only [Bool.and_eq_true, decide_eq_true_eq, List.all_eq_true] at h
  obtain ⟨⟨h1, h2⟩, h3, h4, h5, h6, h7⟩ := h
  refine ⟨fun x hx => ?_, fun x hx => ?_, hf.2.2, h2⟩
  · obtain ⟨i, e, hi⟩ := inds_nat (h5 x hx)
    have hc := shaped_n (conOK_shaped (h3 x.con (List.mem_append.2 (.inr (mem_consF hx)))))
    exact ⟨i, x.con.n.toNat, e, hi, by omega, by omega⟩
  · have hl := h6 x hx
    unfold lnkOK at hl
    simp only [Bool.and_eq_true, decide_eq_true_eq] at hl
    obtain ⟨i, e, hi⟩ := inds_nat hl.1.2
    obtain ⟨k, e', hk⟩ := inds_nat hl.2
    exact ⟨x.role.toNat, i, k, by omega, by omega, e, hi, e', hk⟩
theorem n162 {r : Nat} : 16 + 2 * (r : Int) = ((16 + 2 * r : Nat) : Int) := by omega
theorem n163 {r : Nat} : 16 + (2 * (r : Int) + 1) = ((16 + (2 * r + 1) : Nat) : Int) := by omega
abbrev sgF (x : Fac) : List (Nat × Nat) := sg (.inl x)
abbrev sgL (x : Lnk) : List (Nat × Nat) := sg (.inr x)
theorem dat_flat (b : Bas) : b.dat.flatMap sg = b.facts.flatMap sgF ++ b.links.flatMap sgL := by
  unfold Bas.dat; rw [List.flatMap_append, List.flatMap_map, List.flatMap_map]
theorem s_stated (b : Bas) (hs : b.said) (j : JH) : JC Tryd.prog G 77 [.agg b.enc] j (RET (.arr (pid j.next 1) 0 b.nms.is.length) (ext j [.cells 30 b.enc, .cells 129 (rwn ((List.range b.nms.is.length).map (stD b.dat)))])) := by
  have hn := hs.ni
  have hcnt := hs.cnt
  unfold Bas.count at hcnt
  refine JC.run hmix c77 (by exact k77) ?_
  (try simp only[↓jr,jw,seval,jq2,rwc_len,q_e6,ext_next,ext_tnext,Nat.le_refl,Nat.le_add_right,ir77])
  refine JMKS.same (by omega) (by omega) ?_
  (try simp only[↓jr,jw,seval,jq2,rwc_len,q_e6,ext_next,ext_tnext,Nat.le_refl,Nat.le_add_right,ext_push])
  rw [rwc_new]
  refine JLOOP.of (σ := Nat × List RowT × JH) (fun s => s.1 ≤ b.facts.length ∧ TokExt j s.2.2 ∧ Rows' j s.2.2 b.nms.is.length ((b.facts.take s.1).flatMap sgF) s.2.1) (fun s => b.facts.length - s.1)
    (fun s => [(16, I64 s.1), (15, I64 b.facts.length), (14, .sl .none b.facts.length (encs Fac.enc b.facts)), (1, .ptr (pid j.next 0) 0), (3, .arr (pid j.next 1) 0 b.nms.is.length)])
    (fun s => ext s.2.2 [.cells 30 b.enc, .cells 129 (rwc s.2.1)]) (0, List.replicate b.nms.is.length (.nil, []), j) ⟨Nat.zero_le _, TokExt.refl _, rows_new j _⟩ ?_ (JDropH.refl _) ?_
  · ((try simp only[↓jr,jw,seval,jq2,rwc_len,q_e6,ext_next,ext_tnext,Nat.le_refl,Nat.le_add_right,DL]) <;> exact sbNc)
  rintro ⟨k, R, jx⟩ ⟨hk, ht, hR⟩
  simp only at hk ht hR
  have hx := ht.next
  (try simp only[↓jr,jw,seval,jq2,rwc_len,q_e6,ext_next,ext_tnext,Nat.le_refl,Nat.le_add_right,hx])
  refine wq.intro (fun g1 => ?_) (fun g1 => ?_)
  · have hlt : k < (b.facts).length := by omega
    obtain ⟨x, r, hd⟩ : ∃ c_ l_, List.drop k (b.facts) = c_ :: l_ := ⟨_, _, List.drop_eq_getElem_cons hlt⟩
    have hd1 : List.drop (k + 1) (b.facts) = r := by rw [← List.drop_drop, hd]; rfl
    have hmem : x ∈ b.facts := List.mem_of_mem_drop (hd ▸ List.mem_cons_self)
    have hfl := flat_take (f := sgF) hd
    have hle0 := flat_le (f := sgF) (m := 1) (fun x => Nat.le_refl 1) b.facts k
    (try simp only[↓jr,jw,seval,jq2,rwc_len,q_e6,ext_next,ext_tnext,Nat.le_refl,Nat.le_add_right,hx,hd])
    refine wc.intro (by omega) ?_
    obtain ⟨i, c, e1, hi, e2, hc⟩ := hs.fac x hmem
    generalize hS : (b.facts.take k).flatMap sgF = S at hR hfl hle0
    obtain ⟨t, hrow⟩ := hR.at hi
    have hld : icut none (rwc R) i = some (.sl t (stS S i).length (natv (stS S i))) := rwc_ld hrow
    (try simp only[↓jr,jw,seval,jq2,rwc_len,q_e6,ext_next,ext_tnext,Nat.le_refl,Nat.le_add_right,hx,hd,e1,e2,hld])
    refine wc.intro (by omega) ?_
    (try simp only[↓jr,jw,seval,jq2,rwc_len,q_e6,ext_next,ext_tnext,Nat.le_refl,Nat.le_add_right,hx,hd,e1,e2,hld])
    refine JAPP.rows (v := c) (hR.push 1) hi hrow (ht.push 1) (by omega) ?_
    intro tok1 j1 hR1 ht1 hle
    have hx1 := ht1.next
    have hle' : jx.tnext ≤ j1.tnext := Nat.le_trans (Nat.le_succ _) hle
    have hst := @rwc_st R i c tok1 (stS S i) (by rw [hR.len]; exact hi)
    have hRl := hR.len
    have hx2 : (jx.pushTok 1).next = j.next := hx
    (try simp only[↓jr,jw,seval,jq2,rwc_len,q_e6,ext_next,ext_tnext,Nat.le_refl,Nat.le_add_right,hx,hx1,hx2,e1,e2,hst])
    refine wc.intro (by omega) ?_
    (try simp only[↓jr,jw,seval,jq2,rwc_len,q_e6,ext_next,ext_tnext,Nat.le_refl,Nat.le_add_right,hx,hx1,hx2,e1,e2,hst])
    refine wc.intro (by omega) ?_
    (try simp only[↓jr,jw,seval,jq2,rwc_len,q_e6,ext_next,ext_tnext,Nat.le_refl,Nat.le_add_right,hx,hx1,hx2,e1,e2,hst])
    refine JDRAW.oc (by (try simp only[↓jr,jw,seval,jq2,rwc_len,q_e6,ext_next,ext_tnext,Nat.le_refl,Nat.le_add_right,hx,hx1,hx2,e1,e2,hst,jq]) <;> exact orq) ?_; (try simp only[↓jr,jw,seval,jq2,rwc_len,q_e6,ext_next,ext_tnext,Nat.le_refl,Nat.le_add_right,hx,hx1,hx2,e1,e2,hst])
    refine wc.intro (by unfold R64; omega) ?_
    (try simp only[↓jr,jw,seval,jq2,rwc_len,q_e6,ext_next,ext_tnext,Nat.le_refl,Nat.le_add_right,hx,hx1,hx2,e1,e2,hst])
    have e4 : S ++ sgF x = S ++ [(i, c)] := by show S ++ [(x.ind.toNat, x.con.n.toNat)] = _; rw [e1, e2]; rfl
    refine JNEXT.of (k + 1, R.set i (tok1, stS S i ++ [c]), j1) ⟨by simp only; omega, ht1, by simp only [hfl, e4]; exact hR1⟩ (by simp only; omega) ?_ (JDropH.nextT ht ht1 (TokExt.refl _) hle' ⟨.inl ⟨rfl, rfl⟩, .inr ⟨rfl, rwc_sub hR1.fam⟩, True.intro⟩)
    (try simp only[↓jr,jw,seval,jq2,rwc_len,q_e6,ext_next,ext_tnext,Nat.le_refl,Nat.le_add_right,hx,hx1,hx2,e1,e2,hst,DL])
    exact ⟨SubB.eqi (by omega), SubB.v, SubB.sl rfl (SubBs.pure (encs_pur Fac.pur _)), SubB.ptr (by unfold pid; omega), SubB.arr (by unfold pid; omega)⟩
  (try simp only[↓jr,jw,seval,jq2,rwc_len,q_e6,ext_next,ext_tnext,Nat.le_refl,Nat.le_add_right,hx])
  have ek : k = b.facts.length := by omega
  subst ek
  rw [List.take_length] at hR
  clear hk g1
  refine JLOOP.of (σ := Nat × List RowT × JH) (fun s => s.1 ≤ b.links.length ∧ TokExt j s.2.2 ∧ Rows' j s.2.2 b.nms.is.length (b.facts.flatMap sgF ++ (b.links.take s.1).flatMap sgL) s.2.1) (fun s => b.links.length - s.1)
    (fun s => [(38, I64 s.1), (37, I64 b.links.length), (36, .sl .none b.links.length (encs Lnk.enc b.links)), (1, .ptr (pid j.next 0) 0), (3, .arr (pid j.next 1) 0 b.nms.is.length)])
    (fun s => ext s.2.2 [.cells 30 b.enc, .cells 129 (rwc s.2.1)]) (0, R, jx) ⟨Nat.zero_le _, ht, by simp only [List.take_zero, List.flatMap_nil, List.append_nil]; exact hR⟩ ?_ (JDropH.refl _) ?_
  · (try simp only[↓jr,jw,seval,jq2,rwc_len,q_e6,ext_next,ext_tnext,Nat.le_refl,Nat.le_add_right,hx,DL])
    exact ⟨SubB.eqi (by omega), SubB.v, SubB.sl rfl (SubBs.pure (encs_pur Lnk.pur _)), SubB.ptr (by unfold pid; omega), SubB.arr (by unfold pid; omega)⟩
  clear ht hR hx
  rintro ⟨k, R, jx⟩ ⟨hk, ht, hR⟩
  simp only at hk ht hR
  have hx := ht.next
  (try simp only[↓jr,jw,seval,jq2,rwc_len,q_e6,ext_next,ext_tnext,Nat.le_refl,Nat.le_add_right,hx])
  refine wq.intro (fun g1 => ?_) (fun g1 => ?_)
  · have hlt : k < (b.links).length := by omega
    obtain ⟨x, r, hd⟩ : ∃ c_ l_, List.drop k (b.links) = c_ :: l_ := ⟨_, _, List.drop_eq_getElem_cons hlt⟩
    have hd1 : List.drop (k + 1) (b.links) = r := by rw [← List.drop_drop, hd]; rfl
    have hmem : x ∈ b.links := List.mem_of_mem_drop (hd ▸ List.mem_cons_self)
    have hfl := flat_take (f := sgL) hd
    have hle0 := flat_le (f := sgL) (m := 2) (fun x => Nat.le_refl 2) b.links k
    have hle1 := flat_le (f := sgF) (m := 1) (fun x => Nat.le_refl 1) b.facts b.facts.length
    rw [List.take_length] at hle1
    (try simp only[↓jr,jw,seval,jq2,rwc_len,q_e6,ext_next,ext_tnext,Nat.le_refl,Nat.le_add_right,hx,hd])
    refine wc.intro (by omega) ?_
    obtain ⟨r', i, i', e0, hr', e1, hi, e2, hi'⟩ := hs.lnk x hmem
    have hSl : (b.facts.flatMap sgF ++ (b.links.take k).flatMap sgL).length ≤ 200 := by rw [List.length_append]; omega
    have hfl' : b.facts.flatMap sgF ++ (b.links.take (k + 1)).flatMap sgL = ((b.facts.flatMap sgF ++ (b.links.take k).flatMap sgL) ++ [(i, 16 + 2 * r')]) ++ [(i', 16 + (2 * r' + 1))] := by
      have e4 : sgL x = [(i, 16 + 2 * r'), (i', 16 + (2 * r' + 1))] := by show [(x.fr.toNat, 16 + 2 * x.role.toNat), (x.to.toNat, 16 + (2 * x.role.toNat + 1))] = _; rw [e0, e1, e2]; rfl
      rw [hfl, e4]; simp
    generalize hS : b.facts.flatMap sgF ++ (b.links.take k).flatMap sgL = S at hR hfl' hSl
    obtain ⟨t, hrow⟩ := hR.at hi
    have hld : icut none (rwc R) i = some (.sl t (stS S i).length (natv (stS S i))) := rwc_ld hrow
    (try simp only[↓jr,jw,seval,jq2,rwc_len,q_e6,ext_next,ext_tnext,Nat.le_refl,Nat.le_add_right,hx,hd,e0,e1,e2,hld])
    refine wc.intro (by omega) ?_
    (try simp only[↓jr,jw,seval,jq2,rwc_len,q_e6,ext_next,ext_tnext,Nat.le_refl,Nat.le_add_right,hx,hd,e0,e1,e2,hld])
    refine wr.in (by unfold R64; omega) ?_
    (try simp only[↓jr,jw,seval,jq2,rwc_len,q_e6,ext_next,ext_tnext,Nat.le_refl,Nat.le_add_right,hx])
    refine JDC.use (s_some (2 * (r' : Int)) (by unfold R64; omega) _) ?_
    (try simp only[↓jr,jw,seval,jq2,rwc_len,q_e6,ext_next,ext_tnext,Nat.le_refl,Nat.le_add_right,hx,n162,hld])
    refine JAPP.rows (v := 16 + 2 * r') (hR.push 1) hi hrow (ht.push 1) (by omega) ?_
    intro tok1 j1 hR1 ht1 hle
    have hx1 := ht1.next
    have hle' : jx.tnext ≤ j1.tnext := Nat.le_trans (Nat.le_succ _) hle
    have hst := @rwc_st R i (16 + 2 * r') tok1 (stS S i) (by rw [hR.len]; exact hi)
    have hRl := hR.len
    have hx2 : (jx.pushTok 1).next = j.next := hx
    (try simp only[↓jr,jw,seval,jq2,rwc_len,q_e6,ext_next,ext_tnext,Nat.le_refl,Nat.le_add_right,hx,hx1,hx2,e0,e1,e2,hst])
    refine wc.intro (by omega) ?_
    (try simp only[↓jr,jw,seval,jq2,rwc_len,q_e6,ext_next,ext_tnext,Nat.le_refl,Nat.le_add_right,hx,hx1,hx2,e0,e1,e2,hst])
    refine wc.intro (by omega) ?_
    (try simp only[↓jr,jw,seval,jq2,rwc_len,q_e6,ext_next,ext_tnext,Nat.le_refl,Nat.le_add_right,hx,hx1,hx2,e0,e1,e2,hst])
    refine JDRAW.oc (by (try simp only[↓jr,jw,seval,jq2,rwc_len,q_e6,ext_next,ext_tnext,Nat.le_refl,Nat.le_add_right,hx,hx1,hx2,e0,e1,e2,hst,jq]) <;> exact orq) ?_; (try simp only[↓jr,jw,seval,jq2,rwc_len,q_e6,ext_next,ext_tnext,Nat.le_refl,Nat.le_add_right,hx,hx1,hx2,e0,e1,e2,hst])
    have hRl1 := hR1.len
    generalize hRR : R.set i (tok1, stS S i ++ [16 + 2 * r']) = R1 at hR1 hRl1 ⊢
    obtain ⟨t2, hrow2⟩ := hR1.at hi'
    generalize hS2 : S ++ [(i, 16 + 2 * r')] = S2 at hR1 hrow2 hfl'
    have hS2l : S2.length ≤ 201 := by rw [← hS2, List.length_append]; simp; omega
    have hld2 : icut none (rwc R1) i' = some (.sl t2 (stS S2 i').length (natv (stS S2 i'))) := rwc_ld hrow2
    (try simp only[↓jr,jw,seval,jq2,rwc_len,q_e6,ext_next,ext_tnext,Nat.le_refl,Nat.le_add_right,hx1,e0,e1,e2,hld2])
    refine wc.intro (by omega) ?_
    (try simp only[↓jr,jw,seval,jq2,rwc_len,q_e6,ext_next,ext_tnext,Nat.le_refl,Nat.le_add_right,hx1,e0,e1,e2,hld2])
    refine wr.in (by unfold R64; omega) ?_
    (try simp only[↓jr,jw,seval,jq2,rwc_len,q_e6,ext_next,ext_tnext,Nat.le_refl,Nat.le_add_right,hx1,e0,e1,e2])
    refine wc.intro (by unfold R64; omega) ?_
    (try simp only[↓jr,jw,seval,jq2,rwc_len,q_e6,ext_next,ext_tnext,Nat.le_refl,Nat.le_add_right,hx1,e0,e1,e2])
    refine JDC.use (s_some (2 * (r' : Int) + 1) (by unfold R64; omega) _) ?_
    (try simp only[↓jr,jw,seval,jq2,rwc_len,q_e6,ext_next,ext_tnext,Nat.le_refl,Nat.le_add_right,hx1,e0,e1,e2,n163,hld2])
    refine JAPP.rows (v := 16 + (2 * r' + 1)) (hR1.push 1) hi' hrow2 (ht1.push 1) (by omega) ?_
    intro tok2 j2 hR2 ht2 hle2
    have hy1 := ht2.next
    have hle2' : j1.tnext ≤ j2.tnext := Nat.le_trans (Nat.le_succ _) hle2
    have hst2 := @rwc_st R1 i' (16 + (2 * r' + 1)) tok2 (stS S2 i') (by omega)
    have hy2 : (j1.pushTok 1).next = j.next := hx1
    (try simp only[↓jr,jw,seval,jq2,rwc_len,q_e6,ext_next,ext_tnext,Nat.le_refl,Nat.le_add_right,hx1,hy1,hy2,e0,e1,e2,hst2])
    refine wc.intro (by omega) ?_
    (try simp only[↓jr,jw,seval,jq2,rwc_len,q_e6,ext_next,ext_tnext,Nat.le_refl,Nat.le_add_right,hx1,hy1,hy2,e0,e1,e2,hst2])
    refine wc.intro (by omega) ?_
    (try simp only[↓jr,jw,seval,jq2,rwc_len,q_e6,ext_next,ext_tnext,Nat.le_refl,Nat.le_add_right,hx1,hy1,hy2,e0,e1,e2,hst2])
    refine JDRAW.oc (by (try simp only[↓jr,jw,seval,jq2,rwc_len,q_e6,ext_next,ext_tnext,Nat.le_refl,Nat.le_add_right,hx1,hy1,hy2,e0,e1,e2,hst2,jq]) <;> exact orq) ?_; (try simp only[↓jr,jw,seval,jq2,rwc_len,q_e6,ext_next,ext_tnext,Nat.le_refl,Nat.le_add_right,hx1,hy1,hy2,e0,e1,e2,hst2])
    refine wc.intro (by unfold R64; omega) ?_
    (try simp only[↓jr,jw,seval,jq2,rwc_len,q_e6,ext_next,ext_tnext,Nat.le_refl,Nat.le_add_right,hx1,hy1,hy2,e0,e1,e2,hst2])
    refine JNEXT.of (k + 1, R1.set i' (tok2, stS S2 i' ++ [16 + (2 * r' + 1)]), j2) ⟨by simp only; omega, ht2, by simp only [hfl']; exact hR2⟩ (by simp only; omega) ?_ (JDropH.nextT ht ht2 (TokExt.refl _) (Nat.le_trans hle' hle2') ⟨.inl ⟨rfl, rfl⟩, .inr ⟨rfl, rwc_sub hR2.fam⟩, True.intro⟩)
    (try simp only[↓jr,jw,seval,jq2,rwc_len,q_e6,ext_next,ext_tnext,Nat.le_refl,Nat.le_add_right,hx1,hy1,hy2,e0,e1,e2,hst2,DL])
    exact ⟨SubB.eqi (by omega), SubB.v, SubB.sl rfl (SubBs.pure (encs_pur Lnk.pur _)), SubB.ptr (by unfold pid; omega), SubB.arr (by unfold pid; omega)⟩
  (try simp only[↓jr,jw,seval,hx])
  have ek : k = b.links.length := by omega
  subst ek
  rw [List.take_length] at hR
  have eR : rwn (R.map (·.2)) = rwn ((List.range b.nms.is.length).map (stD b.dat)) := by
    rw [hR.eq]; unfold rowsS
    congr 1
    refine List.map_congr_left fun i _ => ?_
    rw [stD_eq, dat_flat]
  refine JFIN.ret (J := ext j [.cells 30 b.enc, .cells 129 (rwn ((List.range b.nms.is.length).map (stD b.dat)))]) (JDropH.keepT ht rfl fun q ob hq => ?_) (SubB.arr (by rw [ext_next]; unfold pid; simp))
  rw [← eR]
  match q, hq with
  | 0, hq => cases hq; exact ⟨_, rfl, OSub.pure (Bas.pur b)⟩
  | 1, hq => cases hq; exact ⟨_, rfl, rfl, rwn_sub R⟩
  | q + 2, hq => simp at hq
end Go.Proofs.YtkcbhebbjpiibaaDoor.Pg
