/-
  The program's reader: concepts.
-/
import Derived.Test.YtcajjicdbphkpaaDoorQo
import Derived.Test.YtcajjicdbphkpaaDoorPgH
set_option linter.unusedVariables false
set_option linter.unusedSimpArgs false
set_option maxRecDepth 100000
set_option maxHeartbeats 8000000
namespace Go.Proofs.YtcajjicdbphkpaaDoor.Pg
open Go
/-- A tree of a concept whose names are not yet looked up. -/
inductive PT where
  | mk (op : Int) (ref : Option (Bool × List UInt8 × Bool)) (args : List PT)
def pT : Nat → List (List UInt8) → Option (PT × List (List UInt8))
  | 0, _ => none
  | f + 1, [] => none
  | f + 1, t :: r =>
    if t = tTop then some (.mk 1 none [], r)
    else if t = tBot then some (.mk 2 none [], r)
    else if t = tNot then (pT f r).map fun x => (.mk 3 none [x.1], x.2)
    else if t = [40] then (match pT f r with
      | none => none
      | some (c, r1) => match r1 with
        | [] => none
        | o :: r2 => if o = tAnd ∨ o = tOr then (match pT f r2 with
          | none => none
          | some (d, r3) => match r3 with
            | [] => none
            | e :: r4 => if e = [41] then some (.mk (if o = tAnd then 4 else 5) none [c, d], r4) else none) else none)
    else if t = tSome ∨ t = tAll then (match roleP r with
      | none => none
      | some (s, inv, r1) => (pT f r1).map fun x => (.mk (if t = tAll then 7 else 6) (some (true, s, inv)) [x.1], x.2))
    else if wordK t then some (.mk 0 (some (false, t, false)) [], r) else none
/-- The same tree in memory. -/
inductive IT where
  | mk (id : Nat) (op : Int) (ref : Option (Bool × List UInt8 × Bool)) (args : List IT)
def IT.id : IT → Nat
  | .mk i _ _ _ => i
mutual
def IT.shape : IT → PT
  | .mk _ op ref l => .mk op ref (IT.shapes l)
def IT.shapes : List IT → List PT
  | [] => []
  | t :: l => t.shape :: IT.shapes l
end
mutual
def IT.ids : IT → List Nat
  | .mk i _ _ l => i :: IT.idsL l
def IT.idsL : List IT → List Nat
  | [] => []
  | t :: l => t.ids ++ IT.idsL l
end
mutual
/-- The names that are to be looked up, in order. -/
def IT.items : IT → List (Nat × Bool × List UInt8 × Bool)
  | .mk i _ ref l => (match ref with | some x => [(i, x)] | none => []) ++ IT.itemsL l
def IT.itemsL : List IT → List (Nat × Bool × List UInt8 × Bool)
  | [] => []
  | t :: l => t.items ++ IT.itemsL l
end
mutual
/-- A tree stands in memory; v: the numbers of its objects. -/
def TRep (v : Nat → Int) (j : JH) (ro : Nat) : IT → Prop
  | .mk i op _ l => (∃ tok, gA j ro i (.cells TE [I64 op, I64 (v i), .sl .nil 0 [], .sl tok l.length (l.map fun t => .ptr t.id 0)]) ∧ AV.low j.next j.tnext (.sl tok l.length (l.map fun t => .ptr t.id 0)) = true) ∧ TReps v j ro l
def TReps (v : Nat → Int) (j : JH) (ro : Nat) : List IT → Prop
  | [] => True
  | t :: l => TRep v j ro t ∧ TReps v j ro l
end
mutual
theorem TRep.grow {tb : Nat} {v : Nat → Int} {j j' : JH} {ro : Nat} (g : Grow ro tb j j') : ∀ (t : IT), TRep v j ro t → TRep v j' ro t
  | .mk i op ref l, h => by
    simp only [TRep] at h ⊢
    obtain ⟨⟨tok, h1, hw⟩, h2⟩ := h
    exact ⟨⟨tok, h1.grow g, low_mono g.next g.tnext _ hw⟩, TReps.grow g l h2⟩
theorem TReps.grow {tb : Nat} {v : Nat → Int} {j j' : JH} {ro : Nat} (g : Grow ro tb j j') : ∀ (l : List IT), TReps v j ro l → TReps v j' ro l
  | [], _ => True.intro
  | t :: l, h => by
    simp only [TReps] at h ⊢
    exact ⟨TRep.grow g t h.1, TReps.grow g l h.2⟩
end
def Lates (j : JH) (ro : Nat) : List (Nat × Bool × List UInt8 × Bool) → List AV → Prop
  | [], [] => True
  | (i, role, s, inv) :: r, av :: avs => Late j ro role (ofL s) inv i av ∧ Lates j ro r avs
  | _, _ => False
theorem Lates.grow {tb : Nat} {j j' : JH} {ro : Nat} (g : Grow ro tb j j') : ∀ {its : List (Nat × Bool × List UInt8 × Bool)} {avs : List AV}, Lates j ro its avs → Lates j' ro its avs
  | [], [], _ => True.intro
  | (i, role, s, inv) :: r, av :: avs, h => ⟨h.1.grow g, Lates.grow g h.2⟩
  | [], _ :: _, h => h.elim
  | (_, _, _, _) :: _, [], h => h.elim
theorem Lates.append {j : JH} {ro : Nat} : ∀ {its its' : List (Nat × Bool × List UInt8 × Bool)} {avs avs' : List AV}, Lates j ro its avs → Lates j ro its' avs' → Lates j ro (its ++ its') (avs ++ avs')
  | [], _, [], _, _, k => k
  | (i, role, s, inv) :: r, _, av :: avs, _, h, k => ⟨h.1, Lates.append h.2 k⟩
  | [], _, _ :: _, _, h, _ => h.elim
  | (_, _, _, _) :: _, _, [], _, h, _ => h.elim
/-- What reading a concept leaves. -/
def ConQ (tb : Nat) (j : JH) (ro nb : Nat) (b : Bool) (ls : List AV) (n : Nat) (res : Option (PT × List (List UInt8))) : AOut → JH → Prop := fun o j' => match res with
  | none => o = .pan wrongV ∧ Grow ro tb j j'
  | some (T, r) => ∃ I lt' avs, o = .ret (.ptr I.id 0) ∧ I.shape = T ∧ PRd j' ro nb r b lt' (ls ++ avs) ∧ CanA tb j' lt' (ls ++ avs).length ∧ Grow ro tb j j' ∧ Lates j' ro I.items avs ∧ TRep (fun _ => 0) j' ro I ∧ (∀ i ∈ I.ids, j.next ≤ i ∧ i < j'.next) ∧ I.ids.Nodup ∧ (ls ++ avs).length + r.length ≤ n
/-- One tree object is written. -/
structure Upd (ro q : Nat) (j J : JH) : Prop where
  next : J.next = j.next
  tnext : j.tnext ≤ J.tnext
  get : ∀ o, o ≠ q → o ≠ ro → J.get o = j.get o
  te : ∃ cs, j.get q = some (.cells TE cs)
theorem gA.upd {j J : JH} {ro o q : Nat} {t : TypeId} {cs : List AV} (h : gA j ro o (.cells t cs)) (u : Upd ro q j J) (ht : t ≠ TE) : gA J ro o (.cells t cs) := by
  obtain ⟨h1, h2, h3⟩ := h
  refine ⟨by rw [u.next]; exact h1, h2, ?_⟩
  rw [u.get o (fun e => ?_) h2]
  · exact h3
  · subst e
    obtain ⟨ds, e⟩ := u.te
    rw [h3] at e
    simp only [Option.some.injEq, AObj.cells.injEq] at e
    exact ht e.1
theorem Put.upd {j J : JH} {ro q : Nat} {role inv : Bool} {p : Nat} {put : AV} (h : Put j ro role inv p put) (u : Upd ro q j J) : Put J ro role inv p put := by
  unfold Put at h ⊢
  split
  · rename_i c; rw [if_pos c] at h; obtain ⟨e, i, t, h1, h2, h3, h4⟩ := h; exact ⟨e, i, t, h1, h2.upd u (by decide), h3.upd u (by decide), h4.upd u (by decide)⟩
  · rename_i c; rw [if_neg c] at h; obtain ⟨t, h1, h2⟩ := h; exact ⟨t, h1, h2.upd u (by decide)⟩
theorem Late.upd {j J : JH} {ro q : Nat} {role inv : Bool} {s : ByteArray} {p : Nat} {av : AV} (h : Late j ro role s inv p av) (u : Upd ro q j J) : Late J ro role s inv p av := by
  obtain ⟨a, b, c, d, put, h1, h2, h3, h4, h5, h6⟩ := h
  exact ⟨a, b, c, d, put, h1, h2.upd u (by decide), h3.upd u (by decide), h4.upd u (by decide), h5.upd u (by decide), h6.upd u⟩
theorem Lates.upd {j J : JH} {ro q : Nat} (u : Upd ro q j J) : ∀ {its : List (Nat × Bool × List UInt8 × Bool)} {avs : List AV}, Lates j ro its avs → Lates J ro its avs
  | [], [], _ => True.intro
  | (i, role, s, inv) :: r, av :: avs, h => ⟨h.1.upd u, Lates.upd u h.2⟩
  | [], _ :: _, h => h.elim
  | (_, _, _, _) :: _, [], h => h.elim
mutual
theorem TRep.upd {v : Nat → Int} {j J : JH} {ro q : Nat} (u : Upd ro q j J) : ∀ (t : IT), q ∉ t.ids → TRep v j ro t → TRep v J ro t
  | .mk i op ref l, hq, h => by
    simp only [IT.ids, List.mem_cons, not_or] at hq
    simp only [TRep] at h ⊢
    obtain ⟨⟨tok, h1, hw⟩, h2⟩ := h
    exact ⟨⟨tok, ⟨by rw [u.next]; exact h1.1, h1.2.1, (u.get i (fun e => hq.1 e.symm) h1.2.1).trans h1.2.2⟩, low_mono (by rw [u.next]; exact Nat.le_refl _) u.tnext _ hw⟩, TReps.upd u l hq.2 h2⟩
theorem TReps.upd {v : Nat → Int} {j J : JH} {ro q : Nat} (u : Upd ro q j J) : ∀ (l : List IT), q ∉ IT.idsL l → TReps v j ro l → TReps v J ro l
  | [], _, _ => True.intro
  | t :: l, hq, h => by
    simp only [IT.idsL, List.mem_append, not_or] at hq
    simp only [TReps] at h ⊢
    exact ⟨TRep.upd u t hq.1 h.1, TReps.upd u l hq.2 h.2⟩
end
theorem TRep.id_lt {v : Nat → Int} {j : JH} {ro : Nat} {t : IT} (h : TRep v j ro t) : t.id < j.next := by
  cases t with
  | mk i op ref l => simp only [TRep] at h; obtain ⟨⟨tok, h1, _⟩, _⟩ := h; exact h1.1
/-- A node with one argument. -/
theorem node1 {tb : Nat} {j j' : JH} {ro nb N : Nat} {b : Bool} {ls avs : List AV} {lt' : Tok} {r' : List (List UInt8)} {I : IT} {T : PT} {op : Int} {ref : Option (Bool × List UInt8 × Bool)} {avs0 : List AV} {q0 : Nat} {K : JH}
    (hq : pid j.next 0 = q0) (ho : ro < j.next) (hG : Grow ro tb j j') (hsh : I.shape = T) (h1 : PRd j' ro nb r' b lt' (ls ++ (avs0 ++ avs))) (h2 : CanA tb j' lt' (ls ++ (avs0 ++ avs)).length) (hl0 : Lates j' ro (match ref with | some x => [(q0, x)] | none => []) avs0) (h4 : Lates j' ro I.items avs) (h5 : TRep (fun _ => 0) j' ro I)
    (h6 : ∀ i ∈ I.ids, pid j.next 2 ≤ i ∧ i < j'.next) (h7 : I.ids.Nodup) (h8 : (ls ++ (avs0 ++ avs)).length + r'.length ≤ N) (hn : pid j.next 2 ≤ j'.next) (hK : K = (j'.pushTok 1).set q0 (.cells TE [I64 op, I64 0, .sl .nil 0 [], .sl (.own j'.tnext 0 1) 1 [.ptr I.id 0]])) (hte : ∃ cs, j'.get q0 = some (.cells TE cs)) :
    @JFIN (Pg.ext j []) K (.ptr q0 0) ⟨fun y j'' => ConQ tb j ro nb b ls N (some (.mk op ref [T], r')) (.ret y) j''⟩ := by
  subst hK
  have hq0 : q0 < j'.next := by rw [← hq]; unfold pid at hn ⊢; omega
  have hqr : q0 ≠ ro := by rw [← hq]; unfold pid; omega
  have hqi : q0 ∉ I.ids := fun h => by have := (h6 _ h).1; rw [← hq] at this; unfold pid at this; omega
  have u : Upd ro q0 j' ((j'.pushTok 1).set q0 (.cells TE [I64 op, I64 0, .sl .nil 0 [], .sl (.own j'.tnext 0 1) 1 [.ptr I.id 0]])) :=
    ⟨rfl, Nat.le_succ _, fun o ho _ => by rw [set_get, if_neg ho]; rfl, hte⟩
  refine JFIN.same (SubB.ptr hq0) ⟨.mk q0 op ref [I], lt', avs0 ++ avs, rfl, by simp only [IT.shape, IT.shapes, hsh], ⟨h1.ho, ?_, h1.hn, low_mono (Nat.le_refl _) (Nat.le_succ _) _ h1.hl⟩, ?_, ?_, ?_, ?_, ?_, ?_, h8⟩
  · rw [set_get, if_neg (fun e => hqr e.symm)]; exact h1.hg
  · exact h2.push
  · exact ⟨hG.next, Nat.le_trans hG.tnext (Nat.le_succ _), fun o ho2 hne => (u.get o (by rw [← hq]; unfold pid; omega) hne).trans (hG.get o ho2 hne), fun t ht => (show (if t = j'.tnext then some _ else j'.tok t) = _ by rw [if_neg (by have := h2.1; omega)]; exact hG.tok t ht)⟩
  · simp only [IT.items, IT.itemsL, List.append_nil]
    exact Lates.append (Lates.upd u hl0) (Lates.upd u h4)
  · simp only [TRep, TReps, and_true]
    have hil := h5.id_lt
    exact ⟨⟨_, ⟨hq0, hqr, by rw [set_get, if_pos rfl]; rfl⟩, by simp only [List.map_cons, List.map_nil, AV.low, AV.lows, Bool.and_true, Bool.and_eq_true, decide_eq_true_eq]; exact ⟨Nat.lt_succ_self _, hil⟩⟩, TRep.upd u I hqi h5⟩
  · intro i hi
    simp only [IT.ids, IT.idsL, List.append_nil, List.mem_cons] at hi
    rcases hi with rfl | hi
    · exact ⟨by rw [← hq]; unfold pid; omega, hq0⟩
    · exact ⟨by have := (h6 i hi).1; unfold pid at this; omega, (h6 i hi).2⟩
  · simp only [IT.ids, IT.idsL, List.append_nil, List.nodup_cons]
    exact ⟨hqi, h7⟩
theorem roleP_len {r r1 : List (List UInt8)} {s : List UInt8} {inv : Bool} (h : roleP r = some (s, inv, r1)) : r1.length + 1 ≤ r.length ∧ ∀ t ∈ r1, t ∈ r := by
  unfold roleP at h
  split at h
  · rename_i t r'
    split at h
    · split at h
      · rename_i m r2
        split at h
        · simp only [Option.some.injEq, Prod.mk.injEq] at h
          obtain ⟨_, _, rfl⟩ := h
          exact ⟨by simp, fun t ht => by simp [ht]⟩
        · simp only [Option.some.injEq, Prod.mk.injEq] at h
          obtain ⟨_, _, rfl⟩ := h
          exact ⟨by simp, fun t ht => List.mem_cons_of_mem _ ht⟩
      · simp only [Option.some.injEq, Prod.mk.injEq] at h
        obtain ⟨_, _, rfl⟩ := h
        exact ⟨by simp, fun t ht => by cases ht⟩
    · cases h
  · cases h
theorem pT_sub : ∀ (f : Nat) {ts r : List (List UInt8)} {T : PT}, pT f ts = some (T, r) → ∀ t ∈ r, t ∈ ts
  | 0, ts, r, T, h => by simp [pT] at h
  | f + 1, [], r, T, h => by simp [pT] at h
  | f + 1, t :: r0, r, T, h => by
    have ih := @pT_sub f
    simp only [pT] at h
    repeat' split at h
    all_goals try (cases h; done)
    all_goals try (simp only [Option.some.injEq, Prod.mk.injEq] at h; obtain ⟨_, rfl⟩ := h; intro x hx; exact List.mem_cons_of_mem _ hx)
    all_goals first
      | (obtain ⟨⟨T', r'⟩, h1, h2⟩ := Option.map_eq_some_iff.1 h
         simp only [Prod.mk.injEq] at h2
         obtain ⟨_, rfl⟩ := h2
         exact fun x hx => List.mem_cons_of_mem _ (ih h1 x hx))
      | (obtain ⟨⟨T', r'⟩, h1, h2⟩ := Option.map_eq_some_iff.1 h
         simp only [Prod.mk.injEq] at h2
         obtain ⟨_, rfl⟩ := h2
         exact fun x hx => List.mem_cons_of_mem _ ((roleP_len (by assumption)).2 x (ih h1 x hx)))
      | (simp only [Option.some.injEq, Prod.mk.injEq] at h
         obtain ⟨_, rfl⟩ := h
         rename_i q1 _ _ _ _ _ _ q2 _ _ _
         intro x hx
         exact List.mem_cons_of_mem _ (ih q1 x (List.mem_cons_of_mem _ (ih q2 x (List.mem_cons_of_mem _ hx)))))
theorem Grow.new {tb : Nat} {ro q : Nat} {j j1 : JH} {x : AObj} (g : Grow ro tb j j1) (h : j.next ≤ q) : Grow ro tb j (j1.set q x) := ⟨g.next, g.tnext, fun o ho hne => by rw [set_get, if_neg (by omega)]; exact g.get o ho hne, g.tok⟩
/-- A node with two arguments, and the bracket behind them. -/
theorem node2 {tb : Nat} {j j' : JH} {ro nb N mid : Nat} {b : Bool} {ls avs1 avs2 : List AV} {lt' : Tok} {r3 r4 : List (List UInt8)} {I1 I2 : IT} {T1 T2 : PT} {op : Int} {q0 : Nat} {K : JH}
    (hq : pid j.next 0 = q0) (ho : ro < j.next) (hG : Grow ro tb j j') (hs1 : I1.shape = T1) (hs2 : I2.shape = T2) (h1 : PRd j' ro nb r3 b lt' (ls ++ avs1 ++ avs2)) (h2 : CanA tb j' lt' (ls ++ avs1 ++ avs2).length) (l1 : Lates j' ro I1.items avs1) (l2 : Lates j' ro I2.items avs2) (t1 : TRep (fun _ => 0) j' ro I1) (t2 : TRep (fun _ => 0) j' ro I2)
    (i1 : ∀ i ∈ I1.ids, pid j.next 2 ≤ i ∧ i < mid) (i2 : ∀ i ∈ I2.ids, mid ≤ i ∧ i < j'.next) (n1 : I1.ids.Nodup) (n2 : I2.ids.Nodup) (hm : pid j.next 2 ≤ mid) (hm2 : mid ≤ j'.next) (h8 : (ls ++ avs1 ++ avs2).length + r4.length ≤ N)
    (hK : K = ((j'.pushTok 2).set q0 (.cells TE [I64 op, I64 0, .sl .nil 0 [], .sl (.own j'.tnext 0 1) 2 [.ptr I1.id 0, .ptr I2.id 0]])).set ro (.cells PE (prC nb r4 b lt' (ls ++ avs1 ++ avs2)))) (hte : ∃ cs, j'.get q0 = some (.cells TE cs)) :
    @JFIN (Pg.ext j []) K (.ptr q0 0) ⟨fun y j'' => ConQ tb j ro nb b ls N (some (.mk op none [T1, T2], r4)) (.ret y) j''⟩ := by
  subst hK
  have hq0 : q0 < j'.next := by rw [← hq]; unfold pid at hm ⊢; omega
  have hqr : q0 ≠ ro := by rw [← hq]; unfold pid; omega
  have hq1 : q0 ∉ I1.ids := fun h => by have := (i1 _ h).1; rw [← hq] at this; unfold pid at this; omega
  have hq2 : q0 ∉ I2.ids := fun h => by have := (i2 _ h).1; rw [← hq] at this; unfold pid at this hm; omega
  have u : Upd ro q0 j' (((j'.pushTok 2).set q0 (.cells TE [I64 op, I64 0, .sl .nil 0 [], .sl (.own j'.tnext 0 1) 2 [.ptr I1.id 0, .ptr I2.id 0]])).set ro (.cells PE (prC nb r4 b lt' (ls ++ avs1 ++ avs2)))) :=
    ⟨rfl, Nat.le_succ _, fun o ho ho2 => by rw [set_get, if_neg ho2, set_get, if_neg ho]; rfl, hte⟩
  refine JFIN.same (SubB.ptr hq0) ⟨.mk q0 op none [I1, I2], lt', avs1 ++ avs2, rfl, by simp only [IT.shape, IT.shapes, hs1, hs2], ⟨h1.ho, ?_, h1.hn, ?_⟩, ?_, ?_, ?_, ?_, ?_, ?_, by rw [← List.append_assoc]; exact h8⟩
  · rw [set_get, if_pos rfl, ← List.append_assoc]
  · rw [← List.append_assoc]; exact low_mono (Nat.le_refl _) (Nat.le_succ _) _ h1.hl
  · rw [← List.append_assoc]; exact h2.push
  · exact ⟨hG.next, Nat.le_trans hG.tnext (Nat.le_succ _), fun o ho2 hne => (u.get o (by rw [← hq]; unfold pid; omega) hne).trans (hG.get o ho2 hne), fun t ht => (show (if t = j'.tnext then some _ else j'.tok t) = _ by rw [if_neg (by have := h2.1; omega)]; exact hG.tok t ht)⟩
  · simp only [IT.items, IT.itemsL, List.append_nil, List.nil_append]
    exact Lates.append (Lates.upd u l1) (Lates.upd u l2)
  · simp only [TRep, TReps, and_true]
    have hi1 := t1.id_lt
    have hi2 := t2.id_lt
    exact ⟨⟨_, ⟨hq0, hqr, by rw [set_get, if_neg hqr, set_get, if_pos rfl]; rfl⟩, by simp only [List.map_cons, List.map_nil, AV.low, AV.lows, Bool.and_true, Bool.and_eq_true, decide_eq_true_eq]; exact ⟨Nat.lt_succ_self _, hi1, hi2⟩⟩, TRep.upd u I1 hq1 t1, TRep.upd u I2 hq2 t2⟩
  · intro i hi
    simp only [IT.ids, IT.idsL, List.append_nil, List.mem_cons, List.mem_append] at hi
    rcases hi with rfl | hi | hi
    · exact ⟨by rw [← hq]; unfold pid; omega, hq0⟩
    · exact ⟨by have := (i1 i hi).1; unfold pid at this; omega, Nat.lt_of_lt_of_le (i1 i hi).2 hm2⟩
    · exact ⟨by have := (i2 i hi).1; unfold pid at hm; omega, (i2 i hi).2⟩
  · simp only [IT.ids, IT.idsL, List.append_nil, List.nodup_cons, List.mem_append, not_or]
    refine ⟨⟨hq1, hq2⟩, List.nodup_append.2 ⟨n1, n2, ?_⟩⟩
    intro x hx y hy e
    have := (i1 x hx).2; have := (i2 y hy).1; omega
/-- The memory behind the sign between two concepts. -/
structure J3ok (j1 J : JH) (ro q0 : Nat) (op : Int) (x : AObj) : Prop where
  next : J.next = j1.next
  tnext : J.tnext = j1.tnext
  tok : J.tok = j1.tok
  get : ∀ o, o ≠ q0 → o ≠ ro → J.get o = j1.get o
  g0 : J.get q0 = some (.cells TE [I64 op, I64 0, .sl .nil 0 [], .sl .nil 0 []])
  gr : J.get ro = some x
theorem J3ok.one {j1 : JH} {ro q0 : Nat} {op op' : Int} {x : AObj} (h : ro ≠ q0) : J3ok j1 ((j1.set q0 (.cells TE [I64 op, I64 0, .sl .nil 0 [], .sl .nil 0 []])).set ro x) ro q0 op x :=
  ⟨rfl, rfl, rfl, fun o h1 h2 => by rw [set_get, if_neg h2, set_get, if_neg h1], by rw [set_get, if_neg h.symm, set_get, if_pos rfl], by rw [set_get, if_pos rfl]⟩
theorem J3ok.two {j1 : JH} {ro q0 : Nat} {op op' : Int} {x : AObj} (h : ro ≠ q0) : J3ok j1 (((j1.set q0 (.cells TE [I64 op', I64 0, .sl .nil 0 [], .sl .nil 0 []])).set ro x).set q0 (.cells TE [I64 op, I64 0, .sl .nil 0 [], .sl .nil 0 []])) ro q0 op x :=
  ⟨rfl, rfl, rfl, fun o h1 h2 => by rw [set_get, if_neg h1, set_get, if_neg h2, set_get, if_neg h1], by rw [set_get, if_pos rfl], by rw [set_get, if_neg h, set_get, if_pos rfl]⟩
theorem ext_get0 {j : JH} {a b : AObj} : (Pg.ext j [a, b]).get (pid j.next 0) = some a := by unfold Pg.ext pid; simp
theorem ext_get1 {j : JH} {a b : AObj} : (Pg.ext j [a, b]).get (pid j.next 1) = some b := by unfold Pg.ext pid; simp only; rw [if_neg (by omega), show j.next + 1 - j.next = 1 by omega]; rfl
theorem pid_10 {n : Nat} : (pid n 1 = pid n 0) = False := by unfold pid; simp
section
variable {m : Int}
def irh44 : IFnH := ⟨101, [⟨2, none⟩], (.seq (.base (.reg [oA 2 (.mov (.k (.v (.pointer none))))])) (.seq (.base (.reg [oA 5 (.build [.v (.int .i64 0), .v (.int .i64 0), .sl .nil 0 [], .sl .nil 0 []] []), oA 6 (.box 101 (.r 5)), oA 3 (.alloc 70 [.v (.pointer none)]), oN (.store 1 (.r 3) (.r 6))])) (.seq (.block 0 (.seq (.base (.reg [oA 17 (kM 0), oA 18 (.call 70 [.r 17, .k (.v (.string ⟨#[116, 111, 112]⟩))]), oA 16 (kM 18)])) (.cond (.r 16) (.base (.reg [oL 19 3 none, oA 20 (.nchk (.r 19)), oA 21 (.fadr 0 (.r 20)), oA 22 (.fadr 0 (.r 21)), oN (.store 1 (.r 22) (kI 1))])) (.seq (.base (.reg [oA 24 (kM 0), oA 25 (.call 70 [.r 24, .k (.v (.string ⟨#[98, 111, 116]⟩))]), oA 23 (kM 25)])) (.cond (.r 23) (.base (.reg [oL 26 3 none, oA 27 (.nchk (.r 26)), oA 28 (.fadr 0 (.r 27)), oA 29 (.fadr 0 (.r 28)), oN (.store 1 (.r 29) (kI 2))])) (.seq (.base (.reg [oA 31 (kM 0), oA 32 (.call 70 [.r 31, .k (.v (.string ⟨#[110, 111, 116]⟩))]), oA 30 (kM 32)])) (.cond (.r 30) (.seq (.base (.reg [oL 33 3 none, oA 34 (.nchk (.r 33)), oA 35 (.fadr 0 (.r 34)), oA 36 (.fadr 0 (.r 35)), oN (.store 1 (.r 36) (kI 3))])) (.held 2 [oL 37 3 none, oA 38 (kM 0), oT 39 38 (.call 44 [.r 38]), oA 40 (.bsl 1 1 [.v (.pointer none)] [(0, (1, .r 39))]), oA 41 (.nchk (.r 37)), oA 42 (.fadr 3 (.r 41)), oN (.store 1 (.r 42) (.r 40))])) (.seq (.base (.reg [oA 44 (kM 0), oA 45 (.call 70 [.r 44, .k (.v (.string ⟨#[40]⟩))]), oA 43 (kM 45)])) (.cond (.r 43) (.seq (.base (.reg [oA 46 (kM 0), oT 47 46 (.call 44 [.r 46]), oA 4 (kM 47)])) (.seq (.base (.reg [oL 48 3 none, oA 49 (.nchk (.r 48)), oA 50 (.fadr 0 (.r 49)), oA 51 (.fadr 0 (.r 50)), oN (.store 1 (.r 51) (kI 4))])) (.seq (.seq (.base (.reg [oA 52 (kM 0), oA 53 (.call 70 [.r 52, .k (.v (.string ⟨#[97, 110, 100]⟩))]), oA 54 (.not (.r 53))])) (.cond (.r 54) (.seq (.base (.reg [oA 55 (kM 0), oA 56 (.call 71 [.r 55, .k (.v (.string ⟨#[111, 114]⟩))])])) (.base (.reg [oL 57 3 none, oA 58 (.nchk (.r 57)), oA 59 (.fadr 0 (.r 58)), oA 60 (.fadr 0 (.r 59)), oN (.store 1 (.r 60) (kI 5))]))) (.base .skip))) (.seq (.held 3 [oL 61 3 none, oA 62 (kM 4), oA 63 (kM 0), oT 64 63 (.call 44 [.r 63]), oA 65 (.bsl 2 1 [.v (.pointer none)] [(0, (1, .r 62)), (1, (1, .r 64))]), oA 66 (.nchk (.r 61)), oA 67 (.fadr 3 (.r 66)), oN (.store 1 (.r 67) (.r 65))]) (.base (.reg [oA 68 (kM 0), oA 69 (.call 71 [.r 68, .k (.v (.string ⟨#[41]⟩))])])))))) (.seq (.base (.reg [oA 71 (kM 0), oT 72 71 (.call 45 [.r 71]), oA 73 (.bin .eql (.r 72) (.k (.v (.string ⟨#[115, 111, 109, 101]⟩)))), oA 74 (kM 73), ⟨(some 75), (some ((74, false))), none, (kM 0)⟩, ⟨(some 76), (some ((74, false))), (some (.r 75)), (.call 45 [.r 75])⟩, ⟨(some 77), (some ((74, false))), none, (.bin .eql (.r 76) (.k (.v (.string ⟨#[97, 108, 108]⟩))))⟩, oA 78 (.pick (.r 74) (kB true) (.r 77)), oA 70 (kM 78)])) (.cond (.r 70) (.seq (.base (.reg [oL 79 3 none, oA 80 (.nchk (.r 79)), oA 81 (.fadr 0 (.r 80)), oA 82 (.fadr 0 (.r 81)), oN (.store 1 (.r 82) (kI 6))])) (.seq (.seq (.base (.reg [oA 83 (kM 0), oA 84 (.call 70 [.r 83, .k (.v (.string ⟨#[97, 108, 108]⟩))])])) (.cond (.r 84) (.base (.reg [oL 85 3 none, oA 86 (.nchk (.r 85)), oA 87 (.fadr 0 (.r 86)), oA 88 (.fadr 0 (.r 87)), oN (.store 1 (.r 88) (kI 7))])) (.base (.reg [oA 89 (kM 0), oA 90 (.call 71 [.r 89, .k (.v (.string ⟨#[115, 111, 109, 101]⟩))])])))) (.seq (.base (.reg [oA 91 (kM 0), oA 92 (.mkf (.func 73) [] [.r 3]), oA 93 (.call 72 [.r 91, .r 92])])) (.held 2 [oL 94 3 none, oA 95 (kM 0), oT 96 95 (.call 44 [.r 95]), oA 97 (.bsl 1 1 [.v (.pointer none)] [(0, (1, .r 96))]), oA 98 (.nchk (.r 94)), oA 99 (.fadr 3 (.r 98)), oN (.store 1 (.r 99) (.r 97))])))) (.seq (.base (.reg [oL 7 3 none, oA 8 (.nchk (.r 7)), oA 9 (.fadr 0 (.r 8)), oA 10 (.fadr 0 (.r 9)), oN (.store 1 (.r 10) (kI 0))])) (.base (.reg [oA 11 (kM 0), oA 12 (kM 0), oT 13 12 (.call 75 [.r 12]), oA 14 (.mkf (.func 77) [] [.r 3]), oA 15 (.call 74 [.r 11, .r 13, .k (.fn (.func 76) [] []), .r 14])])))))))))))))) (.seq (.base (.reg [oL 100 3 none, oA 2 (kM 100)])) (.base .ret)))))⟩
theorem ch44 : cfuncH Tryd.prog 44 = some irh44 := by kernel_rfl
theorem kh44 : okIRH (max 1 irh44.n) irh44.ir = true := by decide +kernel
theorem s_Concept {tb : Nat} {sg : List UInt8} : ∀ (f : Nat) {j : JH} {ro nb : Nat} {ts : List (List UInt8)} {b : Bool} {lt : Tok} {ls : List AV}, PRd j ro nb ts b lt ls → CanA tb j lt ls.length → ls.length + ts.length ≤ 1000000 → (∀ t ∈ ts, tkOK sg t ∧ t.length ≤ 1000000) → ts.length < f →
    JC Tryd.prog (GG m) 44 [.ptr ro 0] j (ConQ tb j ro nb b ls (ls.length + ts.length) (pT f ts)) := by
  intro f
  induction f with
  | zero => intro j ro nb ts b lt ls h hc hl hts hf; omega
  | succ f ih =>
    intro j ro nb ts b lt ls h hc hl hts hf
    have low : ∀ k, AV.low (pid j.next k) j.tnext (.sl lt ls.length ls) = true := fun k => low_mono (by unfold pid; omega) (Nat.le_refl _) _ h.hl
    have h' := h.ex [(.cells TE [I64 0, I64 0, .sl .nil 0 [], .sl .nil 0 []]), (.cells 70 [.ptr (pid j.next 0) 0])] (low 2)
    obtain ⟨ho, hg, hn, hl0⟩ := h
    have hP : ∀ (r' : List (List UInt8)) (x y : AObj), PRd (Pg.ext (j.set ro (.cells PE (prC nb r' b lt ls))) [x, y]) ro nb r' b lt ls := fun r' x y =>
      ⟨by rw [ext_next, set_next]; unfold pid; omega, by rw [ext_get_old (by rw [set_next]; exact ho), set_get, if_pos rfl], by rw [ext_next, set_next]; unfold pid; omega, by rw [ext_next, ext_tnext, set_next, set_tnext]; exact low 2⟩
    have hG : ∀ (r' : List (List UInt8)) (x y : AObj), Grow ro tb j (Pg.ext (j.set ro (.cells PE (prC nb r' b lt ls))) [x, y]) := fun r' x y => Grow.set.trans Grow.ext
    have leaf : ∀ (op : Int) (r' : List (List UInt8)), ls.length + r'.length ≤ ls.length + ts.length → @JFIN (Pg.ext j []) (Pg.ext (j.set ro (.cells PE (prC nb r' b lt ls))) [(.cells TE [I64 op, I64 0, .sl .nil 0 [], .sl .nil 0 []]), (.cells 70 [.ptr (pid j.next 0) 0])]) (.ptr (pid j.next 0) 0) ⟨fun y j' => ConQ tb j ro nb b ls (ls.length + ts.length) (some (.mk op none [], r')) (.ret y) j'⟩ := by
      intro op r' hlen
      have hnx : (Pg.ext (j.set ro (.cells PE (prC nb r' b lt ls))) [(.cells TE [I64 op, I64 0, .sl .nil 0 [], .sl .nil 0 []]), (.cells 70 [.ptr (pid j.next 0) 0])]).next = pid j.next 2 := rfl
      refine JFIN.same (SubB.ptr (by rw [hnx, pid_lt]; omega)) ⟨.mk (pid j.next 0) op none [], lt, [], rfl, rfl, by rw [List.append_nil]; exact hP _ _ _, by rw [List.append_nil]; exact hc, hG _ _ _, True.intro, ?_, ?_, by simp [IT.ids, IT.idsL], by rw [List.append_nil]; exact hlen⟩
      · simp only [TRep, TReps, and_true]
        exact ⟨.nil, ⟨by rw [hnx, pid_lt]; omega, by unfold pid; omega, ext_get0 (j := j.set ro _)⟩, rfl⟩
      · intro i hi
        simp only [IT.ids, IT.idsL, List.mem_cons, List.not_mem_nil, or_false] at hi
        subst hi
        rw [hnx]; unfold pid; omega
    refine JC.runH hmix ch44 (by exact kh44) ?_
    (try simp only[↓jr,jw,seval,ext_get_old,ext_set_old,ho,hg,set_get,set_set,rh1,rh2,rh3,rh4,rh5,rh6,rh7,rh8,rh9,rh11,rh12,rh13,rh14,rh15,true_and,irh44,rh1,rh2,rh3,rh4,rh5,rh6,rh7,rh8,rh9,rh11,rh12,rh13,rh14,rh15,true_and])
    cases ts with
    | nil =>
      have ne : ∀ t : List UInt8, t ≠ [] → hdS [] ≠ ofL t := fun t ht q => by
        have : t.length = 0 := by rw [← ofL_size, ← q]; rfl
        exact ht (List.eq_nil_of_length_eq_zero this)
      refine JCs.ret (s_IsF h' tTop (ne _ (by simp))) ?_
      (try simp only[↓jr,jw,seval,ext_get_old,ext_set_old,ho,hg,set_get,set_set,rh1,rh2,rh3,rh4,rh5,rh6,rh7,rh8,rh9,rh11,rh12,rh13,rh14,rh15,true_and])
      refine JCs.ret (s_IsF h' tBot (ne _ (by simp))) ?_
      (try simp only[↓jr,jw,seval,ext_get_old,ext_set_old,ho,hg,set_get,set_set,rh1,rh2,rh3,rh4,rh5,rh6,rh7,rh8,rh9,rh11,rh12,rh13,rh14,rh15,true_and])
      refine JCs.ret (s_IsF h' tNot (ne _ (by simp))) ?_
      (try simp only[↓jr,jw,seval,ext_get_old,ext_set_old,ho,hg,set_get,set_set,rh1,rh2,rh3,rh4,rh5,rh6,rh7,rh8,rh9,rh11,rh12,rh13,rh14,rh15,true_and])
      refine JCs.ret (s_IsF h' [40] (ne _ (by simp))) ?_
      (try simp only[↓jr,jw,seval,ext_get_old,ext_set_old,ho,hg,set_get,set_set,rh1,rh2,rh3,rh4,rh5,rh6,rh7,rh8,rh9,rh11,rh12,rh13,rh14,rh15,true_and])
      refine JCs.ret (s_Next h') ?_
      simp only [hdS]
      (try simp only[↓jr,jw,seval,ext_get_old,ext_set_old,ho,hg,set_get,set_set,rh1,rh2,rh3,rh4,rh5,rh6,rh7,rh8,rh9,rh11,rh12,rh13,rh14,rh15,true_and])
      refine wq.intro (fun q => absurd (congrArg ByteArray.size q) (by decide)) (fun _ => ?_)
      (try simp only[↓jr,jw,seval,ext_get_old,ext_set_old,ho,hg,set_get,set_set,rh1,rh2,rh3,rh4,rh5,rh6,rh7,rh8,rh9,rh11,rh12,rh13,rh14,rh15,true_and])
      refine JCs.ret (s_Next h') ?_
      simp only [hdS]
      (try simp only[↓jr,jw,seval,ext_get_old,ext_set_old,ho,hg,set_get,set_set,rh1,rh2,rh3,rh4,rh5,rh6,rh7,rh8,rh9,rh11,rh12,rh13,rh14,rh15,true_and])
      refine wq.intro (fun q => absurd (congrArg ByteArray.size q) (by decide)) (fun _ => ?_)
      (try simp only[↓jr,jw,seval,ext_get_old,ext_set_old,ho,hg,set_get,set_set,rh1,rh2,rh3,rh4,rh5,rh6,rh7,rh8,rh9,rh11,rh12,rh13,rh14,rh15,true_and])
      refine JCs.pan (s_WordN h') ?_
      (try simp only[↓jr,jw,seval,ext_get_old,ext_set_old,ho,hg,set_get,set_set,rh1,rh2,rh3,rh4,rh5,rh6,rh7,rh8,rh9,rh11,rh12,rh13,rh14,rh15,true_and])
      exact JFIN.same (SubB.pure rfl) ⟨rfl, Grow.ext⟩
    | cons t r =>
      have ne : ∀ t' : List UInt8, ¬ t = t' → hdS (t :: r) ≠ ofL t' := fun t' ht q => ht (ofL_inj q)
      by_cases k1 : t = tTop
      · subst k1
        refine JCs.ret (s_IsT h') ?_
        (try simp only[↓jr,jw,seval,ext_get_old,ext_set_old,ho,hg,set_get,set_set,rh1,rh2,rh3,rh4,rh5,rh6,rh7,rh8,rh9,rh11,rh12,rh13,rh14,rh15,true_and])
        exact leaf 1 r (by simp)
      refine JCs.ret (s_IsF h' tTop (ne _ k1)) ?_
      (try simp only[↓jr,jw,seval,ext_get_old,ext_set_old,ho,hg,set_get,set_set,rh1,rh2,rh3,rh4,rh5,rh6,rh7,rh8,rh9,rh11,rh12,rh13,rh14,rh15,true_and])
      by_cases k2 : t = tBot
      · subst k2
        refine JCs.ret (s_IsT h') ?_
        (try simp only[↓jr,jw,seval,ext_get_old,ext_set_old,ho,hg,set_get,set_set,rh1,rh2,rh3,rh4,rh5,rh6,rh7,rh8,rh9,rh11,rh12,rh13,rh14,rh15,true_and])
        exact leaf 2 r (by simp)
      refine JCs.ret (s_IsF h' tBot (ne _ k2)) ?_
      (try simp only[↓jr,jw,seval,ext_get_old,ext_set_old,ho,hg,set_get,set_set,rh1,rh2,rh3,rh4,rh5,rh6,rh7,rh8,rh9,rh11,rh12,rh13,rh14,rh15,true_and])
      by_cases k3 : t = tNot
      · subst k3
        refine JCs.ret (s_IsT h') ?_
        (try simp only[↓jr,jw,seval,ext_get_old,ext_set_old,ho,hg,set_get,set_set,rh1,rh2,rh3,rh4,rh5,rh6,rh7,rh8,rh9,rh11,rh12,rh13,rh14,rh15,true_and])
        refine JHLD.early (.ptr (pid j.next 0) 0) rfl (by (try simp only[↓jr,jw,seval,ext_get_old,ext_set_old,ho,hg,set_get,set_set,rh1,rh2,rh3,rh4,rh5,rh6,rh7,rh8,rh9,rh11,rh12,rh13,rh14,rh15,true_and])) ?_
        (try simp only[↓jr,jw,seval,ext_get_old,ext_set_old,ho,hg,set_get,set_set,rh1,rh2,rh3,rh4,rh5,rh6,rh7,rh8,rh9,rh11,rh12,rh13,rh14,rh15,true_and])
        refine JHLD.early (.ptr ro 0) rfl (by (try simp only[↓jr,jw,seval,ext_get_old,ext_set_old,ho,hg,set_get,set_set,rh1,rh2,rh3,rh4,rh5,rh6,rh7,rh8,rh9,rh11,rh12,rh13,rh14,rh15,true_and])) ?_
        (try simp only[↓jr,jw,seval,ext_get_old,ext_set_old,ho,hg,set_get,set_set,rh1,rh2,rh3,rh4,rh5,rh6,rh7,rh8,rh9,rh11,rh12,rh13,rh14,rh15,true_and])
        refine JHLD.go ?_
        (try simp only[↓jr,jw,seval,ext_get_old,ext_set_old,ho,hg,set_get,set_set,rh1,rh2,rh3,rh4,rh5,rh6,rh7,rh8,rh9,rh11,rh12,rh13,rh14,rh15,true_and])
        refine JC.mono (ih (hP r _ _) hc (by simp only [List.length_cons] at hl; omega) (fun t ht => hts t (by simp [ht])) (by simp only [List.length_cons] at hf; omega)) ?_
        intro o j' q
        cases hp : pT f r with
        | none =>
          rw [hp] at q
          obtain ⟨rfl, g⟩ := q
          have e : pT (f + 1) (tNot :: r) = none := by simp only [pT, if_neg k1, if_neg k2, if_true, hp, Option.map_none]
          rw [e]
          (try simp only[↓jr,jw,seval,ext_get_old,ext_set_old,ho,hg,set_get,set_set,rh1,rh2,rh3,rh4,rh5,rh6,rh7,rh8,rh9,rh11,rh12,rh13,rh14,rh15,true_and])
          exact fun _ => JFIN.same (SubB.pure rfl) ⟨rfl, (hG r _ _).trans g⟩
        | some x =>
          obtain ⟨T, r'⟩ := x
          rw [hp] at q
          obtain ⟨I, lt', avs, rfl, hsh, h1, h2, h3, h4, h5, h6, h7, h8⟩ := q
          have e : pT (f + 1) (tNot :: r) = some (.mk 3 none [T], r') := by simp only [pT, if_neg k1, if_neg k2, if_true, hp, Option.map_some]
          rw [e]
          have gA0 : j'.get (pid j.next 0) = some (.cells TE [I64 3, I64 0, .sl .nil 0 [], .sl .nil 0 []]) := (h3.get (pid j.next 0) (by rw [ext_next, set_next]; unfold pid; simp) (by unfold pid; omega)).trans (ext_get0 (j := j.set ro _))
          have gA1 : j'.get (pid j.next 1) = some (.cells 70 [.ptr (pid j.next 0) 0]) := (h3.get (pid j.next 1) (by rw [ext_next, set_next]; unfold pid; simp) (by unfold pid; omega)).trans (ext_get1 (j := j.set ro _))
          (try simp only[↓jr,jw,seval,ext_get_old,ext_set_old,ho,hg,set_get,set_set,rh1,rh2,rh3,rh4,rh5,rh6,rh7,rh8,rh9,rh11,rh12,rh13,rh14,rh15,true_and,gA0,gA1])
          repeat (refine wc.intro (JHeld.cons (by (try simp only[↓jr,jw,seval,ext_get_old,ext_set_old,ho,hg,set_get,set_set,rh1,rh2,rh3,rh4,rh5,rh6,rh7,rh8,rh9,rh11,rh12,rh13,rh14,rh15,true_and,gA0,gA1,pushTok_get,pid_10,if_false])) (JHeld.cons (by (try simp only[↓jr,jw,seval,ext_get_old,ext_set_old,ho,hg,set_get,set_set,rh1,rh2,rh3,rh4,rh5,rh6,rh7,rh8,rh9,rh11,rh12,rh13,rh14,rh15,true_and,gA0,gA1,pushTok_get])) JHeld.nil)) ?_; (try simp only[↓jr,jw,seval,ext_get_old,ext_set_old,ho,hg,set_get,set_set,rh1,rh2,rh3,rh4,rh5,rh6,rh7,rh8,rh9,rh11,rh12,rh13,rh14,rh15,true_and,gA0,gA1,pushTok_get,pid_10,if_false]))
          exact node1 (T := T) (ref := none) (avs0 := []) rfl ho ((hG r _ _).trans h3) hsh (by simpa using h1) (by simpa using h2) True.intro h4 h5 (fun i hi => h6 i hi) h7 (by simp only [List.length_cons] at h8 ⊢; simp only [List.nil_append]; omega) h3.next rfl ⟨_, gA0⟩
      refine JCs.ret (s_IsF h' tNot (ne _ k3)) ?_
      (try simp only[↓jr,jw,seval,ext_get_old,ext_set_old,ho,hg,set_get,set_set,rh1,rh2,rh3,rh4,rh5,rh6,rh7,rh8,rh9,rh11,rh12,rh13,rh14,rh15,true_and])
      by_cases k4 : t = [40]
      · subst k4
        have hpT : pT (f + 1) ([40] :: r) = match pT f r with
            | none => none
            | some (c, r1) => match r1 with
              | [] => none
              | o :: r2 => if o = tAnd ∨ o = tOr then (match pT f r2 with
                | none => none
                | some (d, r3) => match r3 with
                  | [] => none
                  | e :: r4 => if e = [41] then some (.mk (if o = tAnd then 4 else 5) none [c, d], r4) else none) else none := by
          simp only [pT, if_neg k1, if_neg k2, if_neg k3, if_true]
        refine JCs.ret (s_IsT h') ?_
        (try simp only[↓jr,jw,seval,ext_get_old,ext_set_old,ho,hg,set_get,set_set,rh1,rh2,rh3,rh4,rh5,rh6,rh7,rh8,rh9,rh11,rh12,rh13,rh14,rh15,true_and])
        refine JC.mono (ih (hP r _ _) hc (by simp only [List.length_cons] at hl; omega) (fun t ht => hts t (by simp [ht])) (by simp only [List.length_cons] at hf; omega)) ?_
        intro o1 j1 q1
        cases hp : pT f r with
        | none =>
          rw [hp] at q1 hpT
          obtain ⟨rfl, g⟩ := q1
          rw [hpT]
          (try simp only[↓jr,jw,seval,ext_get_old,ext_set_old,ho,hg,set_get,set_set,rh1,rh2,rh3,rh4,rh5,rh6,rh7,rh8,rh9,rh11,rh12,rh13,rh14,rh15,true_and])
          exact JFIN.same (SubB.pure rfl) ⟨rfl, (hG r _ _).trans g⟩
        | some x =>
          obtain ⟨c, r1⟩ := x
          rw [hp] at q1
          rw [hp] at hpT
          obtain ⟨I1, lt1, avs1, rfl, hsh1, a1, a2, a3, a4, a5, a6, a7, a8⟩ := q1
          simp only at hpT
          have gB0 : j1.get (pid j.next 0) = some (.cells TE [I64 0, I64 0, .sl .nil 0 [], .sl .nil 0 []]) := (a3.get (pid j.next 0) (by rw [ext_next, set_next]; unfold pid; simp) (by unfold pid; omega)).trans (ext_get0 (j := j.set ro _))
          have gB1 : j1.get (pid j.next 1) = some (.cells 70 [.ptr (pid j.next 0) 0]) := (a3.get (pid j.next 1) (by rw [ext_next, set_next]; unfold pid; simp) (by unfold pid; omega)).trans (ext_get1 (j := j.set ro _))
          have hn1 : pid j.next 2 ≤ j1.next := a3.next
          have hro : ro ≠ pid j.next 0 := by unfold pid; omega
          have hsub1 := pT_sub f hp
          (try simp only[↓jr,jw,seval,ext_get_old,ext_set_old,ho,hg,set_get,set_set,rh1,rh2,rh3,rh4,rh5,rh6,rh7,rh8,rh9,rh11,rh12,rh13,rh14,rh15,true_and,gB0,gB1])
          have PJ : ∀ (op : Int), PRd (j1.set (pid j.next 0) (.cells TE [I64 op, I64 0, .sl .nil 0 [], .sl .nil 0 []])) ro nb r1 b lt1 (ls ++ avs1) := fun op => ⟨a1.ho, by rw [set_get, if_neg hro]; exact a1.hg, a1.hn, a1.hl⟩
          cases r1 with
          | nil =>
            rw [hpT]
            have ne0 : ∀ t : List UInt8, t ≠ [] → hdS [] ≠ ofL t := fun t ht q => by
              have : t.length = 0 := by rw [← ofL_size, ← q]; rfl
              exact ht (List.eq_nil_of_length_eq_zero this)
            refine JCs.ret (s_IsF (PJ 4) tAnd (ne0 _ (by simp))) ?_
            (try simp only[↓jr,jw,seval,ext_get_old,ext_set_old,ho,hg,set_get,set_set,rh1,rh2,rh3,rh4,rh5,rh6,rh7,rh8,rh9,rh11,rh12,rh13,rh14,rh15,true_and])
            refine JCs.pan (s_TakeF (PJ 4) tOr (ne0 _ (by simp))) ?_
            (try simp only[↓jr,jw,seval,ext_get_old,ext_set_old,ho,hg,set_get,set_set,rh1,rh2,rh3,rh4,rh5,rh6,rh7,rh8,rh9,rh11,rh12,rh13,rh14,rh15,true_and])
            exact JFIN.same (SubB.pure rfl) ⟨rfl, ((hG r _ _).trans a3).new (by unfold pid; omega)⟩
          | cons o r2 =>
            have neo : ∀ t' : List UInt8, ¬ o = t' → hdS (o :: r2) ≠ ofL t' := fun t' ht q => ht (ofL_inj q)
            simp only at hpT
            by_cases m1 : o = tAnd
            · subst m1
              refine JCs.ret (s_IsT (PJ 4)) ?_
              (try simp only[↓jr,jw,seval,ext_get_old,ext_set_old,ho,hg,set_get,set_set,rh1,rh2,rh3,rh4,rh5,rh6,rh7,rh8,rh9,rh11,rh12,rh13,rh14,rh15,true_and,hro,if_neg hro,if_neg hro.symm])
              have hJ := (J3ok.one (op := 4) (op' := 0) hro : J3ok j1 ((j1.set (pid j.next 0) (.cells TE [I64 4, I64 0, .sl .nil 0 [], .sl .nil 0 []])).set ro (.cells PE (prC nb r2 b lt1 (ls ++ avs1)))) ro (pid j.next 0) 4 (.cells PE (prC nb r2 b lt1 (ls ++ avs1))))
              have P3 : PRd ((j1.set (pid j.next 0) (.cells TE [I64 4, I64 0, .sl .nil 0 [], .sl .nil 0 []])).set ro (.cells PE (prC nb r2 b lt1 (ls ++ avs1)))) ro nb r2 b lt1 (ls ++ avs1) := ⟨by rw [hJ.next]; exact a1.ho, hJ.gr, by rw [hJ.next]; exact a1.hn, by rw [hJ.next, hJ.tnext]; exact a1.hl⟩
              have C3 : CanA tb ((j1.set (pid j.next 0) (.cells TE [I64 4, I64 0, .sl .nil 0 [], .sl .nil 0 []])).set ro (.cells PE (prC nb r2 b lt1 (ls ++ avs1)))) lt1 (ls ++ avs1).length := by
                obtain ⟨a2b, a2⟩ := a2
                refine ⟨by rw [hJ.tnext]; exact a2b, ?_⟩
                rcases a2 with q | ⟨tt, q0, q1, q2, q3⟩
                · exact .inl q
                · exact .inr ⟨tt, q0, by rw [hJ.tnext]; exact q1, q2, by rw [hJ.tok]; exact q3⟩
              have G3 : Grow ro tb j ((j1.set (pid j.next 0) (.cells TE [I64 4, I64 0, .sl .nil 0 [], .sl .nil 0 []])).set ro (.cells PE (prC nb r2 b lt1 (ls ++ avs1)))) := ⟨by rw [hJ.next]; exact ((hG r _ _).trans a3).next, by rw [hJ.tnext]; exact ((hG r _ _).trans a3).tnext, fun o ho2 hne => (hJ.get o (by unfold pid; omega) hne).trans (((hG r _ _).trans a3).get o ho2 hne), fun t ht => by rw [hJ.tok]; exact ((hG r _ _).trans a3).tok t ht⟩
              have gC1 : ((j1.set (pid j.next 0) (.cells TE [I64 4, I64 0, .sl .nil 0 [], .sl .nil 0 []])).set ro (.cells PE (prC nb r2 b lt1 (ls ++ avs1)))).get (pid j.next 1) = some (.cells 70 [.ptr (pid j.next 0) 0]) := (hJ.get _ (by unfold pid; omega) (by unfold pid; omega)).trans gB1
              have u3 : Upd ro (pid j.next 0) j1 ((j1.set (pid j.next 0) (.cells TE [I64 4, I64 0, .sl .nil 0 [], .sl .nil 0 []])).set ro (.cells PE (prC nb r2 b lt1 (ls ++ avs1)))) := ⟨hJ.next, by rw [hJ.tnext]; exact Nat.le_refl _, hJ.get, ⟨_, gB0⟩⟩
              have hq1 : pid j.next 0 ∉ I1.ids := fun h => absurd (a6 _ h).1 (by rw [ext_next, set_next]; unfold pid; simp only [List.length_cons, List.length_nil]; omega)
              have hr1' : ¬ pid j.next 1 = ro := by unfold pid; omega
              have R3 := TRep.upd u3 I1 hq1 a5
              have L3 := Lates.upd u3 a4
              refine JHLD.early (.ptr (pid j.next 0) 0) rfl (by (try simp only[↓jr,jw,seval,ext_get_old,ext_set_old,ho,hg,set_get,set_set,rh1,rh2,rh3,rh4,rh5,rh6,rh7,rh8,rh9,rh11,rh12,rh13,rh14,rh15,true_and,gB1,if_neg hr1',pid_10,if_false])) ?_
              (try simp only[↓jr,jw,seval,ext_get_old,ext_set_old,ho,hg,set_get,set_set,rh1,rh2,rh3,rh4,rh5,rh6,rh7,rh8,rh9,rh11,rh12,rh13,rh14,rh15,true_and])
              refine JHLD.early (.ptr I1.id 0) rfl (by (try simp only[↓jr,jw,seval,ext_get_old,ext_set_old,ho,hg,set_get,set_set,rh1,rh2,rh3,rh4,rh5,rh6,rh7,rh8,rh9,rh11,rh12,rh13,rh14,rh15,true_and])) ?_
              (try simp only[↓jr,jw,seval,ext_get_old,ext_set_old,ho,hg,set_get,set_set,rh1,rh2,rh3,rh4,rh5,rh6,rh7,rh8,rh9,rh11,rh12,rh13,rh14,rh15,true_and])
              refine JHLD.early (.ptr ro 0) rfl (by (try simp only[↓jr,jw,seval,ext_get_old,ext_set_old,ho,hg,set_get,set_set,rh1,rh2,rh3,rh4,rh5,rh6,rh7,rh8,rh9,rh11,rh12,rh13,rh14,rh15,true_and])) ?_
              (try simp only[↓jr,jw,seval,ext_get_old,ext_set_old,ho,hg,set_get,set_set,rh1,rh2,rh3,rh4,rh5,rh6,rh7,rh8,rh9,rh11,rh12,rh13,rh14,rh15,true_and])
              refine JHLD.go ?_
              (try simp only[↓jr,jw,seval,ext_get_old,ext_set_old,ho,hg,set_get,set_set,rh1,rh2,rh3,rh4,rh5,rh6,rh7,rh8,rh9,rh11,rh12,rh13,rh14,rh15,true_and])
              refine JC.mono (ih P3 C3 (by simp only [List.length_cons] at hl a8 ⊢; omega) (fun t ht => hts t (List.mem_cons_of_mem _ (hsub1 t (List.mem_cons_of_mem _ ht)))) (by simp only [List.length_cons, List.length_append] at hf a8 ⊢; omega)) ?_
              intro o2 j4 q2
              cases hp2 : pT f r2 with
              | none =>
                rw [hp2] at q2
                obtain ⟨rfl, g⟩ := q2
                have e : pT (f + 1) ([40] :: r) = none := by rw [hpT]; simp [hp2]
                rw [e]
                (try simp only[↓jr,jw,seval,ext_get_old,ext_set_old,ho,hg,set_get,set_set,rh1,rh2,rh3,rh4,rh5,rh6,rh7,rh8,rh9,rh11,rh12,rh13,rh14,rh15,true_and])
                exact fun _ => JFIN.same (SubB.pure rfl) ⟨rfl, G3.trans g⟩
              | some x =>
                obtain ⟨T2, r3⟩ := x
                rw [hp2] at q2
                obtain ⟨I2, lt2, avs2, rfl, hsh2, b1', b2', b3, b4, b5, b6, b7, b8⟩ := q2
                have hn3 : pid j.next 2 ≤ ((j1.set (pid j.next 0) (.cells TE [I64 4, I64 0, .sl .nil 0 [], .sl .nil 0 []])).set ro (.cells PE (prC nb r2 b lt1 (ls ++ avs1)))).next := by rw [hJ.next]; exact hn1
                have gA0 : j4.get (pid j.next 0) = some (.cells TE [I64 4, I64 0, .sl .nil 0 [], .sl .nil 0 []]) := (b3.get (pid j.next 0) (Nat.lt_of_lt_of_le (show pid j.next 0 < pid j.next 2 by unfold pid; omega) hn3) (by unfold pid; omega)).trans hJ.g0
                have gA1 : j4.get (pid j.next 1) = some (.cells 70 [.ptr (pid j.next 0) 0]) := (b3.get (pid j.next 1) (Nat.lt_of_lt_of_le (show pid j.next 1 < pid j.next 2 by unfold pid; omega) hn3) (by unfold pid; omega)).trans gC1
                (try simp only[↓jr,jw,seval,ext_get_old,ext_set_old,ho,hg,set_get,set_set,rh1,rh2,rh3,rh4,rh5,rh6,rh7,rh8,rh9,rh11,rh12,rh13,rh14,rh15,true_and,gA0,gA1])
                repeat (refine wc.intro (JHeld.cons (by (try simp only[↓jr,jw,seval,ext_get_old,ext_set_old,ho,hg,set_get,set_set,rh1,rh2,rh3,rh4,rh5,rh6,rh7,rh8,rh9,rh11,rh12,rh13,rh14,rh15,true_and,gA0,gA1,pushTok_get,pid_10,if_false])) (JHeld.cons (by (try simp only[↓jr,jw,seval,ext_get_old,ext_set_old,ho,hg,set_get,set_set,rh1,rh2,rh3,rh4,rh5,rh6,rh7,rh8,rh9,rh11,rh12,rh13,rh14,rh15,true_and,gA0,gA1,pushTok_get])) (JHeld.cons (by (try simp only[↓jr,jw,seval,ext_get_old,ext_set_old,ho,hg,set_get,set_set,rh1,rh2,rh3,rh4,rh5,rh6,rh7,rh8,rh9,rh11,rh12,rh13,rh14,rh15,true_and,gA0,gA1,pushTok_get])) JHeld.nil))) ?_; (try simp only[↓jr,jw,seval,ext_get_old,ext_set_old,ho,hg,set_get,set_set,rh1,rh2,rh3,rh4,rh5,rh6,rh7,rh8,rh9,rh11,rh12,rh13,rh14,rh15,true_and,gA0,gA1,pushTok_get,pid_10,if_false]))
                have PK : PRd ((j4.pushTok 2).set (pid j.next 0) (.cells TE [I64 4, I64 0, .sl .nil 0 [], .sl (.own j4.tnext 0 1) 2 [.ptr I1.id 0, .ptr I2.id 0]])) ro nb r3 b lt2 (ls ++ avs1 ++ avs2) := ⟨b1'.ho, by rw [set_get, if_neg hro]; exact b1'.hg, b1'.hn, low_mono (Nat.le_refl _) (Nat.le_succ _) _ b1'.hl⟩
                have gK : Grow ro tb j ((j4.pushTok 2).set (pid j.next 0) (.cells TE [I64 4, I64 0, .sl .nil 0 [], .sl (.own j4.tnext 0 1) 2 [.ptr I1.id 0, .ptr I2.id 0]])) := ⟨(G3.trans b3).next, Nat.le_trans (G3.trans b3).tnext (Nat.le_succ _), fun o ho2 hne => by rw [set_get, if_neg (by unfold pid; omega)]; exact (G3.trans b3).get o ho2 hne, fun t ht => (show (if t = j4.tnext then some _ else j4.tok t) = _ by rw [if_neg (by have := b2'.1; omega)]; exact (G3.trans b3).tok t ht)⟩
                by_cases hr3 : ∃ r4, r3 = [41] :: r4
                · obtain ⟨r4, rfl⟩ := hr3
                  have e : pT (f + 1) ([40] :: r) = some (.mk 4 none [c, T2], r4) := by rw [hpT]; simp [hp2]
                  rw [e]
                  refine JCs.ret (s_TakeT PK) ?_
                  (try simp only[↓jr,jw,seval,ext_get_old,ext_set_old,ho,hg,set_get,set_set,rh1,rh2,rh3,rh4,rh5,rh6,rh7,rh8,rh9,rh11,rh12,rh13,rh14,rh15,true_and,gA1,pushTok_get,if_neg hr1',pid_10,if_false])
                  exact node2 (T1 := c) (T2 := T2) (mid := j1.next) rfl ho (G3.trans b3) hsh1 hsh2 b1' b2' (Lates.grow b3 L3) b4 (TRep.grow b3 I1 R3) b5 (fun i hi => a6 i hi) (fun i hi => by have := b6 i hi; rw [hJ.next] at this; exact this) a7 b7 hn1 (by have := b3.next; rw [hJ.next] at this; exact this) (by simp only [List.length_cons] at a8 b8 hl ⊢; omega) rfl ⟨_, gA0⟩
                · have e : pT (f + 1) ([40] :: r) = none := by
                    rw [hpT]
                    simp only [hp2]
                    cases r3 with
                    | nil => simp
                    | cons z r4 =>
                      have : ¬ z = [41] := fun q => hr3 ⟨r4, by rw [q]⟩
                      simp [this]
                  rw [e]
                  have nez : hdS r3 ≠ ofL [41] := by
                    cases r3 with
                    | nil => intro q; have hz : ([41] : List UInt8).length = 0 := by rw [← ofL_size, ← q]; rfl
                             simp at hz
                    | cons z r4 => intro q; exact hr3 ⟨r4, by rw [ofL_inj q]⟩
                  refine JCs.pan (s_TakeF PK [41] nez) ?_
                  (try simp only[↓jr,jw,seval,ext_get_old,ext_set_old,ho,hg,set_get,set_set,rh1,rh2,rh3,rh4,rh5,rh6,rh7,rh8,rh9,rh11,rh12,rh13,rh14,rh15,true_and])
                  exact JFIN.same (SubB.pure rfl) ⟨rfl, gK⟩
            · refine JCs.ret (s_IsF (PJ 4) tAnd (neo _ m1)) ?_
              (try simp only[↓jr,jw,seval,ext_get_old,ext_set_old,ho,hg,set_get,set_set,rh1,rh2,rh3,rh4,rh5,rh6,rh7,rh8,rh9,rh11,rh12,rh13,rh14,rh15,true_and])
              by_cases m2 : o = tOr
              · subst m2
                refine JCs.ret (s_TakeT (PJ 4)) ?_
                (try simp only[↓jr,jw,seval,ext_get_old,ext_set_old,ho,hg,set_get,set_set,rh1,rh2,rh3,rh4,rh5,rh6,rh7,rh8,rh9,rh11,rh12,rh13,rh14,rh15,true_and,hro,if_neg hro,if_neg hro.symm,if_neg (show ¬ pid j.next 1 = ro by unfold pid; omega),pid_10,if_false,gB1])
                have hJ := (J3ok.two (op := 5) (op' := 4) hro : J3ok j1 (((j1.set (pid j.next 0) (.cells TE [I64 4, I64 0, .sl .nil 0 [], .sl .nil 0 []])).set ro (.cells PE (prC nb r2 b lt1 (ls ++ avs1)))).set (pid j.next 0) (.cells TE [I64 5, I64 0, .sl .nil 0 [], .sl .nil 0 []])) ro (pid j.next 0) 5 (.cells PE (prC nb r2 b lt1 (ls ++ avs1))))
                have P3 : PRd (((j1.set (pid j.next 0) (.cells TE [I64 4, I64 0, .sl .nil 0 [], .sl .nil 0 []])).set ro (.cells PE (prC nb r2 b lt1 (ls ++ avs1)))).set (pid j.next 0) (.cells TE [I64 5, I64 0, .sl .nil 0 [], .sl .nil 0 []])) ro nb r2 b lt1 (ls ++ avs1) := ⟨by rw [hJ.next]; exact a1.ho, hJ.gr, by rw [hJ.next]; exact a1.hn, by rw [hJ.next, hJ.tnext]; exact a1.hl⟩
                have C3 : CanA tb (((j1.set (pid j.next 0) (.cells TE [I64 4, I64 0, .sl .nil 0 [], .sl .nil 0 []])).set ro (.cells PE (prC nb r2 b lt1 (ls ++ avs1)))).set (pid j.next 0) (.cells TE [I64 5, I64 0, .sl .nil 0 [], .sl .nil 0 []])) lt1 (ls ++ avs1).length := by
                  obtain ⟨a2b, a2⟩ := a2
                  refine ⟨by rw [hJ.tnext]; exact a2b, ?_⟩
                  rcases a2 with q | ⟨tt, q0, q1, q2, q3⟩
                  · exact .inl q
                  · exact .inr ⟨tt, q0, by rw [hJ.tnext]; exact q1, q2, by rw [hJ.tok]; exact q3⟩
                have G3 : Grow ro tb j (((j1.set (pid j.next 0) (.cells TE [I64 4, I64 0, .sl .nil 0 [], .sl .nil 0 []])).set ro (.cells PE (prC nb r2 b lt1 (ls ++ avs1)))).set (pid j.next 0) (.cells TE [I64 5, I64 0, .sl .nil 0 [], .sl .nil 0 []])) := ⟨by rw [hJ.next]; exact ((hG r _ _).trans a3).next, by rw [hJ.tnext]; exact ((hG r _ _).trans a3).tnext, fun o ho2 hne => (hJ.get o (by unfold pid; omega) hne).trans (((hG r _ _).trans a3).get o ho2 hne), fun t ht => by rw [hJ.tok]; exact ((hG r _ _).trans a3).tok t ht⟩
                have gC1 : (((j1.set (pid j.next 0) (.cells TE [I64 4, I64 0, .sl .nil 0 [], .sl .nil 0 []])).set ro (.cells PE (prC nb r2 b lt1 (ls ++ avs1)))).set (pid j.next 0) (.cells TE [I64 5, I64 0, .sl .nil 0 [], .sl .nil 0 []])).get (pid j.next 1) = some (.cells 70 [.ptr (pid j.next 0) 0]) := (hJ.get _ (by unfold pid; omega) (by unfold pid; omega)).trans gB1
                have u3 : Upd ro (pid j.next 0) j1 (((j1.set (pid j.next 0) (.cells TE [I64 4, I64 0, .sl .nil 0 [], .sl .nil 0 []])).set ro (.cells PE (prC nb r2 b lt1 (ls ++ avs1)))).set (pid j.next 0) (.cells TE [I64 5, I64 0, .sl .nil 0 [], .sl .nil 0 []])) := ⟨hJ.next, by rw [hJ.tnext]; exact Nat.le_refl _, hJ.get, ⟨_, gB0⟩⟩
                have hq1 : pid j.next 0 ∉ I1.ids := fun h => absurd (a6 _ h).1 (by rw [ext_next, set_next]; unfold pid; simp only [List.length_cons, List.length_nil]; omega)
                have hr1' : ¬ pid j.next 1 = ro := by unfold pid; omega
                have R3 := TRep.upd u3 I1 hq1 a5
                have L3 := Lates.upd u3 a4
                refine JHLD.early (.ptr (pid j.next 0) 0) rfl (by (try simp only[↓jr,jw,seval,ext_get_old,ext_set_old,ho,hg,set_get,set_set,rh1,rh2,rh3,rh4,rh5,rh6,rh7,rh8,rh9,rh11,rh12,rh13,rh14,rh15,true_and,gB1,if_neg hr1',pid_10,if_false])) ?_
                (try simp only[↓jr,jw,seval,ext_get_old,ext_set_old,ho,hg,set_get,set_set,rh1,rh2,rh3,rh4,rh5,rh6,rh7,rh8,rh9,rh11,rh12,rh13,rh14,rh15,true_and])
                refine JHLD.early (.ptr I1.id 0) rfl (by (try simp only[↓jr,jw,seval,ext_get_old,ext_set_old,ho,hg,set_get,set_set,rh1,rh2,rh3,rh4,rh5,rh6,rh7,rh8,rh9,rh11,rh12,rh13,rh14,rh15,true_and])) ?_
                (try simp only[↓jr,jw,seval,ext_get_old,ext_set_old,ho,hg,set_get,set_set,rh1,rh2,rh3,rh4,rh5,rh6,rh7,rh8,rh9,rh11,rh12,rh13,rh14,rh15,true_and])
                refine JHLD.early (.ptr ro 0) rfl (by (try simp only[↓jr,jw,seval,ext_get_old,ext_set_old,ho,hg,set_get,set_set,rh1,rh2,rh3,rh4,rh5,rh6,rh7,rh8,rh9,rh11,rh12,rh13,rh14,rh15,true_and])) ?_
                (try simp only[↓jr,jw,seval,ext_get_old,ext_set_old,ho,hg,set_get,set_set,rh1,rh2,rh3,rh4,rh5,rh6,rh7,rh8,rh9,rh11,rh12,rh13,rh14,rh15,true_and])
                refine JHLD.go ?_
                (try simp only[↓jr,jw,seval,ext_get_old,ext_set_old,ho,hg,set_get,set_set,rh1,rh2,rh3,rh4,rh5,rh6,rh7,rh8,rh9,rh11,rh12,rh13,rh14,rh15,true_and])
                refine JC.mono (ih P3 C3 (by simp only [List.length_cons] at hl a8 ⊢; omega) (fun t ht => hts t (List.mem_cons_of_mem _ (hsub1 t (List.mem_cons_of_mem _ ht)))) (by simp only [List.length_cons, List.length_append] at hf a8 ⊢; omega)) ?_
                intro o2 j4 q2
                cases hp2 : pT f r2 with
                | none =>
                  rw [hp2] at q2
                  obtain ⟨rfl, g⟩ := q2
                  have e : pT (f + 1) ([40] :: r) = none := by rw [hpT]; simp [hp2, m1]
                  rw [e]
                  (try simp only[↓jr,jw,seval,ext_get_old,ext_set_old,ho,hg,set_get,set_set,rh1,rh2,rh3,rh4,rh5,rh6,rh7,rh8,rh9,rh11,rh12,rh13,rh14,rh15,true_and])
                  exact fun _ => JFIN.same (SubB.pure rfl) ⟨rfl, G3.trans g⟩
                | some x =>
                  obtain ⟨T2, r3⟩ := x
                  rw [hp2] at q2
                  obtain ⟨I2, lt2, avs2, rfl, hsh2, b1', b2', b3, b4, b5, b6, b7, b8⟩ := q2
                  have hn3 : pid j.next 2 ≤ (((j1.set (pid j.next 0) (.cells TE [I64 4, I64 0, .sl .nil 0 [], .sl .nil 0 []])).set ro (.cells PE (prC nb r2 b lt1 (ls ++ avs1)))).set (pid j.next 0) (.cells TE [I64 5, I64 0, .sl .nil 0 [], .sl .nil 0 []])).next := by rw [hJ.next]; exact hn1
                  have gA0 : j4.get (pid j.next 0) = some (.cells TE [I64 5, I64 0, .sl .nil 0 [], .sl .nil 0 []]) := (b3.get (pid j.next 0) (Nat.lt_of_lt_of_le (show pid j.next 0 < pid j.next 2 by unfold pid; omega) hn3) (by unfold pid; omega)).trans hJ.g0
                  have gA1 : j4.get (pid j.next 1) = some (.cells 70 [.ptr (pid j.next 0) 0]) := (b3.get (pid j.next 1) (Nat.lt_of_lt_of_le (show pid j.next 1 < pid j.next 2 by unfold pid; omega) hn3) (by unfold pid; omega)).trans gC1
                  (try simp only[↓jr,jw,seval,ext_get_old,ext_set_old,ho,hg,set_get,set_set,rh1,rh2,rh3,rh4,rh5,rh6,rh7,rh8,rh9,rh11,rh12,rh13,rh14,rh15,true_and,gA0,gA1])
                  repeat (refine wc.intro (JHeld.cons (by (try simp only[↓jr,jw,seval,ext_get_old,ext_set_old,ho,hg,set_get,set_set,rh1,rh2,rh3,rh4,rh5,rh6,rh7,rh8,rh9,rh11,rh12,rh13,rh14,rh15,true_and,gA0,gA1,pushTok_get,pid_10,if_false])) (JHeld.cons (by (try simp only[↓jr,jw,seval,ext_get_old,ext_set_old,ho,hg,set_get,set_set,rh1,rh2,rh3,rh4,rh5,rh6,rh7,rh8,rh9,rh11,rh12,rh13,rh14,rh15,true_and,gA0,gA1,pushTok_get])) (JHeld.cons (by (try simp only[↓jr,jw,seval,ext_get_old,ext_set_old,ho,hg,set_get,set_set,rh1,rh2,rh3,rh4,rh5,rh6,rh7,rh8,rh9,rh11,rh12,rh13,rh14,rh15,true_and,gA0,gA1,pushTok_get])) JHeld.nil))) ?_; (try simp only[↓jr,jw,seval,ext_get_old,ext_set_old,ho,hg,set_get,set_set,rh1,rh2,rh3,rh4,rh5,rh6,rh7,rh8,rh9,rh11,rh12,rh13,rh14,rh15,true_and,gA0,gA1,pushTok_get,pid_10,if_false]))
                  have PK : PRd ((j4.pushTok 2).set (pid j.next 0) (.cells TE [I64 5, I64 0, .sl .nil 0 [], .sl (.own j4.tnext 0 1) 2 [.ptr I1.id 0, .ptr I2.id 0]])) ro nb r3 b lt2 (ls ++ avs1 ++ avs2) := ⟨b1'.ho, by rw [set_get, if_neg hro]; exact b1'.hg, b1'.hn, low_mono (Nat.le_refl _) (Nat.le_succ _) _ b1'.hl⟩
                  have gK : Grow ro tb j ((j4.pushTok 2).set (pid j.next 0) (.cells TE [I64 5, I64 0, .sl .nil 0 [], .sl (.own j4.tnext 0 1) 2 [.ptr I1.id 0, .ptr I2.id 0]])) := ⟨(G3.trans b3).next, Nat.le_trans (G3.trans b3).tnext (Nat.le_succ _), fun o ho2 hne => by rw [set_get, if_neg (by unfold pid; omega)]; exact (G3.trans b3).get o ho2 hne, fun t ht => (show (if t = j4.tnext then some _ else j4.tok t) = _ by rw [if_neg (by have := b2'.1; omega)]; exact (G3.trans b3).tok t ht)⟩
                  by_cases hr3 : ∃ r4, r3 = [41] :: r4
                  · obtain ⟨r4, rfl⟩ := hr3
                    have e : pT (f + 1) ([40] :: r) = some (.mk 5 none [c, T2], r4) := by rw [hpT]; simp [hp2, m1]
                    rw [e]
                    refine JCs.ret (s_TakeT PK) ?_
                    (try simp only[↓jr,jw,seval,ext_get_old,ext_set_old,ho,hg,set_get,set_set,rh1,rh2,rh3,rh4,rh5,rh6,rh7,rh8,rh9,rh11,rh12,rh13,rh14,rh15,true_and,gA1,pushTok_get,if_neg hr1',pid_10,if_false])
                    exact node2 (T1 := c) (T2 := T2) (mid := j1.next) rfl ho (G3.trans b3) hsh1 hsh2 b1' b2' (Lates.grow b3 L3) b4 (TRep.grow b3 I1 R3) b5 (fun i hi => a6 i hi) (fun i hi => by have := b6 i hi; rw [hJ.next] at this; exact this) a7 b7 hn1 (by have := b3.next; rw [hJ.next] at this; exact this) (by simp only [List.length_cons] at a8 b8 hl ⊢; omega) rfl ⟨_, gA0⟩
                  · have e : pT (f + 1) ([40] :: r) = none := by
                      rw [hpT]
                      simp only [hp2]
                      cases r3 with
                      | nil => simp
                      | cons z r4 =>
                        have : ¬ z = [41] := fun q => hr3 ⟨r4, by rw [q]⟩
                        simp [this]
                    rw [e]
                    have nez : hdS r3 ≠ ofL [41] := by
                      cases r3 with
                      | nil => intro q; have hz : ([41] : List UInt8).length = 0 := by rw [← ofL_size, ← q]; rfl
                               simp at hz
                      | cons z r4 => intro q; exact hr3 ⟨r4, by rw [ofL_inj q]⟩
                    refine JCs.pan (s_TakeF PK [41] nez) ?_
                    (try simp only[↓jr,jw,seval,ext_get_old,ext_set_old,ho,hg,set_get,set_set,rh1,rh2,rh3,rh4,rh5,rh6,rh7,rh8,rh9,rh11,rh12,rh13,rh14,rh15,true_and])
                    exact JFIN.same (SubB.pure rfl) ⟨rfl, gK⟩
              · have e : pT (f + 1) ([40] :: r) = none := by rw [hpT]; simp [m1, m2]
                rw [e]
                refine JCs.pan (s_TakeF (PJ 4) tOr (neo _ m2)) ?_
                (try simp only[↓jr,jw,seval,ext_get_old,ext_set_old,ho,hg,set_get,set_set,rh1,rh2,rh3,rh4,rh5,rh6,rh7,rh8,rh9,rh11,rh12,rh13,rh14,rh15,true_and])
                exact JFIN.same (SubB.pure rfl) ⟨rfl, ((hG r _ _).trans a3).new (by unfold pid; omega)⟩
      refine JCs.ret (s_IsF h' [40] (ne _ k4)) ?_
      (try simp only[↓jr,jw,seval,ext_get_old,ext_set_old,ho,hg,set_get,set_set,rh1,rh2,rh3,rh4,rh5,rh6,rh7,rh8,rh9,rh11,rh12,rh13,rh14,rh15,true_and])
      refine JCs.ret (s_Next h') ?_
      simp only [hdS]
      (try simp only[↓jr,jw,seval,ext_get_old,ext_set_old,ho,hg,set_get,set_set,rh1,rh2,rh3,rh4,rh5,rh6,rh7,rh8,rh9,rh11,rh12,rh13,rh14,rh15,true_and])
      by_cases k5 : t = tSome
      · subst k5
        refine wq.intro (fun _ => ?_) (fun q => absurd rfl q)
        (try simp only[↓jr,jw,seval,ext_get_old,ext_set_old,ho,hg,set_get,set_set,rh1,rh2,rh3,rh4,rh5,rh6,rh7,rh8,rh9,rh11,rh12,rh13,rh14,rh15,true_and])
        have hS : PRd (Pg.ext j [(.cells TE [I64 6, I64 0, .sl .nil 0 [], .sl .nil 0 []]), (.cells 70 [.ptr (pid j.next 0) 0])]) ro nb (tSome :: r) b lt ls := (PRd.mk ho hg hn hl0).ex _ (low 2)
        refine JCs.ret (s_IsF hS tAll (by simp only [hdS]; exact fun q => absurd (ofL_inj q) (by decide))) ?_
        (try simp only[↓jr,jw,seval,ext_get_old,ext_set_old,ho,hg,set_get,set_set,rh1,rh2,rh3,rh4,rh5,rh6,rh7,rh8,rh9,rh11,rh12,rh13,rh14,rh15,true_and])
        refine JCs.ret (s_TakeT hS) ?_
        (try simp only[↓jr,jw,seval,ext_get_old,ext_set_old,ho,hg,set_get,set_set,rh1,rh2,rh3,rh4,rh5,rh6,rh7,rh8,rh9,rh11,rh12,rh13,rh14,rh15,true_and])
        -- role
        refine JC.mono (s_RoleP (hP r (.cells TE [I64 6, I64 0, .sl .nil 0 [], .sl .nil 0 []]) (.cells 70 [.ptr (pid j.next 0) 0])) hc (by simp only [List.length_cons] at hl; omega) (fun t ht => hts t (by simp [ht])) (pid j.next 1) (pid j.next 0) ⟨by rw [ext_next, set_next]; unfold pid; simp, by unfold pid; omega, ext_get1 (j := j.set ro _)⟩) ?_
        intro o1 j1 q1
        cases hr : roleP r with
        | none =>
          rw [hr] at q1
          obtain ⟨rfl, g⟩ := q1
          have e : pT (f + 1) (tSome :: r) = none := by simp [pT, hr]
          rw [e]
          (try simp only[↓jr,jw,seval,ext_get_old,ext_set_old,ho,hg,set_get,set_set,rh1,rh2,rh3,rh4,rh5,rh6,rh7,rh8,rh9,rh11,rh12,rh13,rh14,rh15,true_and])
          exact JFIN.same (SubB.pure rfl) ⟨rfl, (hG r _ _).trans g⟩
        | some y =>
          obtain ⟨s, inv, r1⟩ := y
          rw [hr] at q1
          obtain ⟨rfl, lt1, av, p1, p2, p3, p4⟩ := q1
          have hr1 := roleP_len hr
          have gB0 : j1.get (pid j.next 0) = some (.cells TE [I64 6, I64 0, .sl .nil 0 [], .sl .nil 0 []]) := (p3.get (pid j.next 0) (by rw [ext_next, set_next]; unfold pid; simp) (by unfold pid; omega)).trans (ext_get0 (j := j.set ro _))
          have gB1 : j1.get (pid j.next 1) = some (.cells 70 [.ptr (pid j.next 0) 0]) := (p3.get (pid j.next 1) (by rw [ext_next, set_next]; unfold pid; simp) (by unfold pid; omega)).trans (ext_get1 (j := j.set ro _))
          have hn1 : pid j.next 2 ≤ j1.next := p3.next
          (try simp only[↓jr,jw,seval,ext_get_old,ext_set_old,ho,hg,set_get,set_set,rh1,rh2,rh3,rh4,rh5,rh6,rh7,rh8,rh9,rh11,rh12,rh13,rh14,rh15,true_and,gB0,gB1])
          refine JHLD.early (.ptr (pid j.next 0) 0) rfl (by (try simp only[↓jr,jw,seval,ext_get_old,ext_set_old,ho,hg,set_get,set_set,rh1,rh2,rh3,rh4,rh5,rh6,rh7,rh8,rh9,rh11,rh12,rh13,rh14,rh15,true_and,gB1])) ?_
          (try simp only[↓jr,jw,seval,ext_get_old,ext_set_old,ho,hg,set_get,set_set,rh1,rh2,rh3,rh4,rh5,rh6,rh7,rh8,rh9,rh11,rh12,rh13,rh14,rh15,true_and])
          refine JHLD.early (.ptr ro 0) rfl (by (try simp only[↓jr,jw,seval,ext_get_old,ext_set_old,ho,hg,set_get,set_set,rh1,rh2,rh3,rh4,rh5,rh6,rh7,rh8,rh9,rh11,rh12,rh13,rh14,rh15,true_and])) ?_
          (try simp only[↓jr,jw,seval,ext_get_old,ext_set_old,ho,hg,set_get,set_set,rh1,rh2,rh3,rh4,rh5,rh6,rh7,rh8,rh9,rh11,rh12,rh13,rh14,rh15,true_and])
          refine JHLD.go ?_
          (try simp only[↓jr,jw,seval,ext_get_old,ext_set_old,ho,hg,set_get,set_set,rh1,rh2,rh3,rh4,rh5,rh6,rh7,rh8,rh9,rh11,rh12,rh13,rh14,rh15,true_and])
          refine JC.mono (ih p1 (by simpa using p2) (by simp only [List.length_cons, List.length_append, List.length_nil] at hl ⊢; omega) (fun t ht => hts t (List.mem_cons_of_mem _ (hr1.2 t ht))) (by simp only [List.length_cons] at hf; omega)) ?_
          intro o j' q
          cases hp : pT f r1 with
          | none =>
            rw [hp] at q
            obtain ⟨rfl, g⟩ := q
            have e : pT (f + 1) (tSome :: r) = none := by simp [pT, hr, hp]
            rw [e]
            (try simp only[↓jr,jw,seval,ext_get_old,ext_set_old,ho,hg,set_get,set_set,rh1,rh2,rh3,rh4,rh5,rh6,rh7,rh8,rh9,rh11,rh12,rh13,rh14,rh15,true_and])
            exact fun _ => JFIN.same (SubB.pure rfl) ⟨rfl, ((hG r _ _).trans p3).trans g⟩
          | some x =>
            obtain ⟨T, r'⟩ := x
            rw [hp] at q
            obtain ⟨I, lt', avs, rfl, hsh, h1, h2, h3, h4, h5, h6, h7, h8⟩ := q
            have e : pT (f + 1) (tSome :: r) = some (.mk 6 (some (true, s, inv)) [T], r') := by simp [pT, true_or, hr, hp]
            rw [e]
            have gA0 : j'.get (pid j.next 0) = some (.cells TE [I64 6, I64 0, .sl .nil 0 [], .sl .nil 0 []]) := (h3.get (pid j.next 0) (by unfold pid at hn1 ⊢; omega) (by unfold pid; omega)).trans gB0
            have gA1 : j'.get (pid j.next 1) = some (.cells 70 [.ptr (pid j.next 0) 0]) := (h3.get (pid j.next 1) (by unfold pid at hn1 ⊢; omega) (by unfold pid; omega)).trans gB1
            (try simp only[↓jr,jw,seval,ext_get_old,ext_set_old,ho,hg,set_get,set_set,rh1,rh2,rh3,rh4,rh5,rh6,rh7,rh8,rh9,rh11,rh12,rh13,rh14,rh15,true_and,gA0,gA1])
            repeat (refine wc.intro (JHeld.cons (by (try simp only[↓jr,jw,seval,ext_get_old,ext_set_old,ho,hg,set_get,set_set,rh1,rh2,rh3,rh4,rh5,rh6,rh7,rh8,rh9,rh11,rh12,rh13,rh14,rh15,true_and,gA0,gA1,pushTok_get,pid_10,if_false])) (JHeld.cons (by (try simp only[↓jr,jw,seval,ext_get_old,ext_set_old,ho,hg,set_get,set_set,rh1,rh2,rh3,rh4,rh5,rh6,rh7,rh8,rh9,rh11,rh12,rh13,rh14,rh15,true_and,gA0,gA1,pushTok_get])) JHeld.nil)) ?_; (try simp only[↓jr,jw,seval,ext_get_old,ext_set_old,ho,hg,set_get,set_set,rh1,rh2,rh3,rh4,rh5,rh6,rh7,rh8,rh9,rh11,rh12,rh13,rh14,rh15,true_and,gA0,gA1,pushTok_get,pid_10,if_false]))
            exact node1 (T := T) (ref := some (true, s, inv)) (avs0 := [av]) rfl ho (((hG r _ _).trans p3).trans h3) hsh (by simpa using h1) (by simpa using h2) ⟨p4.grow h3, True.intro⟩ h4 h5 (fun i hi => ⟨by have := (h6 i hi).1; omega, (h6 i hi).2⟩) h7 (by simp only [List.length_cons, List.length_append, List.length_nil] at h8 hl ⊢; omega) (Nat.le_trans hn1 h3.next) rfl ⟨_, gA0⟩
      refine wq.intro (fun q => absurd (ofL_inj q) k5) (fun _ => ?_)
      (try simp only[↓jr,jw,seval,ext_get_old,ext_set_old,ho,hg,set_get,set_set,rh1,rh2,rh3,rh4,rh5,rh6,rh7,rh8,rh9,rh11,rh12,rh13,rh14,rh15,true_and])
      refine JCs.ret (s_Next h') ?_
      simp only [hdS]
      (try simp only[↓jr,jw,seval,ext_get_old,ext_set_old,ho,hg,set_get,set_set,rh1,rh2,rh3,rh4,rh5,rh6,rh7,rh8,rh9,rh11,rh12,rh13,rh14,rh15,true_and])
      by_cases k6 : t = tAll
      · subst k6
        refine wq.intro (fun _ => ?_) (fun q => absurd rfl q)
        (try simp only[↓jr,jw,seval,ext_get_old,ext_set_old,ho,hg,set_get,set_set,rh1,rh2,rh3,rh4,rh5,rh6,rh7,rh8,rh9,rh11,rh12,rh13,rh14,rh15,true_and])
        have hS : PRd (Pg.ext j [(.cells TE [I64 6, I64 0, .sl .nil 0 [], .sl .nil 0 []]), (.cells 70 [.ptr (pid j.next 0) 0])]) ro nb (tAll :: r) b lt ls := (PRd.mk ho hg hn hl0).ex _ (low 2)
        refine JCs.ret (s_IsT hS) ?_
        (try simp only[↓jr,jw,seval,ext_get_old,ext_set_old,ho,hg,set_get,set_set,rh1,rh2,rh3,rh4,rh5,rh6,rh7,rh8,rh9,rh11,rh12,rh13,rh14,rh15,true_and])
        -- role
        refine JC.mono (s_RoleP (hP r (.cells TE [I64 7, I64 0, .sl .nil 0 [], .sl .nil 0 []]) (.cells 70 [.ptr (pid j.next 0) 0])) hc (by simp only [List.length_cons] at hl; omega) (fun t ht => hts t (by simp [ht])) (pid j.next 1) (pid j.next 0) ⟨by rw [ext_next, set_next]; unfold pid; simp, by unfold pid; omega, ext_get1 (j := j.set ro _)⟩) ?_
        intro o1 j1 q1
        cases hr : roleP r with
        | none =>
          rw [hr] at q1
          obtain ⟨rfl, g⟩ := q1
          have e : pT (f + 1) (tAll :: r) = none := by simp [pT, hr]
          rw [e]
          (try simp only[↓jr,jw,seval,ext_get_old,ext_set_old,ho,hg,set_get,set_set,rh1,rh2,rh3,rh4,rh5,rh6,rh7,rh8,rh9,rh11,rh12,rh13,rh14,rh15,true_and])
          exact JFIN.same (SubB.pure rfl) ⟨rfl, (hG r _ _).trans g⟩
        | some y =>
          obtain ⟨s, inv, r1⟩ := y
          rw [hr] at q1
          obtain ⟨rfl, lt1, av, p1, p2, p3, p4⟩ := q1
          have hr1 := roleP_len hr
          have gB0 : j1.get (pid j.next 0) = some (.cells TE [I64 7, I64 0, .sl .nil 0 [], .sl .nil 0 []]) := (p3.get (pid j.next 0) (by rw [ext_next, set_next]; unfold pid; simp) (by unfold pid; omega)).trans (ext_get0 (j := j.set ro _))
          have gB1 : j1.get (pid j.next 1) = some (.cells 70 [.ptr (pid j.next 0) 0]) := (p3.get (pid j.next 1) (by rw [ext_next, set_next]; unfold pid; simp) (by unfold pid; omega)).trans (ext_get1 (j := j.set ro _))
          have hn1 : pid j.next 2 ≤ j1.next := p3.next
          (try simp only[↓jr,jw,seval,ext_get_old,ext_set_old,ho,hg,set_get,set_set,rh1,rh2,rh3,rh4,rh5,rh6,rh7,rh8,rh9,rh11,rh12,rh13,rh14,rh15,true_and,gB0,gB1])
          refine JHLD.early (.ptr (pid j.next 0) 0) rfl (by (try simp only[↓jr,jw,seval,ext_get_old,ext_set_old,ho,hg,set_get,set_set,rh1,rh2,rh3,rh4,rh5,rh6,rh7,rh8,rh9,rh11,rh12,rh13,rh14,rh15,true_and,gB1])) ?_
          (try simp only[↓jr,jw,seval,ext_get_old,ext_set_old,ho,hg,set_get,set_set,rh1,rh2,rh3,rh4,rh5,rh6,rh7,rh8,rh9,rh11,rh12,rh13,rh14,rh15,true_and])
          refine JHLD.early (.ptr ro 0) rfl (by (try simp only[↓jr,jw,seval,ext_get_old,ext_set_old,ho,hg,set_get,set_set,rh1,rh2,rh3,rh4,rh5,rh6,rh7,rh8,rh9,rh11,rh12,rh13,rh14,rh15,true_and])) ?_
          (try simp only[↓jr,jw,seval,ext_get_old,ext_set_old,ho,hg,set_get,set_set,rh1,rh2,rh3,rh4,rh5,rh6,rh7,rh8,rh9,rh11,rh12,rh13,rh14,rh15,true_and])
          refine JHLD.go ?_
          (try simp only[↓jr,jw,seval,ext_get_old,ext_set_old,ho,hg,set_get,set_set,rh1,rh2,rh3,rh4,rh5,rh6,rh7,rh8,rh9,rh11,rh12,rh13,rh14,rh15,true_and])
          refine JC.mono (ih p1 (by simpa using p2) (by simp only [List.length_cons, List.length_append, List.length_nil] at hl ⊢; omega) (fun t ht => hts t (List.mem_cons_of_mem _ (hr1.2 t ht))) (by simp only [List.length_cons] at hf; omega)) ?_
          intro o j' q
          cases hp : pT f r1 with
          | none =>
            rw [hp] at q
            obtain ⟨rfl, g⟩ := q
            have e : pT (f + 1) (tAll :: r) = none := by simp [pT, hr, hp]
            rw [e]
            (try simp only[↓jr,jw,seval,ext_get_old,ext_set_old,ho,hg,set_get,set_set,rh1,rh2,rh3,rh4,rh5,rh6,rh7,rh8,rh9,rh11,rh12,rh13,rh14,rh15,true_and])
            exact fun _ => JFIN.same (SubB.pure rfl) ⟨rfl, ((hG r _ _).trans p3).trans g⟩
          | some x =>
            obtain ⟨T, r'⟩ := x
            rw [hp] at q
            obtain ⟨I, lt', avs, rfl, hsh, h1, h2, h3, h4, h5, h6, h7, h8⟩ := q
            have e : pT (f + 1) (tAll :: r) = some (.mk 7 (some (true, s, inv)) [T], r') := by simp [pT, or_true, hr, hp]
            rw [e]
            have gA0 : j'.get (pid j.next 0) = some (.cells TE [I64 7, I64 0, .sl .nil 0 [], .sl .nil 0 []]) := (h3.get (pid j.next 0) (by unfold pid at hn1 ⊢; omega) (by unfold pid; omega)).trans gB0
            have gA1 : j'.get (pid j.next 1) = some (.cells 70 [.ptr (pid j.next 0) 0]) := (h3.get (pid j.next 1) (by unfold pid at hn1 ⊢; omega) (by unfold pid; omega)).trans gB1
            (try simp only[↓jr,jw,seval,ext_get_old,ext_set_old,ho,hg,set_get,set_set,rh1,rh2,rh3,rh4,rh5,rh6,rh7,rh8,rh9,rh11,rh12,rh13,rh14,rh15,true_and,gA0,gA1])
            repeat (refine wc.intro (JHeld.cons (by (try simp only[↓jr,jw,seval,ext_get_old,ext_set_old,ho,hg,set_get,set_set,rh1,rh2,rh3,rh4,rh5,rh6,rh7,rh8,rh9,rh11,rh12,rh13,rh14,rh15,true_and,gA0,gA1,pushTok_get,pid_10,if_false])) (JHeld.cons (by (try simp only[↓jr,jw,seval,ext_get_old,ext_set_old,ho,hg,set_get,set_set,rh1,rh2,rh3,rh4,rh5,rh6,rh7,rh8,rh9,rh11,rh12,rh13,rh14,rh15,true_and,gA0,gA1,pushTok_get])) JHeld.nil)) ?_; (try simp only[↓jr,jw,seval,ext_get_old,ext_set_old,ho,hg,set_get,set_set,rh1,rh2,rh3,rh4,rh5,rh6,rh7,rh8,rh9,rh11,rh12,rh13,rh14,rh15,true_and,gA0,gA1,pushTok_get,pid_10,if_false]))
            exact node1 (T := T) (ref := some (true, s, inv)) (avs0 := [av]) rfl ho (((hG r _ _).trans p3).trans h3) hsh (by simpa using h1) (by simpa using h2) ⟨p4.grow h3, True.intro⟩ h4 h5 (fun i hi => ⟨by have := (h6 i hi).1; omega, (h6 i hi).2⟩) h7 (by simp only [List.length_cons, List.length_append, List.length_nil] at h8 hl ⊢; omega) (Nat.le_trans hn1 h3.next) rfl ⟨_, gA0⟩
      refine wq.intro (fun q => absurd (ofL_inj q) k6) (fun _ => ?_)
      (try simp only[↓jr,jw,seval,ext_get_old,ext_set_old,ho,hg,set_get,set_set,rh1,rh2,rh3,rh4,rh5,rh6,rh7,rh8,rh9,rh11,rh12,rh13,rh14,rh15,true_and])
      have hw := s_WordP (m := m) h' (hts t (by simp)).1 (hts t (by simp)).2
      refine JC.mono hw ?_
      have e5 : ¬ (t = tSome ∨ t = tAll) := fun q => q.elim k5 k6
      cases hk : wordK t with
      | false =>
        rintro _ _ ⟨rfl, rfl⟩
        have e : pT (f + 1) (t :: r) = none := by simp only [pT, if_neg k1, if_neg k2, if_neg k3, if_neg k4, if_neg e5, hk, Bool.false_eq_true, if_false]
        rw [e]
        (try simp only[↓jr,jw,seval,ext_get_old,ext_set_old,ho,hg,set_get,set_set,rh1,rh2,rh3,rh4,rh5,rh6,rh7,rh8,rh9,rh11,rh12,rh13,rh14,rh15,true_and])
        exact JFIN.same (SubB.pure rfl) ⟨rfl, Grow.ext⟩
      | true =>
        rintro _ _ ⟨rfl, rfl⟩
        have e : pT (f + 1) (t :: r) = some (.mk 0 (some (false, t, false)) [], r) := by simp only [pT, if_neg k1, if_neg k2, if_neg k3, if_neg k4, if_neg e5, hk, if_true]
        rw [e]
        (try simp only[↓jr,jw,seval,ext_get_old,ext_set_old,ho,hg,set_get,set_set,rh1,rh2,rh3,rh4,rh5,rh6,rh7,rh8,rh9,rh11,rh12,rh13,rh14,rh15,true_and])
        refine JC.mono (s_Look (G := GG m) (hP r (.cells TE [I64 0, I64 0, .sl .nil 0 [], .sl .nil 0 []]) (.cells 70 [.ptr (pid j.next 0) 0])) hc (by simp only [List.length_cons] at hl; omega) (ofL t) _ (.fn (.func 77) [] [.ptr (pid j.next 1) 0]) ⟨rfl, rfl⟩) ?_
        rintro _ j' ⟨rfl, lt', p1, p2, p3, p4, g0, g1, g2, g3⟩
        have gA0 : j'.get (pid j.next 0) = some (.cells TE [I64 0, I64 0, .sl .nil 0 [], .sl .nil 0 []]) := (p3.get (pid j.next 0) (by rw [ext_next, set_next]; unfold pid; simp) (by unfold pid; omega)).trans (ext_get0 (j := j.set ro _))
        have gA1 : j'.get (pid j.next 1) = some (.cells 70 [.ptr (pid j.next 0) 0]) := (p3.get (pid j.next 1) (by rw [ext_next, set_next]; unfold pid; simp) (by unfold pid; omega)).trans (ext_get1 (j := j.set ro _))
        have hn1 : pid j.next 2 ≤ j'.next := p3.next
        (try simp only[↓jr,jw,seval,ext_get_old,ext_set_old,ho,hg,set_get,set_set,rh1,rh2,rh3,rh4,rh5,rh6,rh7,rh8,rh9,rh11,rh12,rh13,rh14,rh15,true_and,gA0,gA1])
        have hput : Put (Pg.ext (j.set ro (.cells PE (prC nb r b lt ls))) [(.cells TE [I64 0, I64 0, .sl .nil 0 [], .sl .nil 0 []]), (.cells 70 [.ptr (pid j.next 0) 0])]) ro false false (pid j.next 0) (.fn (.func 77) [] [.ptr (pid j.next 1) 0]) := by
          unfold Put
          rw [if_neg (by decide)]
          exact ⟨_, rfl, by rw [ext_next, set_next]; unfold pid; simp, by unfold pid; omega, ext_get1 (j := j.set ro _)⟩
        refine JFIN.same (SubB.ptr (by unfold pid at hn1 ⊢; omega)) ⟨.mk (pid j.next 0) 0 (some (false, t, false)) [], lt', [_], rfl, rfl, p1, by simpa using p2, (hG r _ _).trans p3, ⟨Late.look (hP r _ _).ho rfl hput p3 p4 g0 g1 g2 g3, True.intro⟩, ?_, ?_, by simp [IT.ids, IT.idsL], by simp only [List.length_cons, List.length_append, List.length_nil]; omega⟩
        · simp only [TRep, TReps, and_true]
          exact ⟨.nil, ⟨by unfold pid at hn1 ⊢; omega, by unfold pid; omega, gA0⟩, rfl⟩
        · intro i hi
          simp only [IT.ids, IT.idsL, List.mem_cons, List.not_mem_nil, or_false] at hi
          subst hi
          unfold pid at hn1 ⊢; omega
end
end Go.Proofs.YtcajjicdbphkpaaDoor.Pg
