/-
  The program's reader: roles.
-/
import Derived.Test.YtcajjicdbphkpaaDoorQn
set_option linter.unusedVariables false
set_option linter.unusedSimpArgs false
set_option maxRecDepth 100000
set_option maxHeartbeats 8000000
namespace Go.Proofs.YtcajjicdbphkpaaDoor.Pg
open Go
/-- An old object that isn't the reader. -/
def gA (j : JH) (ro o : Nat) (x : AObj) : Prop := o < j.next ∧ o ≠ ro ∧ j.get o = some x
theorem gA.grow {tb : Nat} {j j' : JH} {ro o : Nat} {x : AObj} (h : gA j ro o x) (g : Grow ro tb j j') : gA j' ro o x := ⟨Nat.lt_of_lt_of_le h.1 g.next, h.2.1, (g.get o h.1 h.2.1).trans h.2.2⟩
abbrev intV (b : Bool) : AV := I64 (if b then 1 else 0)
/-- Where a number that is found is put. -/
def Put (j : JH) (ro : Nat) (role inv : Bool) (p : Nat) (put : AV) : Prop :=
  if role then ∃ e g t, put = .fn (.func 99) [] [.ptr e 0, .ptr g 0] ∧ gA j ro e (.cells 104 [.fn (.func 73) [] [.ptr t 0]]) ∧ gA j ro g (.cells 3 [intV inv]) ∧ gA j ro t (.cells 70 [.ptr p 0])
  else ∃ t, put = .fn (.func 77) [] [.ptr t 0] ∧ gA j ro t (.cells 70 [.ptr p 0])
/-- A late name. -/
def Late (j : JH) (ro : Nat) (role : Bool) (s : ByteArray) (inv : Bool) (p : Nat) (av : AV) : Prop :=
  ∃ a b c d put, av = lateV a b c d ∧ gA j ro a (.cells 106 [.fn (.func (if role then 98 else 76)) [] []]) ∧ gA j ro b (.cells 67 [.ptr ro 0]) ∧ gA j ro c (.cells 9 [STR s]) ∧ gA j ro d (.cells 104 [put]) ∧ Put j ro role inv p put
theorem Put.grow {tb : Nat} {j j' : JH} {ro : Nat} {role inv : Bool} {p : Nat} {put : AV} (h : Put j ro role inv p put) (g : Grow ro tb j j') : Put j' ro role inv p put := by
  unfold Put at h ⊢
  split
  · rename_i q; rw [if_pos q] at h; obtain ⟨e, i, t, h1, h2, h3, h4⟩ := h; exact ⟨e, i, t, h1, h2.grow g, h3.grow g, h4.grow g⟩
  · rename_i q; rw [if_neg q] at h; obtain ⟨t, h1, h2⟩ := h; exact ⟨t, h1, h2.grow g⟩
theorem Late.grow {tb : Nat} {j j' : JH} {ro : Nat} {role inv : Bool} {s : ByteArray} {p : Nat} {av : AV} (h : Late j ro role s inv p av) (g : Grow ro tb j j') : Late j' ro role s inv p av := by
  obtain ⟨a, b, c, d, put, h1, h2, h3, h4, h5, h6⟩ := h
  exact ⟨a, b, c, d, put, h1, h2.grow g, h3.grow g, h4.grow g, h5.grow g, h6.grow g⟩
/-- What Look leaves. -/
theorem Late.look {tb : Nat} {j j' : JH} {ro : Nat} {s : ByteArray} {sel : FuncId} {put : AV} {p : Nat} {role inv : Bool} (ho : ro < j.next) (hsel : sel = if role then 98 else 76) (hp : Put j ro role inv p put) (g : Grow ro tb j j') (hn : j'.next = pid j.next 4)
    (h0 : j'.get (pid j.next 0) = some (.cells 67 [.ptr ro 0])) (h1 : j'.get (pid j.next 1) = some (.cells 9 [STR s])) (h2 : j'.get (pid j.next 2) = some (.cells 106 [.fn (.func sel) [] []])) (h3 : j'.get (pid j.next 3) = some (.cells 104 [put])) :
    Late j' ro role s inv p (lateV (pid j.next 2) (pid j.next 0) (pid j.next 1) (pid j.next 3)) := by
  have b : ∀ k, k < 4 → pid j.next k < j'.next ∧ pid j.next k ≠ ro := fun k hk => by rw [hn]; unfold pid; omega
  exact ⟨_, _, _, _, put, rfl, ⟨(b 2 (by omega)).1, (b 2 (by omega)).2, by rw [h2, hsel]⟩, ⟨(b 0 (by omega)).1, (b 0 (by omega)).2, h0⟩, ⟨(b 1 (by omega)).1, (b 1 (by omega)).2, h1⟩, ⟨(b 3 (by omega)).1, (b 3 (by omega)).2, h3⟩, hp.grow g⟩
def roleP (ts : List (List UInt8)) : Option (List UInt8 × Bool × List (List UInt8)) :=
  match ts with
  | t :: r => if wordK t then (match r with | m :: r2 => if m = [45] then some (t, true, r2) else some (t, false, r) | [] => some (t, false, [])) else none
  | [] => none
section
variable {m : Int}
/-- What a late name leaves of the reader. -/
def LateQ (tb : Nat) (j : JH) (ro nb : Nat) (b : Bool) (ls : List AV) (role : Bool) (p : Nat) (res : Option (List UInt8 × Bool × List (List UInt8))) : AOut → JH → Prop := fun o j' => match res with
  | none => o = .pan wrongV ∧ Grow ro tb j j'
  | some (t, inv, r) => o = .ret (aret []) ∧ ∃ lt' av, PRd j' ro nb r b lt' (ls ++ [av]) ∧ CanA tb j' lt' (ls.length + 1) ∧ Grow ro tb j j' ∧ Late j' ro role (ofL t) inv p av
theorem Grow.ext {ro tb : Nat} {j : JH} {l : List AObj} : Grow ro tb j (Pg.ext j l) := ⟨by rw [ext_next]; unfold pid; omega, Nat.le_refl _, fun o ho _ => ext_get_old ho, fun _ _ => rfl⟩
theorem s_RoleP {tb : Nat} {sg : List UInt8} {j : JH} {ro nb : Nat} {ts : List (List UInt8)} {b : Bool} {lt : Tok} {ls : List AV} (h : PRd j ro nb ts b lt ls) (hc : CanA tb j lt ls.length) (hll : ls.length ≤ 1000000) (hts : ∀ t ∈ ts, tkOK sg t ∧ t.length ≤ 1000000) (t p : Nat) (hp : gA j ro t (.cells 70 [.ptr p 0])) :
    JC Tryd.prog (GG m) 72 [.ptr ro 0, .fn (.func 73) [] [.ptr t 0]] j (LateQ tb j ro nb b ls true p (roleP ts)) := by
  have low : ∀ k, AV.low (pid j.next k) j.tnext (.sl lt ls.length ls) = true := fun k => low_mono (by unfold pid; omega) (Nat.le_refl _) _ h.hl
  have h' := h.ex [.cells 104 [.fn (.func 73) [] [.ptr t 0]]] (low _)
  refine JC.run hmix c72 (by exact k72) ?_
  (try simp only[↓jr,jw,seval,ir72])
  cases ts with
  | nil =>
    refine JCs.pan (s_WordN h') ?_
    (try simp only[↓jr,jw,seval])
    exact JFIN.same (SubB.pure rfl) ⟨rfl, Grow.ext⟩
  | cons w r =>
    refine JC.mono (s_WordP h' (hts w (by simp)).1 (hts w (by simp)).2) ?_
    cases hw : wordK w with
    | false =>
      rintro _ _ ⟨rfl, rfl⟩
      (try simp only[↓jr,jw,seval])
      have e : roleP (w :: r) = none := by simp only [roleP, hw, Bool.false_eq_true, if_false]
      rw [e]
      exact JFIN.same (SubB.pure rfl) ⟨rfl, Grow.ext⟩
    | true =>
      rintro _ _ ⟨rfl, rfl⟩
      obtain ⟨ho, hg, hn, hl⟩ := h
      (try simp only[↓jr,jw,seval,ext_get_old,ext_set_old,ho,hg,set_get,set_set])
      let X0 : AObj := .cells 104 [.fn (.func 73) [] [.ptr t 0]]
      have hP : ∀ (r' : List (List UInt8)) (i : Int), PRd (Pg.ext (j.set ro (.cells PE (prC nb r' b lt ls))) [X0, .cells 3 [I64 i]]) ro nb r' b lt ls := fun r' i =>
        ⟨by rw [ext_next, set_next]; unfold pid; omega, by rw [ext_get_old (by rw [set_next]; exact ho), set_get, if_pos rfl], by rw [ext_next, set_next]; unfold pid; omega, by rw [ext_next, ext_tnext, set_next, set_tnext]; exact low 2⟩
      have hG : ∀ (r' : List (List UInt8)) (i : Int), Grow ro tb j (Pg.ext (j.set ro (.cells PE (prC nb r' b lt ls))) [X0, .cells 3 [I64 i]]) := fun r' i => Grow.set.trans Grow.ext
      have hPut : ∀ (r' : List (List UInt8)) (i : Int) (inv : Bool), (if inv then (1 : Int) else 0) = i → Put (Pg.ext (j.set ro (.cells PE (prC nb r' b lt ls))) [X0, .cells 3 [I64 i]]) ro true inv p (.fn (.func 99) [] [.ptr (pid j.next 0) 0, .ptr (pid j.next 1) 0]) := by
        intro r' i inv hi
        unfold Put
        rw [if_pos rfl]
        refine ⟨_, _, t, rfl, ⟨by rw [ext_next, set_next]; unfold pid; simp, by unfold pid; omega, by (try simp only[↓jr,jw,seval,ext_get_old,ext_set_old,ho,hg,set_get,set_set]); rfl⟩, ⟨by rw [ext_next, set_next]; unfold pid; simp, by unfold pid; omega, by (try simp only[↓jr,jw,seval,ext_get_old,ext_set_old,ho,hg,set_get,set_set]); simp [← hi]⟩, hp.grow (hG r' i)⟩
      cases r with
      | nil =>
        refine JCs.ret (s_IsF (hP [] 0) [45] (fun q => by have hz : ([45] : List UInt8).length = 0 := by rw [← ofL_size, ← q]; rfl
                                                          simp at hz)) ?_
        (try simp only[↓jr,jw,seval,ext_get_old,ext_set_old,ho,hg,set_get,set_set])
        refine JC.mono (s_Look (G := GG m) (j := Pg.ext (j.set ro (.cells PE (prC nb [] b lt ls))) [X0, .cells 3 [I64 0]]) (hP [] 0) hc hll (ofL w) _ _ ⟨rfl, rfl⟩) ?_
        rintro _ j' ⟨rfl, lt', k1, k2, k3, k4, g0, g1, g2, g3⟩
        (try simp only[↓jr,jw,seval,ext_get_old,ext_set_old,ho,hg,set_get,set_set])
        have e : roleP (w :: []) = some (w, false, []) := by simp only [roleP, hw, if_true]
        rw [e]
        refine JFIN.same (SubB.pure rfl) ⟨rfl, lt', _, k1, k2, (hG [] 0).trans k3, ?_⟩
        exact Late.look (hP [] 0).ho rfl (hPut [] 0 false rfl) k3 k4 g0 g1 g2 g3
      | cons x r2 =>
        by_cases hx : x = [45]
        · subst hx
          refine JCs.ret (s_IsT (hP ([45] :: r2) 0)) ?_
          (try simp only[↓jr,jw,seval,ext_get_old,ext_set_old,ho,hg,set_get,set_set])
          refine JC.mono (s_Look (G := GG m) (j := Pg.ext (j.set ro (.cells PE (prC nb r2 b lt ls))) [X0, .cells 3 [I64 1]]) (hP r2 1) hc hll (ofL w) _ _ ⟨rfl, rfl⟩) ?_
          rintro _ j' ⟨rfl, lt', k1, k2, k3, k4, g0, g1, g2, g3⟩
          (try simp only[↓jr,jw,seval,ext_get_old,ext_set_old,ho,hg,set_get,set_set])
          have e : roleP (w :: [45] :: r2) = some (w, true, r2) := by simp only [roleP, hw, if_true]
          rw [e]
          refine JFIN.same (SubB.pure rfl) ⟨rfl, lt', _, k1, k2, (hG r2 1).trans k3, ?_⟩
          exact Late.look (hP r2 1).ho rfl (hPut r2 1 true rfl) k3 k4 g0 g1 g2 g3
        · refine JCs.ret (s_IsF (hP (x :: r2) 0) [45] (fun q => hx (ofL_inj q))) ?_
          (try simp only[↓jr,jw,seval,ext_get_old,ext_set_old,ho,hg,set_get,set_set])
          refine JC.mono (s_Look (G := GG m) (j := Pg.ext (j.set ro (.cells PE (prC nb (x :: r2) b lt ls))) [X0, .cells 3 [I64 0]]) (hP (x :: r2) 0) hc hll (ofL w) _ _ ⟨rfl, rfl⟩) ?_
          rintro _ j' ⟨rfl, lt', k1, k2, k3, k4, g0, g1, g2, g3⟩
          (try simp only[↓jr,jw,seval,ext_get_old,ext_set_old,ho,hg,set_get,set_set])
          have e : roleP (w :: x :: r2) = some (w, false, (x :: r2)) := by simp only [roleP, hw, if_true, if_neg hx]
          rw [e]
          refine JFIN.same (SubB.pure rfl) ⟨rfl, lt', _, k1, k2, (hG (x :: r2) 0).trans k3, ?_⟩
          exact Late.look (hP (x :: r2) 0).ho rfl (hPut (x :: r2) 0 false rfl) k3 k4 g0 g1 g2 g3
end
end Go.Proofs.YtcajjicdbphkpaaDoor.Pg
