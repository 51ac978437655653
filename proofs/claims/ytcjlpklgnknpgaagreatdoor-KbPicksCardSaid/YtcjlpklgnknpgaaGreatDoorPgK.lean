/-
  Pg, part 14: rules that run the code under simp, step by step.
-/
import Derived.Test.YtcjlpklgnknpgaaGreatDoorPgJ
set_option linter.unusedVariables false
set_option linter.unusedSimpArgs false
set_option linter.unusedSectionVars false
set_option linter.defProp false
namespace Go.Proofs.YtcjlpklgnknpgaaGreatDoor.Pg
open Go
class Hid (α : Type) where
 v : α
def jv (x : AV) [K : Hid (AV → Prop)] : Prop := K.v x
def wh {α : Type} (o : Option α) [K : Hid (α → Prop)] : Prop := wv o K.v
def ww (c : Bool) [A : Hid Prop] [B : Hid Prop] : Prop := wb c A.v B.v
def wq (p : Prop) [A : Hid Prop] [B : Hid Prop] : Prop := (p → A.v) ∧ (¬ p → B.v)
def wc (c : Prop) [A : Hid Prop] : Prop := c ∧ A.v
structure wr (r : Int) [K : Hid (AV → Prop)] : Prop where
 go : K.v (.v (.int .i64 (IntKind.i64.wrap r)))
theorem wr.in {r : Int} {K : AV → Prop} (h : R64 r) (k : K (.v (.int .i64 r))) : @wr r ⟨K⟩ := @wr.mk r ⟨K⟩ (by rw [h.wrap]; exact k)
theorem wr.any {r : Int} {K : AV → Prop} (k : K (.v (.int .i64 (IntKind.i64.wrap r)))) : @wr r ⟨K⟩ := @wr.mk r ⟨K⟩ k
theorem wq.intro {p A B : Prop} (a : p → A) (b : ¬ p → B) : @wq p ⟨A⟩ ⟨B⟩ := ⟨a, b⟩
theorem ww.intro {t : Bool} {A B : Prop} (a : t = true → A) (b : t = false → B) : @ww t ⟨A⟩ ⟨B⟩ := ⟨a, b⟩
theorem wc.intro {c A : Prop} (h : c) (a : A) : @wc c ⟨A⟩ := ⟨h, a⟩
theorem p_dec {p : Prop} [Decidable p] {A B : Prop} : @ww (decide p) ⟨A⟩ ⟨B⟩ = @wq p ⟨A⟩ ⟨B⟩ := by
 unfold ww wq wb; by_cases h : p <;> simp [h]
theorem p_bnot {t : Bool} {A B : Prop} : @ww (!t) ⟨A⟩ ⟨B⟩ = @ww t ⟨B⟩ ⟨A⟩ := by
 cases t <;> simp [ww, wb]
theorem p_true {A B : Prop} : @ww true ⟨A⟩ ⟨B⟩ = A := by simp [ww]
theorem p_false {A B : Prop} : @ww false ⟨A⟩ ⟨B⟩ = B := by simp [ww]
theorem p_True {A B : Prop} : @wq True ⟨A⟩ ⟨B⟩ = A := by simp [wq]
theorem p_False {A B : Prop} : @wq False ⟨A⟩ ⟨B⟩ = B := by simp [wq]
theorem p_not {p A B : Prop} : @wq (¬ p) ⟨A⟩ ⟨B⟩ = @wq p ⟨B⟩ ⟨A⟩ := by
 unfold wq; by_cases h : p <;> simp [h]
theorem p_wc {A : Prop} : @wc True ⟨A⟩ = A := by simp [wc]
theorem p_jv {x : AV} {K : AV → Prop} : @jv x ⟨K⟩ = K x := rfl
theorem p_wh {α : Type} {x : α} {K : α → Prop} : @wh α (some x) ⟨K⟩ = K x := rfl
section
variable {P : Program} {G : Nat → Option (List AV)}
def JLOOP (P : Program) (G : Nat → Option (List AV)) (a : IR) (l : L) (j : JH) [Q : Hid (AX → L → JH → Prop)] : Prop := jwp P G (.loop a) l j Q.v
def JDRAW (pairs : List (Nat × Nat)) (es : List JEnt) [A : Hid Prop] : Prop := jdrawOk pairs es ∧ A.v
def JDC (P : Program) (G : Nat → Option (List AV)) (f : FuncId) (args : List AV) (j : JH) [K : Hid (AV → JH → Prop)] : Prop := ∃ x j', JC P G f args j (fun o k => o = .ret x ∧ k = j') ∧ K.v x j'
def jdcallv (P : Program) (G : Nat → Option (List AV)) (f : AV) (xs : List AV) (j : JH) (K : AV → JH → Prop) : Prop :=
 match f with
 | .fn (.func g) first cap => hasBody P g = true ∧ ∃ x j', JC P G g (first ++ xs ++ cap) j (fun o k => o = .ret x ∧ k = j') ∧ K x j'
 | _ => False
def okE (e : JEnt) : Prop := e.hb.next ≤ e.ha.next ∧ e.hb.tnext ≤ e.ha.tnext ∧ ∀ ob, e.touch = some ob → ob < e.hb.next
def okEs : List JEnt → Prop
 | [] => True
 | e :: es => okE e ∧ okEs es
def pair2 (ei ej : JEnt) : Prop := ei.ex = true → ej.ex = true → (∀ ob, ei.touch = some ob → ej.hb.get ob = ej.ha.get ob) ∧
      (ei.ha.next ≠ ei.hb.next → ej.hb.get ei.hb.next = ej.ha.get ei.hb.next) ∧ (ei.ha.tnext ≠ ei.hb.tnext → ej.hb.tok ei.hb.tnext = ej.ha.tok ei.hb.tnext)
def okPair : Option JEnt → Option JEnt → Prop
 | some a, some b => pair2 a b
 | _, _ => True
def okPs (es : List JEnt) : List (Nat × Nat) → Prop
 | [] => True
 | p :: r => okPair es[p.1]? es[p.2]? ∧ okPs es r
theorem okEs_all : ∀ {es : List JEnt}, okEs es → ∀ e ∈ es, okE e
 | x :: es, h, e, m => by
  rcases List.mem_cons.1 m with rfl | m
  ·exact h.1
  ·exact okEs_all h.2 e m
theorem okPs_all {es : List JEnt} : ∀ {ps : List (Nat × Nat)}, okPs es ps → ∀ p ∈ ps, jpairOk es p
 | x :: ps, h, p, m => by
  rcases List.mem_cons.1 m with rfl | m
  ·have h1 := h.1
   unfold jpairOk
   cases ha : es[p.1]? with
   | none => simp
   | some a =>
    cases hb : es[p.2]? with
    | none => simp
    | some b => rw [ha, hb] at h1; exact h1
  ·exact okPs_all h.2 p m
theorem JDRAW.of {pairs : List (Nat × Nat)} {es : List JEnt} {A : Prop} (h1 : okEs es) (h2 : okPs es pairs) (a : A) : @JDRAW pairs es ⟨A⟩ := ⟨⟨okEs_all h1, okPs_all h2⟩, a⟩
theorem q_es0 : okEs [] = True := rfl
theorem q_es1 {e : JEnt} {es : List JEnt} : okEs (e :: es) = (okE e ∧ okEs es) := rfl
theorem q_e0 {b : Bool} {j : JH} : okE ⟨b, none, j, j⟩ = True := by simp [okE]
theorem q_e1 {b : Bool} {o : Nat} {j : JH} : okE ⟨b, some o, j, j⟩ = (o < j.next) := by simp [okE]
theorem q_ps0 {es : List JEnt} : okPs es [] = True := rfl
theorem q_ps1 {es : List JEnt} {a b : Nat} {ps : List (Nat × Nat)} : okPs es ((a, b) :: ps) = (okPair es[a]? es[b]? ∧ okPs es ps) := rfl
theorem q_pr {a b : JEnt} : okPair (some a) (some b) = pair2 a b := rfl
theorem q_p0 {a : JEnt} {b : Bool} {t : Option Nat} {j : JH} : pair2 a ⟨b, t, j, j⟩ = True := by simp [pair2]
theorem q_p1 {a : JEnt} {t : Option Nat} {j j' : JH} : pair2 a ⟨false, t, j, j'⟩ = True := by simp [pair2]
theorem q_p2 {b : JEnt} {t : Option Nat} {j j' : JH} : pair2 ⟨false, t, j, j'⟩ b = True := by simp [pair2]
def jtv : AV → Option Nat
 | .ptr o _ | .mp o => some o
 | _ => none
theorem q_t0 {l : L} : jtouch l none = none := rfl
theorem q_t1 {l : L} {t : Nat} : jtouch l (some (.r t)) = jtv (lk l t) := by unfold jtouch jtv; rfl
theorem q_v1 {o off : Nat} : jtv (.ptr o off) = some o := rfl
theorem q_v2 {o : Nat} : jtv (.mp o) = some o := rfl
theorem q_v3 {v : Value} : jtv (.v v) = none := rfl
theorem q_v4 {cs : List AV} : jtv (.cptr cs) = none := rfl
theorem q_v5 {tok : Tok} {n : Nat} {cs : List AV} : jtv (.sl tok n cs) = none := rfl
theorem q_v6 {o off n : Nat} : jtv (.arr o off n) = none := rfl
theorem q_v7 {cs : List AV} : jtv (.agg cs) = none := rfl
theorem q_v8 {f : Fn} {a b : List AV} : jtv (.fn f a b) = none := rfl
theorem q_v9 {t : TypeId} {x : AV} : jtv (.ifc t x) = none := rfl
theorem q_v11 {o : Nat} : jtv (.yld o) = none := rfl
theorem q_v10 {cs : List AV} : jtv (.tup cs) = none := rfl
def jq := And.intro @q_v11 (And.intro @q_es0 (And.intro @q_es1 (And.intro @q_e0 (And.intro @q_e1 (And.intro @q_ps0 (And.intro @q_ps1 (And.intro @q_pr (And.intro @q_p0 (And.intro @q_p1 (And.intro @q_p2 (And.intro @q_t0 (And.intro @q_t1 (And.intro @q_v1 (And.intro @q_v2 (And.intro @q_v3 (And.intro @q_v4 (And.intro @q_v5 (And.intro @q_v6 (And.intro @q_v7 (And.intro @q_v8 (And.intro @q_v9 @q_v10)))))))))))))))))))))
def JCs (P : Program) (G : Nat → Option (List AV)) (f : FuncId) (args : List AV) (j : JH) [Q : Hid (AOut → JH → Prop)] : Prop := JC P G f args j Q.v
theorem JCs.use {f : FuncId} {args : List AV} {j : JH} {Q' K : AOut → JH → Prop} (h : JC P G f args j Q') (k : ∀ o j', Q' o j' → K o j') : @JCs P G f args j ⟨K⟩ := JC.mono h k
def JFIN (j0 j' : JH) (v : AV) [K : Hid (AV → JH → Prop)] : Prop := jfin j0 j' v K.v
def JMAPUP (j : JH) (kind : TypeDesc) (m k x : AV) [K : Hid (JH → Prop)] : Prop := jmapup j kind m k x K.v
def JMKS (j : JH) (e : TypeId) (es bytes : Nat) (z : List AV) (l c : AV) [K : Hid (AV → JH → Prop)] : Prop := jmks j e es bytes z l c K.v
def JGEN (P : Program) (G : Nat → Option (List AV)) (o : Oper) (l : L) (j : JH) [K : Hid (AOut → JH → Prop)] : Prop := jstep P G l j (.gen o) K.v
def JDGEN (P : Program) (G : Nat → Option (List AV)) (o : Oper) (l : L) (j : JH) [K : Hid (AV → JH → Prop)] : Prop := jdstep P G l j (.gen o) K.v
def JAPP (j : JH) (es bytes : Nat) (a b : AV) [K : Hid (AV → JH → Prop)] : Prop := japp j es bytes a b K.v
def pid (b k : Nat) : Nat := b + k
def ext (j : JH) (l : List AObj) : JH := { j with next := j.next + l.length, get := fun o => if o < j.next then j.get o else l[o - j.next]? }
theorem ext_push {j : JH} {l : List AObj} {x : AObj} : (ext j l).push x = ext j (l ++ [x]) := by
 unfold ext JH.push
 simp only [JH.mk.injEq, true_and, and_true, List.length_append, List.length_cons, List.length_nil]
 refine ⟨by omega, funext fun o => ?_⟩
 by_cases h : o < j.next
 ·rw [if_pos h, if_pos h, if_neg (by omega)]
 ·rw [if_neg h, if_neg h]
  by_cases e : o = j.next + l.length
  ·subst e; simp
  ·rw [if_neg e]
   by_cases h2 : o - j.next < l.length
   ·rw [List.getElem?_append_left h2]
   ·rw [List.getElem?_eq_none (by omega), List.getElem?_eq_none (by simp; omega)]
theorem ext_next {j : JH} {l : List AObj} : (ext j l).next = pid j.next l.length := rfl
theorem ext_tnext {j : JH} {l : List AObj} : (ext j l).tnext = j.tnext := rfl
theorem ext_tok {j : JH} {l : List AObj} : (ext j l).tok = j.tok := rfl
theorem ext_get_new {j : JH} {l : List AObj} {k : Nat} {b : Nat} (e : j.next = b) : (ext j l).get (pid b k) = l[k]? := by
 unfold ext pid; subst e
 simp only [if_neg (show ¬ j.next + k < j.next from by omega), show j.next + k - j.next = k from by omega]
theorem ext_get_old {j : JH} {l : List AObj} {o : Nat} (h : o < j.next) : (ext j l).get o = j.get o := by
 unfold ext; simp only [if_pos h]
theorem ext_set_new {j : JH} {l : List AObj} {k : Nat} {b : Nat} {x : AObj} (e : j.next = b) (h : k < l.length) : (ext j l).set (pid b k) x = ext j (l.set k x) := by
 unfold ext pid JH.set; subst e
 simp only [JH.mk.injEq, true_and, and_true, List.length_set]
 refine funext fun o => ?_
 by_cases ho : o = j.next + k
 ·subst ho
  rw [if_pos rfl, if_neg (by omega), show j.next + k - j.next = k from by omega, List.getElem?_set_self h]
 ·rw [if_neg ho]
  by_cases h2 : o < j.next
  ·rw [if_pos h2, if_pos h2]
  ·rw [if_neg h2, if_neg h2, List.getElem?_set_ne (by omega)]
theorem ext_set_old {j : JH} {l : List AObj} {o : Nat} {x : AObj} (h : o < j.next) : (ext j l).set o x = ext (j.set o x) l := by
 unfold ext JH.set
 simp only [JH.mk.injEq, true_and, and_true]
 refine funext fun p => ?_
 by_cases ho : p = o
 ·subst ho; rw [if_pos rfl, if_pos h, if_pos rfl]
 ·rw [if_neg ho]
  by_cases h2 : p < j.next
  ·rw [if_pos h2, if_pos h2, if_neg ho]
  ·rw [if_neg h2, if_neg h2]
theorem ext_pushTok {j : JH} {l : List AObj} {F : Nat} : (ext j l).pushTok F = ext (j.pushTok F) l := rfl
theorem ext_setTok {j : JH} {l : List AObj} {t F : Nat} : (ext j l).setTok t F = ext (j.setTok t F) l := rfl
theorem set_next {j : JH} {o : Nat} {x : AObj} : (j.set o x).next = j.next := rfl
theorem set_tnext {j : JH} {o : Nat} {x : AObj} : (j.set o x).tnext = j.tnext := rfl
theorem set_tok {j : JH} {o : Nat} {x : AObj} : (j.set o x).tok = j.tok := rfl
theorem pushTok_next {j : JH} {F : Nat} : (j.pushTok F).next = j.next := rfl
theorem setTok_next {j : JH} {t F : Nat} : (j.setTok t F).next = j.next := rfl
theorem pushTok_get {j : JH} {F : Nat} : (j.pushTok F).get = j.get := rfl
theorem setTok_get {j : JH} {t F : Nat} : (j.setTok t F).get = j.get := rfl
theorem pushTok_tnext {j : JH} {F : Nat} : (j.pushTok F).tnext = j.tnext + 1 := rfl
theorem setTok_tnext {j : JH} {t F : Nat} : (j.setTok t F).tnext = j.tnext := rfl
theorem set_get {j : JH} {o p : Nat} {x : AObj} : (j.set o x).get p = if p = o then some x else j.get p := rfl
def jg' (x : AV) (t : Nat) (want : Bool) (l : L) (A B : L → Prop) : Prop :=
 match x with
 | .v (.bool c) => wb c (if want then A ((t, .v (.bool true)) :: l) else B ((t, .v (.bool true)) :: l)) (if want then B ((t, .v (.bool false)) :: l) else A ((t, .v (.bool false)) :: l))
 | .v (.tuple _) => B l
 | _ => False
def jext (x : AV) (i : Nat) (K : AV → Prop) : Prop :=
 match x with
 | .tup vs => wv (vs[i]?) K
 | _ => False
def JYs (P : Program) (G : Nat → Option (List AV)) (o : Nat) (xs : List AV) (j : JH) [K : Hid (AOut → JH → Prop)] : Prop := JY P G o xs j K.v
def JRNG (P : Program) (G : Nat → Option (List AV)) (g : AV) (ps : Array Tmp) (ca cb : Code) (a b : IR) (l : L) (j : JH) [Q : Hid (AX → L → JH → Prop)] : Prop := jwp P G (.rng (.k g) ps ca cb a b) l j Q.v
def JORC (P : Program) (G : Nat → Option (List AV)) (c : Code) (l : L) (j : JH) [Q : Hid (AX → L → JH → Prop)] : Prop := jwp P G (.orc c) l j Q.v
def JDRP (P : Program) (G : Nat → Option (List AV)) (ops : List IOp) (pairs : List (Nat × Nat)) (p : Nat) (l : L) (j : JH) [Q : Hid (AX → L → JH → Prop)] : Prop := jwp P G (.drawP ops pairs p) l j Q.v
def JDPC (P : Program) (G : Nat → Option (List AV)) (f : FuncId) (args : List AV) (j : JH) [K : Hid (AV → JH → Prop)] : Prop := ∃ x j', JC P G f args j (fun o k => o = .pan x ∧ k = j') ∧ K.v x j'
def jcallv (P : Program) (G : Nat → Option (List AV)) (f : AV) (xs : List AV) (j : JH) (K : AOut → JH → Prop) : Prop :=
 match f with
 | .fn (.func g) first cap => hasBody P g = true ∧ JC P G g (first ++ xs ++ cap) j K
 | .yld o => JY P G o xs j K
 | _ => False
def jcells (ob : AObj) (row : Option Nat) (off : Nat) (K : AV → Prop) : Prop :=
 match ob with
 | .cells _ cs => wv (icut row cs off) K
 | _ => False
def jstc (j : JH) (size o off : Nat) (xs : List AV) (ob : AObj) (K : JH → Prop) : Prop :=
 match ob with
 | .cells e cs => (xs.length = size ∧ off + xs.length ≤ cs.length ∧ xs.all AV.one = true) ∧ K (j.set o (.cells e (splice cs off xs)))
 | _ => False
def jcs (cs : List AV) [K : Hid (List AV → Prop)] : Prop := K.v cs
def jjh (j : JH) [K : Hid (JH → Prop)] : Prop := K.v j
def JNEXT (J : Nat → L → JH → Prop) (n : Nat) (j1 : JH) (l' : L) (j' : JH) : Prop := ∃ m l2 j2, m < n ∧ JDropL j2 l' l2 ∧ JDropW j1 j' j2 ∧ J m l2 j2
section
variable {l : L} {j : JH} {Q : AX → L → JH → Prop} {K : AV → Prop} {KO : AOut → JH → Prop}
theorem r_wp1 : jwp P G .skip l j Q = Q .norm l j := rfl
theorem r_wp2 {id : Nat} : jwp P G (.exit id) l j Q = Q (.exit id) l j := rfl
theorem r_wp3 : jwp P G .ret l j Q = Q .ret l j := rfl
theorem r_wp4 {ops : List IOp} : jwp P G (.reg ops) l j Q = jops P G ops l j (jregQ Q) := rfl
theorem r_wp5 {ops : List IOp} {pairs : List (Nat × Nat)} : jwp P G (.draw ops pairs) l j Q = jdraw P G ops l j [] fun l' j' es => @JDRAW pairs es ⟨Q .norm l' j'⟩ := rfl
theorem r_wp6 {a b : IR} : jwp P G (.seq a b) l j Q = jwp P G a l j (jthen (fun l j => jwp P G b l j Q) Q) := rfl
theorem r_wp7 {x : X} {a b : IR} : jwp P G (.cond x a b) l j Q = jx G l x fun c => jbool c fun t => @ww t ⟨jwp P G a l j Q⟩ ⟨jwp P G b l j Q⟩ := rfl
theorem r_wp8 {id : Nat} {a : IR} : jwp P G (.block id a) l j Q = jwp P G a l j (jblock id Q) := rfl
theorem r_wp9 {a : IR} : jwp P G (.loop a) l j Q = @JLOOP P G a l j ⟨Q⟩ := rfl
theorem r_wp10 {x : X} {ps : Array Tmp} {ca cb : Code} {a b : IR} : jwp P G (.rng x ps ca cb a b) l j Q = jx G l x fun g => @JRNG P G g ps ca cb a b l j ⟨Q⟩ := rfl
theorem r_wp11 {c : Code} : jwp P G (.orc c) l j Q = @JORC P G c l j ⟨Q⟩ := rfl
theorem r_wp5p {ops : List IOp} {pairs : List (Nat × Nat)} {p : Nat} : jwp P G (.drawP ops pairs p) l j Q = @JDRP P G ops pairs p l j ⟨Q⟩ := rfl
theorem r_dpan {d : Option Nat} {tx : Option X} {f : FuncId} {xs : List X} {K : AV → JH → Prop} : jdpan P G l j (some ⟨d, none, tx, .call f xs⟩) K = jxs G l xs fun xs => @JDPC P G f xs j ⟨K⟩ := rfl
theorem r_yld {o : Nat} {xs : List AV} : jcallv P G (.yld o) xs j KO = @JYs P G o xs j ⟨KO⟩ := rfl
theorem r_ops0 {QO : Option AV → L → JH → Prop} : jops P G [] l j QO = QO none l j := rfl
theorem r_ops1 {d : Option Nat} {tx : Option X} {i : I} {r : List IOp} {QO : Option AV → L → JH → Prop} : jops P G (⟨d, none, tx, i⟩ :: r) l j QO = jstep P G l j i (joutK (fun x j' => jput l d x fun l' => jops P G r l' j' QO) fun x j' => QO (some x) l j') := rfl
theorem r_ops2 {d : Option Nat} {tx : Option X} {t : Nat} {w : Bool} {i : I} {r : List IOp} {QO : Option AV → L → JH → Prop} : jops P G (⟨d, some (t, w), tx, i⟩ :: r) l j QO = @jv (lk l t) ⟨fun x => jg' x t w l (fun l => jstep P G l j i (joutK (fun x j' => jput l d x fun l' => jops P G r l' j' QO) fun x j' => QO (some x) l j')) (fun l => jput l d (.v undef) fun l' => jops P G r l' j QO)⟩ := rfl
theorem r_dr0 {es : List JEnt} {QD : L → JH → List JEnt → Prop} : jdraw P G [] l j es QD = QD l j es := rfl
theorem r_dr1 {d : Option Nat} {tx : Option X} {i : I} {r : List IOp} {es : List JEnt} {QD : L → JH → List JEnt → Prop} : jdraw P G (⟨d, none, tx, i⟩ :: r) l j es QD = jdstep P G l j i fun x j' => jput l d x fun l' => jdraw P G r l' j' (es ++ [⟨true, jtouch l tx, j, j'⟩]) QD := rfl
theorem r_dr2 {d : Option Nat} {tx : Option X} {t : Nat} {w : Bool} {i : I} {r : List IOp} {es : List JEnt} {QD : L → JH → List JEnt → Prop} : jdraw P G (⟨d, some (t, w), tx, i⟩ :: r) l j es QD = @jv (lk l t) ⟨fun x => jg' x t w l (fun l => jdstep P G l j i fun x j' => jput l d x fun l' => jdraw P G r l' j' (es ++ [⟨true, jtouch l tx, j, j'⟩]) QD) (fun l => jput l d (.v undef) fun l' => jdraw P G r l' j (es ++ [⟨false, jtouch l tx, j, j⟩]) QD)⟩ := rfl
theorem r_g1 {c : Bool} {t : Nat} {A B : L → Prop} : jg' (.v (.bool c)) t true l A B = @ww c ⟨A ((t, .v (.bool true)) :: l)⟩ ⟨B ((t, .v (.bool false)) :: l)⟩ := rfl
theorem r_g2 {c : Bool} {t : Nat} {A B : L → Prop} : jg' (.v (.bool c)) t false l A B = @ww c ⟨B ((t, .v (.bool true)) :: l)⟩ ⟨A ((t, .v (.bool false)) :: l)⟩ := rfl
theorem r_g3 {t : Nat} {w : Bool} {A B : L → Prop} : jg' (.v undef) t w l A B = B l := rfl
theorem r_out1 {K1 K2 : AV → JH → Prop} {x : AV} : joutK K1 K2 (.ret x) j = K1 x j := rfl
theorem r_out2 {K1 K2 : AV → JH → Prop} {x : AV} : joutK K1 K2 (.pan x) j = K2 x j := rfl
theorem r_put1 {x : AV} {KL : L → Prop} : jput l none x KL = KL l := rfl
theorem r_put2 {d : Nat} {x : AV} {KL : L → Prop} : jput l (some d) x KL = @jv x ⟨fun x => KL ((d, x) :: l)⟩ := rfl
theorem r_reg1 : jregQ Q none l j = Q .norm l j := rfl
theorem r_reg2 {x : AV} : jregQ Q (some x) l j = Q (.pan x) l j := rfl
theorem r_then1 {KK : L → JH → Prop} : jthen KK Q .norm l j = KK l j := rfl
theorem r_then2 {KK : L → JH → Prop} {i : Nat} : jthen KK Q (.exit i) l j = Q (.exit i) l j := rfl
theorem r_then3 {KK : L → JH → Prop} : jthen KK Q .ret l j = Q .ret l j := rfl
theorem r_then4 {KK : L → JH → Prop} {x : AV} : jthen KK Q (.pan x) l j = Q (.pan x) l j := rfl
theorem r_blk1 {id : Nat} : jblock id Q .norm l j = Q .norm l j := rfl
theorem r_blk2 {id i : Nat} : jblock id Q (.exit i) l j = if i = id then Q .norm l j else Q (.exit i) l j := rfl
theorem r_blk3 {id : Nat} : jblock id Q .ret l j = Q .ret l j := rfl
theorem r_blk4 {id : Nat} {x : AV} : jblock id Q (.pan x) l j = Q (.pan x) l j := rfl
theorem r_lp1 {J : Nat → L → JH → Prop} {n : Nat} {j1 : JH} : jloopQ J Q n j1 .norm l j = JNEXT J n j1 l j := rfl
theorem r_lp2 {J : Nat → L → JH → Prop} {n i : Nat} {j1 : JH} : jloopQ J Q n j1 (.exit i) l j = Q (.exit i) l j := rfl
theorem r_lp3 {J : Nat → L → JH → Prop} {n : Nat} {j1 : JH} : jloopQ J Q n j1 .ret l j = Q .ret l j := rfl
theorem r_lp4 {J : Nat → L → JH → Prop} {n : Nat} {j1 : JH} {x : AV} : jloopQ J Q n j1 (.pan x) l j = Q (.pan x) l j := rfl
theorem r_end1 {rs : List IRes} {j0 : JH} : jend rs j0 KO .norm l j = jress l j rs fun xs => @JFIN j0 j (aret xs) ⟨fun y j' => KO (.ret y) j'⟩ := rfl
theorem r_end2 {rs : List IRes} {j0 : JH} : jend rs j0 KO .ret l j = jress l j rs fun xs => @JFIN j0 j (aret xs) ⟨fun y j' => KO (.ret y) j'⟩ := rfl
theorem r_end3 {rs : List IRes} {j0 : JH} {x : AV} : jend rs j0 KO (.pan x) l j = @JFIN j0 j x ⟨fun y j' => KO (.pan y) j'⟩ := rfl
theorem r_res0 {KL : List AV → Prop} : jress l j [] KL = KL [] := rfl
theorem r_res1 {t : Nat} {rs : List IRes} {KL : List AV → Prop} : jress l j (⟨t, none⟩ :: rs) KL = @jv (lk l t) ⟨fun x => jress l j rs fun xs => KL (x :: xs)⟩ := rfl
theorem r_res2 {t : Nat} {row : Option Nat} {rs : List IRes} {KL : List AV → Prop} : jress l j (⟨t, some row⟩ :: rs) KL = @jv (lk l t) ⟨fun x => jload j.get row x fun y => jress l j rs fun xs => KL (y :: xs)⟩ := rfl
theorem r_ret0 : aret [] = .tup [] := rfl
theorem r_ret1 {x : AV} : aret [x] = x := rfl
theorem r_ret2 {x y : AV} {xs : List AV} : aret (x :: y :: xs) = .tup (x :: y :: xs) := rfl
theorem r_x1 {t : Nat} : jx G l (.r t) K = @jv (lk l t) ⟨K⟩ := rfl
theorem r_x2 {x : AV} : jx G l (.k x) K = K x := rfl
theorem r_x3 {i : Nat} : jx G l (.g i) K = @wh _ (G i) ⟨fun cs => K (.cptr cs)⟩ := rfl
theorem r_xs0 {KL : List AV → Prop} : jxs G l [] KL = KL [] := rfl
theorem r_xs1 {x : X} {xs : List X} {KL : List AV → Prop} : jxs G l (x :: xs) KL = jx G l x fun y => jxs G l xs fun ys => KL (y :: ys) := rfl
theorem r_xo0 {KL : Option AV → Prop} : jxo G l none KL = KL none := rfl
theorem r_xo1 {x : X} {KL : Option AV → Prop} : jxo G l (some x) KL = jx G l x fun y => KL (some y) := rfl
theorem r_fill0 {cs : List AV} {KL : List AV → Prop} : jfill G l cs [] KL = KL cs := rfl
theorem r_fill1 {cs : List AV} {off size : Nat} {x : X} {r : List (Nat × Nat × X)} {KL : List AV → Prop} : jfill G l cs ((off, size, x) :: r) KL = jx G l x fun y => @wc (y.known = true ∧ y.cells.length = size ∧ off + y.cells.length ≤ cs.length) ⟨@jcs (splice cs off y.cells) ⟨fun cs => jfill G l cs r KL⟩⟩ := rfl
theorem r_lk0 {i : Nat} : lk [] i = .any := rfl
theorem r_lk1 {d i : Nat} {x : AV} : lk ((d, x) :: l) i = if i = d then x else lk l i := rfl
theorem r_ar0 {n : Nat} : args0 n [] = [] := rfl
theorem r_ar1 {n : Nat} {x : AV} {xs : List AV} : args0 n (x :: xs) = (n, x) :: args0 (n + 1) xs := rfl
theorem r_st1 {x : X} : jstep P G l j (.mov x) KO = jx G l x fun y => KO (.ret y) j := rfl
theorem r_st2 {c a b : X} : jstep P G l j (.pick c a b) KO = jx G l c fun c => jbool c fun t => @ww t ⟨jx G l a fun y => KO (.ret y) j⟩ ⟨jx G l b fun y => KO (.ret y) j⟩ := rfl
theorem r_st3 {op : BinOp} {x y : X} : jstep P G l j (.bin op x y) KO = jx G l x fun x => jx G l y fun y => jbin op x y fun z => KO (.ret z) j := rfl
theorem r_st4 {x : X} : jstep P G l j (.not x) KO = jx G l x fun x => jbool x fun t => KO (.ret (.v (.bool !t))) j := rfl
theorem r_st5 {k : IntKind} {x : X} : jstep P G l j (.cvt k x) KO = jx G l x fun x => jcvt k x fun z => KO (.ret z) j := rfl
theorem r_st6 {off : Nat} {x : X} : jstep P G l j (.fadr off x) KO = jx G l x fun x => @wh _ (ifadr off x) ⟨fun z => KO (.ret z) j⟩ := rfl
theorem r_st7 {row : Option Nat} {off : Nat} {x : X} : jstep P G l j (.fld row off x) KO = jx G l x fun x => @wh _ (ifld row off x) ⟨fun z => KO (.ret z) j⟩ := rfl
theorem r_st8 {es : Nat} {x i : X} : jstep P G l j (.iasl es x i) KO = jx G l x fun x => jx G l i fun i => jiasl es x i fun z => KO (.ret z) j := rfl
theorem r_st9 {n es : Nat} {x i : X} : jstep P G l j (.iaar n es x i) KO = jx G l x fun x => jx G l i fun i => jiaar n es x i fun z => KO (.ret z) j := rfl
theorem r_st10 {x i : X} : jstep P G l j (.idxs x i) KO = jx G l x fun x => jx G l i fun i => jidxs x i fun z => KO (.ret z) j := rfl
theorem r_st11 {es : Nat} {x : X} {lo hi : Option X} : jstep P G l j (.slc es x lo hi) KO = jx G l x fun x => jxo G l lo fun lo => jxo G l hi fun hi => @wh _ (islc es lo hi x) ⟨fun z => KO (.ret z) j⟩ := rfl
theorem r_st12 {x : X} {lo hi : Option X} : jstep P G l j (.slcs x lo hi) KO = jx G l x fun x => jxo G l lo fun lo => jxo G l hi fun hi => @wh _ (islcs lo hi x) ⟨fun z => KO (.ret z) j⟩ := rfl
theorem r_st13 {x : X} {i : Nat} : jstep P G l j (.ext x i) KO = jx G l x fun x => jext x i fun z => KO (.ret z) j := by
 simp only [jstep, jext]; rfl
theorem r_st14 {t : TypeId} {x : X} : jstep P G l j (.mki t x) KO = jx G l x fun x => KO (.ret (.ifc t x)) j := rfl
theorem r_st15 {f : Fn} {first cap : List X} : jstep P G l j (.mkf f first cap) KO = jxs G l first fun a => jxs G l cap fun b => KO (.ret (.fn f a b)) j := rfl
theorem r_st16 {row : Option Nat} {x : X} : jstep P G l j (.load row x) KO = jx G l x fun x => jload j.get row x fun z => KO (.ret z) j := rfl
theorem r_st17 {x : X} : jstep P G l j (.lenl x) KO = jx G l x fun x => @wh _ (ilenl x) ⟨fun z => KO (.ret z) j⟩ := rfl
theorem r_st18 {x : X} : jstep P G l j (.lens x) KO = jx G l x fun x => @wh _ (ilens x) ⟨fun z => KO (.ret z) j⟩ := rfl
theorem r_st19 {t : TypeId} {x : X} : jstep P G l j (.box t x) KO = jx G l x fun x => @wc (x.known = true) ⟨@jcs x.cells ⟨fun cs => @jjh (j.push (.cells t cs)) ⟨fun j' => KO (.ret (.ptr j.next 0)) j'⟩⟩⟩ := rfl
theorem r_st20 {t : TypeId} {cs : List AV} : jstep P G l j (.alloc t cs) KO = @jjh (j.push (.cells t cs)) ⟨fun j' => KO (.ret (.ptr j.next 0)) j'⟩ := rfl
theorem r_st21 {z : List AV} {ps : List (Nat × Nat × X)} : jstep P G l j (.build z ps) KO = jfill G l z ps fun cs => KO (.ret (.agg cs)) j := rfl
theorem r_st22 {n es : Nat} {z : List AV} {ps : List (Nat × Nat × X)} : jstep P G l j (.bsl n es z ps) KO = @wc (z.length = es ∧ 0 < es) ⟨@jcs (acy z n) ⟨fun cs => jfill G l cs ps fun cs => @wc (cs.length = n * es) ⟨@jjh (j.pushTok n) ⟨fun j' => KO (.ret (.sl (.own j.tnext 0 es) n cs)) j'⟩⟩⟩⟩ := rfl
theorem r_st23 : jstep P G l j .mkmap KO = @jjh (j.push (.map [])) ⟨fun j' => KO (.ret (.mp j.next)) j'⟩ := rfl
theorem r_st24 {kind : TypeDesc} {zero : AV} {ok : Bool} {m k : X} : jstep P G l j (.lookup kind zero ok m k) KO = jx G l m fun m => jx G l k fun k => @wh _ (ilookup j.get kind zero ok m k) ⟨fun z => KO (.ret z) j⟩ := rfl
theorem r_st25 {kind : TypeDesc} {m k x : X} : jstep P G l j (.mapup kind m k x) KO = jx G l m fun m => jx G l k fun k => jx G l x fun x => @JMAPUP j kind m k x ⟨fun j' => KO (.ret (.v undef)) j'⟩ := rfl
theorem r_st26 {size : Nat} {p x : X} : jstep P G l j (.store size p x) KO = jx G l p fun p => jx G l x fun x => jstore j size p x fun j' => KO (.ret (.v undef)) j' := rfl
theorem r_st27 {es bytes : Nat} {a b : X} : jstep P G l j (.app es bytes a b) KO = jx G l a fun a => jx G l b fun b => @JAPP j es bytes a b ⟨fun y j' => KO (.ret y) j'⟩ := rfl
theorem r_st28 {f : FuncId} {xs : List X} : jstep P G l j (.call f xs) KO = jxs G l xs fun xs => @JCs P G f xs j ⟨KO⟩ := rfl
theorem r_st29 {f : X} {xs : List X} : jstep P G l j (.callv f xs) KO = jx G l f fun f => jxs G l xs fun xs => jcallv P G f xs j KO := by
 simp only [jstep, jcallv]; rfl
theorem r_st30 {x : X} : jstep P G l j (.nchk x) KO = jx G l x fun p => @wc (callable p = true) ⟨KO (.ret p) j⟩ := rfl
theorem r_st31 {ne : Bool} {x y : X} : jstep P G l j (.beq ne x y) KO = jx G l x fun x => jbool x fun a => jx G l y fun y => jbool y fun b => KO (.ret (.v (.bool (if ne then !(a == b) else a == b)))) j := rfl
theorem r_st31a {ne : Bool} {x y : X} : jstep P G l j (.beqA ne x y) KO = jx G l x fun x => jpr x fun a => jx G l y fun y => jpr y fun b => KO (.ret (.v (.bool (if ne then !(a.1 == b.1 && a.2 == b.2) else a.1 == b.1 && a.2 == b.2)))) j := rfl
theorem r_st32 {mn : Bool} {x y : X} : jstep P G l j (.mx mn x y) KO = jx G l x fun x => jx G l y fun y => jmx mn x y fun z => KO (.ret z) j := rfl
theorem r_st33 {e : TypeId} {es bytes : Nat} {z : List AV} {x c : X} : jstep P G l j (.mks e es bytes z x c) KO = jx G l x fun x => jx G l c fun c => @JMKS j e es bytes z x c ⟨fun y j' => KO (.ret y) j'⟩ := rfl
theorem r_st34 {x : X} : jstep P G l j (.pan x) KO = jx G l x fun x => jpan x fun y => KO (.pan y) j := rfl
theorem r_st35 {row : Option Nat} {n es : Nat} {x i : X} : jstep P G l j (.aidx row n es x i) KO = jx G l x fun x => jx G l i fun i => jaidx row n es x i fun z => KO (.ret z) j := rfl
theorem r_st36 {n es : Nat} {x : X} {lo hi : Option X} : jstep P G l j (.slcp n es x lo hi) KO = jx G l x fun x => jxo G l lo fun lo => jxo G l hi fun hi => @wh _ (islcp n es lo hi x) ⟨fun z => KO (.ret z) j⟩ := rfl
theorem r_st37 {o : Oper} : jstep P G l j (.gen o) KO = @JGEN P G o l j ⟨KO⟩ := rfl
theorem r_st38 {t : TypeId} {z : AV} {ok : Bool} {x : X} : jstep P G l j (.tas t z ok x) KO = jx G l x fun x => @wh _ (itas t z ok x) ⟨fun y => KO (.ret y) j⟩ := rfl
theorem r_st39 {ne : Bool} {x : X} : jstep P G l j (.inil ne x) KO = jx G l x fun x => @wh _ (iinil ne x) ⟨fun y => KO (.ret y) j⟩ := rfl
theorem r_d_tas {t : TypeId} {z : AV} {ok : Bool} {x : X} {KD : AV → JH → Prop} : jdstep P G l j (.tas t z ok x) KD = jstep P G l j (.tas t z ok x) (joutK KD fun _ _ => False) := rfl
theorem r_d_inil {ne : Bool} {x : X} {KD : AV → JH → Prop} : jdstep P G l j (.inil ne x) KD = jstep P G l j (.inil ne x) (joutK KD fun _ _ => False) := rfl
theorem r_tas1 {t : TypeId} {z y : AV} : itas t z true (.ifc t y) = some (.tup [y, .v (.bool true)]) := by simp [itas]
theorem r_tas2 {t : TypeId} {z : AV} : itas t z true (.v .nilIface) = some (.tup [z, .v (.bool false)]) := rfl
theorem r_inil1 {ne : Bool} {t : TypeId} {y : AV} : iinil ne (.ifc t y) = some (.v (.bool ne)) := rfl
theorem r_inil2 {ne : Bool} : iinil ne (.v .nilIface) = some (.v (.bool !ne)) := rfl
section
variable {QD : List AV → AX → L → JH → Prop} {KD : List AV → L → JH → Prop} {ds : List AV} {rs : List IRes} {j0 : JH} {Q0 : AOut → JH → Prop}
theorem r_wd1 {a b : IR} : jwpD P G (.seq a b) ds l j QD = jwpD P G a ds l j (jthenD (fun ds l j => jwpD P G b ds l j QD) QD) := rfl
theorem r_wd2 {ops : List IOp} {x : X} : jwpD P G (.dfr ops x) ds l j QD = jops P G ops l j (jdfrQ P G x ds QD) := rfl
theorem r_wd3 {ops : List IOp} : jwpD P G (.reg ops) ds l j QD = jwp P G (.reg ops) l j (QD ds) := rfl
theorem r_wd4 {ops : List IOp} {p : List (Nat × Nat)} : jwpD P G (.draw ops p) ds l j QD = jwp P G (.draw ops p) l j (QD ds) := rfl
theorem r_wd4p {ops : List IOp} {p : List (Nat × Nat)} {i : Nat} : jwpD P G (.drawP ops p i) ds l j QD = jwp P G (.drawP ops p i) l j (QD ds) := rfl
theorem r_wd5 {x : X} {a b : IR} : jwpD P G (.cond x a b) ds l j QD = jwp P G (.cond x a b) l j (QD ds) := rfl
theorem r_wd6 {i : Nat} {a : IR} : jwpD P G (.block i a) ds l j QD = jwp P G (.block i a) l j (QD ds) := rfl
theorem r_wd7 {a : IR} : jwpD P G (.loop a) ds l j QD = jwp P G (.loop a) l j (QD ds) := rfl
theorem r_wd8 {x : X} {ps : Array Tmp} {ca cb : Code} {a b : IR} : jwpD P G (.rng x ps ca cb a b) ds l j QD = jwp P G (.rng x ps ca cb a b) l j (QD ds) := rfl
theorem r_wd8a {c : Code} : jwpD P G (.orc c) ds l j QD = jwp P G (.orc c) l j (QD ds) := rfl
theorem r_wd9 : jwpD P G .skip ds l j QD = QD ds .norm l j := rfl
theorem r_wd10 : jwpD P G .ret ds l j QD = QD ds .ret l j := rfl
theorem r_td1 : jthenD KD QD ds .norm l j = KD ds l j := rfl
theorem r_td2 {i : Nat} : jthenD KD QD ds (.exit i) l j = QD ds (.exit i) l j := rfl
theorem r_td3 : jthenD KD QD ds .ret l j = QD ds .ret l j := rfl
theorem r_td4 {x : AV} : jthenD KD QD ds (.pan x) l j = QD ds (.pan x) l j := rfl
theorem r_dq1 {x : X} : jdfrQ P G x ds QD none l j = jx G l x fun g => jpushd P g ds fun ds' => QD ds' .norm l j := rfl
theorem r_dq2 {x : X} {p : AV} : jdfrQ P G x ds QD (some p) l j = QD ds (.pan p) l j := rfl
theorem r_pd {f : FuncId} {cap : List AV} {K : List AV → Prop} : jpushd P (.fn (.func f) [] cap) ds K = @wc (hasBody P f = true) ⟨K (.fn (.func f) [] cap :: ds)⟩ := rfl
def JDs (P : Program) (G : Nat → Option (List AV)) (g : FuncId) (args : List AV) (m : Option AV) (j : JH) [K : Hid (Option AV → JH → Prop)] : Prop := JD P G g args m j K.v
def bodies (P : Program) (ds : List AV) : Prop := ds.all (fun d => match d with | .fn (.func g) _ _ => hasBody P g | _ => false) = true
theorem bodies0 : bodies P [] = True := by simp [bodies]
theorem bodies1 {g : FuncId} {a b : List AV} : bodies P (.fn (.func g) a b :: ds) = (hasBody P g = true ∧ bodies P ds) := by simp [bodies]
theorem r_ed1 : jendD P G rs j0 Q0 ds .norm l j = @wc (bodies P ds) ⟨jleave P G rs j0 Q0 l ds none j⟩ := rfl
theorem r_ed2 : jendD P G rs j0 Q0 ds .ret l j = @wc (bodies P ds) ⟨jleave P G rs j0 Q0 l ds none j⟩ := rfl
theorem r_ed3 {v : AV} : jendD P G rs j0 Q0 ds (.pan v) l j = @wc (bodies P ds) ⟨jleave P G rs j0 Q0 l ds (some v) j⟩ := rfl
theorem r_lv0 : jleave P G rs j0 Q0 l [] none j = jress l j rs fun xs => @JFIN j0 j (aret xs) ⟨fun y j' => Q0 (.ret y) j'⟩ := rfl
theorem r_lv1 {x : AV} : jleave P G rs j0 Q0 l [] (some x) j = @JFIN j0 j x ⟨fun y j' => Q0 (.pan y) j'⟩ := rfl
theorem r_lv2 {g : FuncId} {cap : List AV} {m : Option AV} : jleave P G rs j0 Q0 l (.fn (.func g) [] cap :: ds) m j = @JDs P G g cap m j ⟨fun m' j' => jleave P G rs j0 Q0 l ds m' j'⟩ := rfl
def JRECEND (j j' : JH) [K : Hid (Option AV → JH → Prop)] : Prop := ∃ j'', JDropW j j' j'' ∧ K.v none j''
theorem r_rq1 {K : Option AV → JH → Prop} {j' : JH} : jrecQ j K .norm l j' = @JRECEND j j' ⟨K⟩ := rfl
theorem r_rq2 {K : Option AV → JH → Prop} {j' : JH} : jrecQ j K .ret l j' = @JRECEND j j' ⟨K⟩ := rfl
end
theorem r_mx1 {k k' : IntKind} {a b : Int} : jmx false (.v (.int k a)) (.v (.int k' b)) K = K (.v (.int k (max a b))) := rfl
theorem r_mx2 {k k' : IntKind} {a b : Int} : jmx true (.v (.int k a)) (.v (.int k' b)) K = K (.v (.int k (min a b))) := rfl
theorem r_pan {t : TypeId} {x : AV} : jpan (.ifc t x) K = K (.ifc t x) := rfl
theorem r_aix {row : Option Nat} {n es : Nat} {cs : List AV} {k : IntKind} {i : Int} : jaidx row n es (.agg cs) (.v (.int k i)) K = @wc (0 ≤ i ∧ i < n) ⟨@wh _ (icut row cs (i.toNat * es)) ⟨K⟩⟩ := rfl
theorem r_clb1 {o off : Nat} : callable (.ptr o off) = true := rfl
theorem r_clb2 {f : FuncId} {a b : List AV} : callable (.fn (.func f) a b) = true := rfl
theorem r_clb4 {o : Nat} : callable (.yld o) = true := rfl
theorem r_clb3 {cs : List AV} : callable (.cptr cs) = true := rfl
theorem r_d_mov {x : X} {KD : AV → JH → Prop} : jdstep P G l j (.mov x) KD = jstep P G l j (.mov x) (joutK KD fun _ _ => False) := rfl
theorem r_d_pick {a b c : X} {KD : AV → JH → Prop} : jdstep P G l j (.pick a b c) KD = jstep P G l j (.pick a b c) (joutK KD fun _ _ => False) := rfl
theorem r_d_bin {op : BinOp} {x y : X} {KD : AV → JH → Prop} : jdstep P G l j (.bin op x y) KD = jstep P G l j (.bin op x y) (joutK KD fun _ _ => False) := rfl
theorem r_d_not {x : X} {KD : AV → JH → Prop} : jdstep P G l j (.not x) KD = jstep P G l j (.not x) (joutK KD fun _ _ => False) := rfl
theorem r_d_cvt {k : IntKind} {x : X} {KD : AV → JH → Prop} : jdstep P G l j (.cvt k x) KD = jstep P G l j (.cvt k x) (joutK KD fun _ _ => False) := rfl
theorem r_d_fadr {o : Nat} {x : X} {KD : AV → JH → Prop} : jdstep P G l j (.fadr o x) KD = jstep P G l j (.fadr o x) (joutK KD fun _ _ => False) := rfl
theorem r_d_fld {r : Option Nat} {o : Nat} {x : X} {KD : AV → JH → Prop} : jdstep P G l j (.fld r o x) KD = jstep P G l j (.fld r o x) (joutK KD fun _ _ => False) := rfl
theorem r_d_iasl {e : Nat} {x i : X} {KD : AV → JH → Prop} : jdstep P G l j (.iasl e x i) KD = jstep P G l j (.iasl e x i) (joutK KD fun _ _ => False) := rfl
theorem r_d_iaar {n e : Nat} {x i : X} {KD : AV → JH → Prop} : jdstep P G l j (.iaar n e x i) KD = jstep P G l j (.iaar n e x i) (joutK KD fun _ _ => False) := rfl
theorem r_d_idxs {x i : X} {KD : AV → JH → Prop} : jdstep P G l j (.idxs x i) KD = jstep P G l j (.idxs x i) (joutK KD fun _ _ => False) := rfl
theorem r_d_slc {e : Nat} {x : X} {lo hi : Option X} {KD : AV → JH → Prop} : jdstep P G l j (.slc e x lo hi) KD = jstep P G l j (.slc e x lo hi) (joutK KD fun _ _ => False) := rfl
theorem r_d_slcs {x : X} {lo hi : Option X} {KD : AV → JH → Prop} : jdstep P G l j (.slcs x lo hi) KD = jstep P G l j (.slcs x lo hi) (joutK KD fun _ _ => False) := rfl
theorem r_d_ext {x : X} {i : Nat} {KD : AV → JH → Prop} : jdstep P G l j (.ext x i) KD = jstep P G l j (.ext x i) (joutK KD fun _ _ => False) := rfl
theorem r_d_mki {t : TypeId} {x : X} {KD : AV → JH → Prop} : jdstep P G l j (.mki t x) KD = jstep P G l j (.mki t x) (joutK KD fun _ _ => False) := rfl
theorem r_d_mkf {f : Fn} {a b : List X} {KD : AV → JH → Prop} : jdstep P G l j (.mkf f a b) KD = jstep P G l j (.mkf f a b) (joutK KD fun _ _ => False) := rfl
theorem r_d_load {r : Option Nat} {x : X} {KD : AV → JH → Prop} : jdstep P G l j (.load r x) KD = jstep P G l j (.load r x) (joutK KD fun _ _ => False) := rfl
theorem r_d_lenl {x : X} {KD : AV → JH → Prop} : jdstep P G l j (.lenl x) KD = jstep P G l j (.lenl x) (joutK KD fun _ _ => False) := rfl
theorem r_d_lens {x : X} {KD : AV → JH → Prop} : jdstep P G l j (.lens x) KD = jstep P G l j (.lens x) (joutK KD fun _ _ => False) := rfl
theorem r_d_box {t : TypeId} {x : X} {KD : AV → JH → Prop} : jdstep P G l j (.box t x) KD = jstep P G l j (.box t x) (joutK KD fun _ _ => False) := rfl
theorem r_d_alloc {t : TypeId} {cs : List AV} {KD : AV → JH → Prop} : jdstep P G l j (.alloc t cs) KD = jstep P G l j (.alloc t cs) (joutK KD fun _ _ => False) := rfl
theorem r_d_build {z : List AV} {ps : List (Nat × Nat × X)} {KD : AV → JH → Prop} : jdstep P G l j (.build z ps) KD = jstep P G l j (.build z ps) (joutK KD fun _ _ => False) := rfl
theorem r_d_bsl {n e : Nat} {z : List AV} {ps : List (Nat × Nat × X)} {KD : AV → JH → Prop} : jdstep P G l j (.bsl n e z ps) KD = jstep P G l j (.bsl n e z ps) (joutK KD fun _ _ => False) := rfl
theorem r_d_mkmap  {KD : AV → JH → Prop} : jdstep P G l j .mkmap KD = jstep P G l j .mkmap (joutK KD fun _ _ => False) := rfl
theorem r_d_lookup {k : TypeDesc} {z : AV} {b : Bool} {m x : X} {KD : AV → JH → Prop} : jdstep P G l j (.lookup k z b m x) KD = jstep P G l j (.lookup k z b m x) (joutK KD fun _ _ => False) := rfl
theorem r_d_mapup {k : TypeDesc} {m x y : X} {KD : AV → JH → Prop} : jdstep P G l j (.mapup k m x y) KD = jstep P G l j (.mapup k m x y) (joutK KD fun _ _ => False) := rfl
theorem r_d_store {n : Nat} {p x : X} {KD : AV → JH → Prop} : jdstep P G l j (.store n p x) KD = jstep P G l j (.store n p x) (joutK KD fun _ _ => False) := rfl
theorem r_d_app {n m : Nat} {a b : X} {KD : AV → JH → Prop} : jdstep P G l j (.app n m a b) KD = jstep P G l j (.app n m a b) (joutK KD fun _ _ => False) := rfl
theorem r_d_nchk {x : X} {KD : AV → JH → Prop} : jdstep P G l j (.nchk x) KD = jstep P G l j (.nchk x) (joutK KD fun _ _ => False) := rfl
theorem r_d_beq {b : Bool} {x y : X} {KD : AV → JH → Prop} : jdstep P G l j (.beq b x y) KD = jstep P G l j (.beq b x y) (joutK KD fun _ _ => False) := rfl
theorem r_d_beqA {b : Bool} {x y : X} {KD : AV → JH → Prop} : jdstep P G l j (.beqA b x y) KD = jstep P G l j (.beqA b x y) (joutK KD fun _ _ => False) := rfl
theorem r_d_mx {b : Bool} {x y : X} {KD : AV → JH → Prop} : jdstep P G l j (.mx b x y) KD = jstep P G l j (.mx b x y) (joutK KD fun _ _ => False) := rfl
theorem r_d_mks {t : TypeId} {n m : Nat} {z : List AV} {a b : X} {KD : AV → JH → Prop} : jdstep P G l j (.mks t n m z a b) KD = jstep P G l j (.mks t n m z a b) (joutK KD fun _ _ => False) := rfl
theorem r_d_pan {x : X} {KD : AV → JH → Prop} : jdstep P G l j (.pan x) KD = jstep P G l j (.pan x) (joutK KD fun _ _ => False) := rfl
theorem r_d_aidx {r : Option Nat} {n m : Nat} {x y : X} {KD : AV → JH → Prop} : jdstep P G l j (.aidx r n m x y) KD = jstep P G l j (.aidx r n m x y) (joutK KD fun _ _ => False) := rfl
theorem r_d_slcp {n m : Nat} {x : X} {a b : Option X} {KD : AV → JH → Prop} : jdstep P G l j (.slcp n m x a b) KD = jstep P G l j (.slcp n m x a b) (joutK KD fun _ _ => False) := rfl
theorem r_d_gen {o : Oper} {KD : AV → JH → Prop} : jdstep P G l j (.gen o) KD = @JDGEN P G o l j ⟨KD⟩ := rfl
theorem r_d_call {f : FuncId} {xs : List X} {KD : AV → JH → Prop} : jdstep P G l j (.call f xs) KD = jxs G l xs fun xs => @JDC P G f xs j ⟨KD⟩ := rfl
theorem r_d_callv {f : X} {xs : List X} {KD : AV → JH → Prop} : jdstep P G l j (.callv f xs) KD = jx G l f fun f => jxs G l xs fun xs => jdcallv P G f xs j KD := by
 simp only [jdstep, jdcallv]; rfl
theorem r_d_cv {g : FuncId} {first cap xs : List AV} {KD : AV → JH → Prop} : jdcallv P G (.fn (.func g) first cap) xs j KD = @wc (hasBody P g = true) ⟨@JDC P G g (first ++ xs ++ cap) j ⟨KD⟩⟩ := rfl
theorem r_inv {m : String} {t : TypeId} {y : AV} {KI : FuncId → AV → Prop} : jinv P m (.ifc t y) KI = @wh _ (mtv P t m) ⟨fun g => KI g y⟩ := rfl
theorem r_st_inv {m : String} {r : X} {xs : List X} : jstep P G l j (.inv m r xs) KO = jx G l r fun r => jxs G l xs fun xs => jinv P m r fun g y => @JCs P G g (y :: xs) j ⟨KO⟩ := rfl
theorem r_d_inv {m : String} {r : X} {xs : List X} {KD : AV → JH → Prop} : jdstep P G l j (.inv m r xs) KD = jx G l r fun r => jxs G l xs fun xs => jinv P m r fun g y => @JDC P G g (y :: xs) j ⟨KD⟩ := by
 simp only [jdstep]; rfl
theorem r_cv {g : FuncId} {first cap xs : List AV} : jcallv P G (.fn (.func g) first cap) xs j KO = @wc (hasBody P g = true) ⟨@JCs P G g (first ++ xs ++ cap) j ⟨KO⟩⟩ := rfl
theorem r_b1 {t : Bool} {KB : Bool → Prop} : jbool (.v (.bool t)) KB = KB t := rfl
theorem r_b1a {a b : Int} {KB : Int × Int → Prop} : jpr (.agg [.v (.int .i64 a), .v (.int .i64 b)]) KB = KB (a, b) := rfl
theorem r_ar {a : Int} : jar .i64 a K = @wc (R64 a) ⟨K (.v (.int .i64 a))⟩ := rfl
theorem r_bin1 {a b : Int} : jbin .add (.v (.int .i64 a)) (.v (.int .i64 b)) K = jar .i64 (a + b) K := by simp [jbin]
theorem r_bin2 {a b : Int} : jbin .sub (.v (.int .i64 a)) (.v (.int .i64 b)) K = jar .i64 (a - b) K := by simp [jbin]
theorem r_bin3 {a b : Int} : jbin .mul (.v (.int .i64 a)) (.v (.int .i64 b)) K = @wr (a * b) ⟨K⟩ := by
 have : jbin .mul (.v (.int .i64 a)) (.v (.int .i64 b)) K = K (.v (.int .i64 (IntKind.i64.wrap (a * b)))) := by simp [jbin]
 rw [this]; exact propext ⟨fun h => @wr.mk _ ⟨K⟩ h, fun h => @wr.go _ ⟨K⟩ h⟩
theorem r_bin4 {a b : Int} : jbin .quo (.v (.int .i64 a)) (.v (.int .i64 b)) K = @wc (b ≠ 0) ⟨jar .i64 (a.tdiv b) K⟩ := by simp [jbin, wc]
theorem r_bin5 {k : IntKind} {a b : Int} : jbin .rem (.v (.int k a)) (.v (.int k b)) K = @wc (b ≠ 0) ⟨K (.v (.int k (a.tmod b)))⟩ := by simp [jbin, wc]
theorem r_bin6 {k : IntKind} {a b : Int} : jbin .eql (.v (.int k a)) (.v (.int k b)) K = K (.v (.bool (decide (a = b)))) := by simp [jbin]
theorem r_bin7 {k : IntKind} {a b : Int} : jbin .neq (.v (.int k a)) (.v (.int k b)) K = K (.v (.bool (!decide (a = b)))) := by simp [jbin]
theorem r_bin8 {k : IntKind} {a b : Int} : jbin .lss (.v (.int k a)) (.v (.int k b)) K = K (.v (.bool (decide (a < b)))) := by simp [jbin]
theorem r_bin9 {k : IntKind} {a b : Int} : jbin .leq (.v (.int k a)) (.v (.int k b)) K = K (.v (.bool (decide (a ≤ b)))) := by simp [jbin]
theorem r_bin10 {k : IntKind} {a b : Int} : jbin .gtr (.v (.int k a)) (.v (.int k b)) K = K (.v (.bool (decide (b < a)))) := by simp [jbin]
theorem r_bin11 {k : IntKind} {a b : Int} : jbin .geq (.v (.int k a)) (.v (.int k b)) K = K (.v (.bool (decide (b ≤ a)))) := by simp [jbin]
theorem r_bin12 {a b : ByteArray} : jbin .eql (.v (.string a)) (.v (.string b)) K = K (.v (.bool (decide (a = b)))) := rfl
theorem r_bin13 {a b : ByteArray} : jbin .neq (.v (.string a)) (.v (.string b)) K = K (.v (.bool (!decide (a = b)))) := rfl
theorem r_bin14 {a b : ByteArray} : jbin .add (.v (.string a)) (.v (.string b)) K = @wc (a.size + b.size ≤ 9223372036854775807) ⟨K (.v (.string (a ++ b)))⟩ := rfl
theorem r_bin15 {a b : Int} : jbin .xor (.v (.int .i64 a)) (.v (.int .i64 b)) K = K (.v (.int .i64 (IntKind.i64.wrap (BitVec.ofInt 64 a ^^^ BitVec.ofInt 64 b).toNat))) := by simp [jbin, ibin]; rfl
theorem r_bin16 {k k' : IntKind} {a : Int} {b : Nat} : jbin .shr (.v (.int k a)) (.v (.int k' (b : Int))) K = K (.v (.int k (a.fdiv (2 ^ min b k.bits)))) := by
 have : jbin .shr (.v (.int k a)) (.v (.int k' (b : Int))) K = wv (ibin .shr (.v (.int k a)) (.v (.int k' (b : Int)))) K := rfl
 rw [this]; simp only [ibin, if_pos (Int.natCast_nonneg b), Int.toNat_natCast]; rfl
theorem r_bin17 {k k' : IntKind} {a : Int} {b : Nat} : jbin .shl (.v (.int k a)) (.v (.int k' (b : Int))) K = K (.v (.int k (k.wrap (a * 2 ^ min b k.bits)))) := by
 have : jbin .shl (.v (.int k a)) (.v (.int k' (b : Int))) K = wv (ibin .shl (.v (.int k a)) (.v (.int k' (b : Int)))) K := rfl
 rw [this]; simp only [ibin, if_pos (Int.natCast_nonneg b), Int.toNat_natCast]; rfl
def iand (a b : Int) : Int := IntKind.u64.wrap (BitVec.ofInt IntKind.u64.bits a &&& BitVec.ofInt IntKind.u64.bits b).toNat
def ior (a b : Int) : Int := IntKind.u64.wrap (BitVec.ofInt IntKind.u64.bits a ||| BitVec.ofInt IntKind.u64.bits b).toNat
def iandn (a b : Int) : Int := IntKind.u64.wrap (BitVec.ofInt IntKind.u64.bits a &&& ~~~BitVec.ofInt IntKind.u64.bits b).toNat
theorem r_bin18 {a b : Int} : jbin .and (.v (.int .u64 a)) (.v (.int .u64 b)) K = K (.v (.int .u64 (iand a b))) := by
 have : jbin .and (.v (.int .u64 a)) (.v (.int .u64 b)) K = wv (ibin .and (.v (.int .u64 a)) (.v (.int .u64 b))) K := rfl
 rw [this]; simp only [ibin, if_true]; rfl
theorem r_bin19 {a b : Int} : jbin .or (.v (.int .u64 a)) (.v (.int .u64 b)) K = K (.v (.int .u64 (ior a b))) := by
 have : jbin .or (.v (.int .u64 a)) (.v (.int .u64 b)) K = wv (ibin .or (.v (.int .u64 a)) (.v (.int .u64 b))) K := rfl
 rw [this]; simp only [ibin, if_true]; rfl
theorem r_bin20 {a b : Int} : jbin .andNot (.v (.int .u64 a)) (.v (.int .u64 b)) K = K (.v (.int .u64 (iandn a b))) := by
 have : jbin .andNot (.v (.int .u64 a)) (.v (.int .u64 b)) K = wv (ibin .andNot (.v (.int .u64 a)) (.v (.int .u64 b))) K := rfl
 rw [this]; simp only [ibin, if_true]; rfl
theorem r_cvt {k k' : IntKind} {i : Int} : jcvt k (.v (.int k' i)) K = jar k i K := rfl
theorem r_fadr1 {o o1 off : Nat} : ifadr off (.ptr o o1) = some (.ptr o (o1 + off)) := rfl
theorem r_fadr2 {cs : List AV} {off : Nat} : ifadr off (.cptr cs) = some (.cptr (cs.drop off)) := rfl
theorem r_fld {row : Option Nat} {cs : List AV} {off : Nat} : ifld row off (.agg cs) = icut row cs off := rfl
theorem r_ia1 {es n : Nat} {tok : Tok} {cs : List AV} {k : IntKind} {i : Int} : jiasl es (.sl tok n cs) (.v (.int k i)) K = @wc (0 ≤ i ∧ i < n ∧ i.toNat * es < cs.length) ⟨@jcs (cs.drop (i.toNat * es)) ⟨fun cs => K (.cptr cs)⟩⟩ := rfl
theorem r_ia2 {es n o off : Nat} {k : IntKind} {i : Int} : jiasl es (.arr o off n) (.v (.int k i)) K = @wc (0 ≤ i ∧ i < n) ⟨K (.ptr o (off + i.toNat * es))⟩ := rfl
theorem r_ia3 {es n o off : Nat} {k : IntKind} {i : Int} : jiaar n es (.ptr o off) (.v (.int k i)) K = @wc (0 ≤ i ∧ i < n) ⟨K (.ptr o (off + i.toNat * es))⟩ := rfl
theorem r_ia4 {es n : Nat} {cs : List AV} {k : IntKind} {i : Int} : jiaar n es (.cptr cs) (.v (.int k i)) K = @wc (0 ≤ i ∧ i < n) ⟨@jcs (cs.drop (i.toNat * es)) ⟨fun cs => K (.cptr cs)⟩⟩ := rfl
theorem p_cs {cs : List AV} {KL : List AV → Prop} : @jcs cs ⟨KL⟩ = KL cs := rfl
theorem p_jh {KJ : JH → Prop} : @jjh j ⟨KJ⟩ = KJ j := rfl
theorem r_ixs {s : ByteArray} {k : IntKind} {i : Int} : jidxs (.v (.string s)) (.v (.int k i)) K = @wc (0 ≤ i) ⟨@wh _ (s[i.toNat]?) ⟨fun b => K (.v (.int .u8 b.toNat))⟩⟩ := rfl
theorem r_ext {vs : List AV} {i : Nat} : jext (.tup vs) i K = @wh _ (vs[i]?) ⟨K⟩ := rfl
theorem r_ld1 {C : Nat → Option AObj} {row : Option Nat} {o off : Nat} : jload C row (.ptr o off) K = @wh _ (C o) ⟨fun ob => jcells ob row off K⟩ := by
 simp only [jload, jcells]; rfl
theorem r_ld2 {C : Nat → Option AObj} {row : Option Nat} {cs : List AV} : jload C row (.cptr cs) K = @wh _ (icut row cs 0) ⟨K⟩ := rfl
theorem r_ld3 {t : TypeId} {cs : List AV} {row : Option Nat} {off : Nat} : jcells (.cells t cs) row off K = @wh _ (icut row cs off) ⟨K⟩ := rfl
theorem r_sto1 {size o off : Nat} {x : AV} {KJ : JH → Prop} : jstore j size (.ptr o off) x KJ = @wh _ (j.get o) ⟨fun ob => jstc j size o off x.cells ob KJ⟩ := by
 simp only [jstore, jstc]; rfl
theorem r_sto2 {size o off : Nat} {xs : List AV} {t : TypeId} {cs : List AV} {KJ : JH → Prop} : jstc j size o off xs (.cells t cs) KJ = @wc (xs.length = size ∧ off + xs.length ≤ cs.length ∧ xs.all AV.one = true) ⟨@jcs (splice cs off xs) ⟨fun cs => @jjh (j.set o (.cells t cs)) ⟨KJ⟩⟩⟩ := rfl
theorem r_len1 {tok : Tok} {n : Nat} {cs : List AV} : ilenl (.sl tok n cs) = some (.v (.int .i64 n)) := rfl
theorem r_len2 {o off n : Nat} : ilenl (.arr o off n) = some (.v (.int .i64 n)) := rfl
theorem r_len3 {s : ByteArray} : ilens (.v (.string s)) = some (.v (.int .i64 s.size)) := rfl
theorem r_ce1 {v : Value} : AV.cells (.v v) = [.v v] := rfl
theorem r_ce2 {cs : List AV} : AV.cells (.agg cs) = cs := rfl
theorem r_ce3 {tok : Tok} {n : Nat} {cs : List AV} : AV.cells (.sl tok n cs) = [.sl tok n cs] := rfl
theorem r_ce4 {o off : Nat} : AV.cells (.ptr o off) = [.ptr o off] := rfl
theorem r_ce5 {o off n : Nat} : AV.cells (.arr o off n) = [.arr o off n] := rfl
theorem r_ce6 {o : Nat} : AV.cells (.mp o) = [.mp o] := rfl
theorem r_ce7 {f : Fn} {a b : List AV} : AV.cells (.fn f a b) = [.fn f a b] := rfl
theorem r_ce8 {t : TypeId} {x : AV} : AV.cells (.ifc t x) = [.ifc t x] := rfl
theorem r_ce10 {o : Nat} : AV.cells (.yld o) = [.yld o] := rfl
theorem r_ce9 {cs : List AV} : AV.cells (.cptr cs) = [.cptr cs] := rfl
theorem r_kn1 {v : Value} : AV.known (.v v) = true := rfl
theorem r_kn2 {cs : List AV} : AV.known (.agg cs) = true := rfl
theorem r_kn3 {tok : Tok} {n : Nat} {cs : List AV} : AV.known (.sl tok n cs) = true := rfl
theorem r_kn4 {o off : Nat} : AV.known (.ptr o off) = true := rfl
theorem r_kn5 {o off n : Nat} : AV.known (.arr o off n) = true := rfl
theorem r_kn6 {o : Nat} : AV.known (.mp o) = true := rfl
theorem r_kn7 {f : Fn} {a b : List AV} : AV.known (.fn f a b) = true := rfl
theorem r_kn9 {o : Nat} : AV.known (.yld o) = true := rfl
theorem r_kn8 {t : TypeId} {x : AV} : AV.known (.ifc t x) = true := rfl
theorem r_on1 {b : Bool} : AV.one (.v (.bool b)) = true := rfl
theorem r_on2 {k : IntKind} {b : Int} : AV.one (.v (.int k b)) = true := rfl
theorem r_on3 {b : ByteArray} : AV.one (.v (.string b)) = true := rfl
theorem r_on4 {tok : Tok} {n : Nat} {cs : List AV} : AV.one (.sl tok n cs) = true := rfl
theorem r_on5 {o off : Nat} : AV.one (.ptr o off) = true := rfl
theorem r_on6 {o off n : Nat} : AV.one (.arr o off n) = true := rfl
theorem r_on7 {o : Nat} : AV.one (.mp o) = true := rfl
theorem r_on8 {f : Fn} {a b : List AV} : AV.one (.fn f a b) = true := rfl
theorem r_on10 {o : Nat} : AV.one (.yld o) = true := rfl
theorem r_on9 {t : TypeId} {x : AV} : AV.one (.ifc t x) = true := rfl
theorem r_all0 : ([] : List AV).all AV.one = true := rfl
theorem r_all1 {x : AV} {xs : List AV} : (x :: xs).all AV.one = (AV.one x && xs.all AV.one) := rfl
def irow (n : Nat) (cs : List AV) : Option (List AV) := if (cs.take n).length = n then some (cs.take n) else none
theorem r_cut1 {n off : Nat} {x : AV} {cs : List AV} : icut (some n) (x :: cs) (off + 1) = icut (some n) cs off := rfl
theorem r_cut2 {off : Nat} {x : AV} {cs : List AV} : icut none (x :: cs) (off + 1) = icut none cs off := by simp [icut]
theorem r_cut3 {x : AV} {cs : List AV} : icut none (x :: cs) 0 = some x := rfl
theorem r_cut4 {n : Nat} {x : AV} {cs : List AV} : icut (some n) (x :: cs) 0 = (irow n (x :: cs)).map .agg := by
 unfold icut irow; simp only [List.drop_zero]; split <;> simp
theorem r_row0 {cs : List AV} : irow 0 cs = some [] := by simp [irow]
theorem r_row1 {n : Nat} {x : AV} {cs : List AV} : irow (n + 1) (x :: cs) = (irow n cs).map (x :: ·) := by
 unfold irow; simp only [List.take_succ_cons, List.length_cons]
 by_cases h : (cs.take n).length = n <;> simp [h]
theorem r_spl4 {z : List AV} : acy z 0 = [] := rfl
theorem r_spl5 {z : List AV} {n : Nat} : acy z (n + 1) = z ++ acy z n := rfl
theorem r_spl1 {y : AV} {cs xs : List AV} {off : Nat} : splice (y :: cs) (off + 1) xs = y :: splice cs off xs := by
 unfold splice; simp [Nat.add_right_comm]
theorem r_spl2 {y x : AV} {cs xs : List AV} : splice (y :: cs) 0 (x :: xs) = x :: splice cs 0 xs := by
 unfold splice; simp
theorem r_spl3 {cs : List AV} {off : Nat} : splice cs off [] = cs := by unfold splice; simp
theorem splice_z3 {a b c : AV} {r xs : List AV} (h : xs.length = 3) : splice (a :: b :: c :: r) 0 xs = xs ++ r := by unfold splice; simp [h]
theorem splice_a3 {r xs ys : List AV} (h : xs.length = 3) : splice (xs ++ r) 3 ys = xs ++ splice r 0 ys := by
 unfold splice
 rw [List.take_append_of_le_length (by omega), ← h, List.take_length, List.drop_append]
 simp [List.drop_eq_nil_of_le (Nat.le_add_right _ _)]
theorem splice_full {cs xs : List AV} (h : xs.length = cs.length) : splice cs 0 xs = xs := by unfold splice; simp [h]
end
end
def jr := And.intro @r_wp5p (And.intro @r_dpan (And.intro @r_wd4p (And.intro @r_wp11 (And.intro @r_wd8a (And.intro @r_inv (And.intro @r_st_inv (And.intro @r_d_inv (And.intro @r_st31a (And.intro @r_d_beqA (And.intro @r_b1a (And.intro @r_st38 (And.intro @r_st39 (And.intro @r_d_tas (And.intro @r_d_inil (And.intro @r_wd1 (And.intro @r_wd2 (And.intro @r_wd3 (And.intro @r_wd4 (And.intro @r_wd5 (And.intro @r_wd6 (And.intro @r_wd7 (And.intro @r_wd8 (And.intro @r_wd9 (And.intro @r_wd10 (And.intro @r_td1 (And.intro @r_td2 (And.intro @r_td3 (And.intro @r_td4 (And.intro @r_dq1 (And.intro @r_dq2 (And.intro @r_ed1 (And.intro @r_ed2 (And.intro @r_ed3 (And.intro @r_lv0 (And.intro @r_lv1 (And.intro @r_lv2 (And.intro @r_rq1 (And.intro @r_rq2 (And.intro @r_wp10 (And.intro @r_yld (And.intro @r_wp1 (And.intro @r_wp2 (And.intro @r_wp3 (And.intro @r_wp4 (And.intro @r_wp5 (And.intro @r_wp6 (And.intro @r_wp7 (And.intro @r_wp8 (And.intro @r_wp9 (And.intro @r_ops0 (And.intro @r_ops1 (And.intro @r_ops2 (And.intro @r_dr0 (And.intro @r_dr1 (And.intro @r_dr2 (And.intro @r_g1 (And.intro @r_g2 (And.intro @r_g3 (And.intro @r_out1 (And.intro @r_out2 (And.intro @r_put1 (And.intro @r_put2 (And.intro @r_reg1 (And.intro @r_reg2 (And.intro @r_then1 (And.intro @r_then2 (And.intro @r_then3 (And.intro @r_then4 (And.intro @r_blk1 (And.intro @r_blk2 (And.intro @r_blk3 (And.intro @r_blk4 (And.intro @r_lp1 (And.intro @r_lp2 (And.intro @r_lp3 (And.intro @r_lp4 (And.intro @r_end1 (And.intro @r_end2 (And.intro @r_end3 (And.intro @r_res0 (And.intro @r_res1 (And.intro @r_res2 (And.intro @r_x1 (And.intro @r_x2 (And.intro @r_x3 (And.intro @r_xs0 (And.intro @r_xs1 (And.intro @r_xo0 (And.intro @r_xo1 (And.intro @r_fill0 (And.intro @r_fill1 (And.intro @r_lk0 (And.intro @r_lk1 (And.intro @r_ar0 (And.intro @r_ar1 (And.intro @r_st1 (And.intro @r_st2 (And.intro @r_st3 (And.intro @r_st4 (And.intro @r_st5 (And.intro @r_st6 (And.intro @r_st7 (And.intro @r_st8 (And.intro @r_st9 (And.intro @r_st10 (And.intro @r_st11 (And.intro @r_st12 (And.intro @r_st13 (And.intro @r_st14 (And.intro @r_st15 (And.intro @r_st16 (And.intro @r_st17 (And.intro @r_st18 (And.intro @r_st19 (And.intro @r_st20 (And.intro @r_st21 (And.intro @r_st22 (And.intro @r_st23 (And.intro @r_st24 (And.intro @r_st25 (And.intro @r_st26 (And.intro @r_st27 (And.intro @r_st28 (And.intro @r_st29 (And.intro @r_st30 (And.intro @r_st31 (And.intro @r_st32 (And.intro @r_st33 (And.intro @r_st34 (And.intro @r_st35 (And.intro @r_st36 (And.intro @r_st37 (And.intro @r_mx1 (And.intro @r_mx2 (And.intro @r_pan (And.intro @r_aix (And.intro @r_d_mov (And.intro @r_d_pick (And.intro @r_d_bin (And.intro @r_d_not (And.intro @r_d_cvt (And.intro @r_d_fadr (And.intro @r_d_fld (And.intro @r_d_iasl (And.intro @r_d_iaar (And.intro @r_d_idxs (And.intro @r_d_slc (And.intro @r_d_slcs (And.intro @r_d_ext (And.intro @r_d_mki (And.intro @r_d_mkf (And.intro @r_d_load (And.intro @r_d_lenl (And.intro @r_d_lens (And.intro @r_d_box (And.intro @r_d_alloc (And.intro @r_d_build (And.intro @r_d_bsl (And.intro @r_d_mkmap (And.intro @r_d_lookup (And.intro @r_d_mapup (And.intro @r_d_store (And.intro @r_d_app (And.intro @r_d_nchk (And.intro @r_d_beq (And.intro @r_d_mx (And.intro @r_d_mks (And.intro @r_d_pan (And.intro @r_d_aidx (And.intro @r_d_slcp (And.intro @r_d_gen (And.intro @r_d_call (And.intro @r_d_callv (And.intro @r_d_cv (And.intro @r_cv (And.intro @r_b1 (And.intro @r_ar (And.intro @r_bin1 (And.intro @r_bin2 (And.intro @r_bin3 (And.intro @r_bin4 (And.intro @r_bin5 (And.intro @r_bin6 (And.intro @r_bin7 (And.intro @r_bin8 (And.intro @r_bin9 (And.intro @r_bin10 (And.intro @r_bin11 (And.intro @r_bin12 (And.intro @r_bin13 (And.intro @r_bin14 (And.intro @r_bin16 (And.intro @r_bin17 (And.intro @r_bin18 (And.intro @r_bin19 (And.intro @r_bin20 (And.intro @r_bin15 (And.intro @r_cvt (And.intro @r_ia1 (And.intro @r_ia2 (And.intro @r_ia3 (And.intro @r_ia4 (And.intro @r_ixs (And.intro @r_ext (And.intro @r_ld1 (And.intro @r_ld2 (And.intro @r_ld3 (And.intro @r_sto1 (@r_sto2)))))))))))))))))))))))))))))))))))))))))))))))))))))))))))))))))))))))))))))))))))))))))))))))))))))))))))))))))))))))))))))))))))))))))))))))))))))))))))))))))))))))))))))))))))))))))))))))))))))))))))))))))
def jp := And.intro @r_tas1 (And.intro @r_tas2 (And.intro @r_inil1 (And.intro @r_inil2 (And.intro @r_pd (And.intro @bodies0 (And.intro @bodies1 (And.intro @r_clb4 (And.intro @r_ce10 (And.intro @r_kn9 (And.intro @r_on10 (And.intro @p_dec (And.intro @p_bnot (And.intro @p_true (And.intro @p_false (And.intro @p_True (And.intro @p_False (And.intro @p_not (And.intro @p_wc (And.intro @p_jv (And.intro @p_wh (And.intro @p_cs (And.intro @p_jh (And.intro @ext_push (And.intro @ext_next (And.intro @ext_tnext (And.intro @ext_tok (And.intro @ext_pushTok (And.intro @ext_setTok (And.intro @set_next (And.intro @set_tnext (And.intro @set_tok (And.intro @pushTok_next (And.intro @setTok_next (And.intro @pushTok_get (And.intro @setTok_get (And.intro @pushTok_tnext (And.intro @setTok_tnext (And.intro @r_ret0 (And.intro @r_ret1 (And.intro @r_ret2 (And.intro @r_clb1 (And.intro @r_clb2 (And.intro @r_clb3 (And.intro @r_fadr1 (And.intro @r_fadr2 (And.intro @r_fld (And.intro @r_len1 (And.intro @r_len2 (And.intro @r_len3 (And.intro @r_ce1 (And.intro @r_ce2 (And.intro @r_ce3 (And.intro @r_ce4 (And.intro @r_ce5 (And.intro @r_ce6 (And.intro @r_ce7 (And.intro @r_ce8 (And.intro @r_ce9 (And.intro @r_kn1 (And.intro @r_kn2 (And.intro @r_kn3 (And.intro @r_kn4 (And.intro @r_kn5 (And.intro @r_kn6 (And.intro @r_kn7 (And.intro @r_kn8 (And.intro @r_on1 (And.intro @r_on2 (And.intro @r_on3 (And.intro @r_on4 (And.intro @r_on5 (And.intro @r_on6 (And.intro @r_on7 (And.intro @r_on8 (And.intro @r_on9 (And.intro @r_all0 (And.intro @r_all1 (And.intro @r_cut1 (And.intro @r_cut2 (And.intro @r_cut3 (And.intro @r_cut4 (And.intro @r_row0 (And.intro @r_row1 (And.intro @r_spl4 (And.intro @r_spl5 (And.intro @r_spl1 (And.intro @r_spl2 (@r_spl3))))))))))))))))))))))))))))))))))))))))))))))))))))))))))))))))))))))))))))))))))))))))
end Go.Proofs.YtcjlpklgnknpgaaGreatDoor.Pg
