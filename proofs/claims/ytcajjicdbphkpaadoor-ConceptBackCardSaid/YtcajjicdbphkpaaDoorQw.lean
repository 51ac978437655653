/-
  concept.Parse.
-/
import Derived.Test.YtcajjicdbphkpaaDoorQv
set_option linter.unusedVariables false
set_option linter.unusedSimpArgs false
set_option maxRecDepth 100000
set_option maxHeartbeats 8000000
namespace Go.Proofs.YtcajjicdbphkpaaDoor.Pg
open Go
def pPar (n : Nms) (s : ByteArray) : Con × Int := if namesOK n = false then (nilC, 20) else rPar n s
section
variable {m : Int} {G : Nat → Option (List AV)}
theorem s_NewReader (l : List ByteArray) (f : FuncId) (o : Nat) (j : JH) (hoj : o < j.next) : JC Tryd.prog G 41 [.sl .none l.length (strs l), .fn (.func f) [] [.ptr o 0]] j (RET (.ptr (pid j.next 0) 0) (ext j [.cells PE [.fn (.func f) [] [.ptr o 0], .sl .none l.length (strs l), BOO false, .sl .nil 0 []]])) := by
  refine JC.run hmix c41 (by exact k41) ?_
  (try simp only[↓jr,jw,seval,ir41])
  exact JFIN.same (SubB.ptr (by rw [ext_next]; unfold pid; simp)) ⟨rfl, rfl⟩
theorem hb40 : hasBody Tryd.prog 40 = true := by decide +kernel
theorem s_rec0 (a b : Nat) (j : JH) : JD Tryd.prog G 40 [.ptr a 0, .ptr b 0] none j (RETD j) := by
  refine JD.of_rec hmix (by decide +kernel) c40 (by decide +kernel) (by exact k40) ?_
  (try simp only[↓jr,jw,seval,jmv,rvOf])
  exact JRECEND.same ⟨rfl, rfl⟩
theorem JDropH.toJ {j J : JH} (h1 : j.next ≤ J.next) (h2 : j.tnext ≤ J.tnext) (h3 : ∀ o, o < j.next → J.get o = j.get o) (h4 : ∀ t, t < j.tnext → J.tok t = j.tok t) : JDropH (ext j []) J j :=
  ⟨Nat.le_refl _, h1, Nat.le_refl _, h2, fun o ob ho e => .inl ⟨ho, by rw [ext_get_old ho, ← h3 o ho]; exact e, by rw [← h3 o ho]; exact e⟩, fun t ht => (h4 t ht).symm⟩
theorem s_rec1 (a b : Nat) (t1 t2 : TypeId) (j : JH) (ha : a < j.next) (hb : b < j.next) (hab : a ≠ b) (hga : j.get a = some (.cells t1 zC)) (hgb : j.get b = some (.cells t2 [I64 0])) :
    JD Tryd.prog G 40 [.ptr a 0, .ptr b 0] (some wrongV) j (RETD ((j.set a (.cells t1 zC)).set b (.cells t2 [I64 11]))) := by
  refine JD.of_rec hmix (by decide +kernel) c40 (by decide +kernel) (by exact k40) ?_
  have a1 : (a = j.next) = False := by simp; omega
  have b1 : (b = j.next) = False := by simp; omega
  have a2 : (j.next = a) = False := by simp; omega
  have pg : ∀ (x : AObj) (o : Nat), (j.push x).get o = if o = j.next then some x else j.get o := fun _ _ => rfl
  (try simp only[↓jr,jw,seval,jmv,rvOf,hga,hgb,pg,set_get,hab.symm,if_false,if_true,a1,b1,a2])
  refine JRECEND.of (J := (j.set a (.cells t1 zC)).set b (.cells t2 [I64 11])) ⟨Nat.le_refl _, Nat.le_succ _, Nat.le_refl _, Nat.le_refl _, fun o ob ho e => ?_, fun t ht => rfl⟩ ⟨rfl, rfl⟩
  have ho' : o < j.next := ho
  have ho2 : o ≠ j.next := Nat.ne_of_lt ho'
  simp only [set_get, pg, if_neg ho2] at e ⊢
  by_cases e1 : o = b
  · subst e1
    rw [if_pos rfl] at e ⊢; cases e
    exact .inr ⟨_, rfl, rfl, SubB.v, True.intro⟩
  · rw [if_neg e1] at e ⊢
    by_cases e2 : o = a
    · subst e2
      rw [if_pos rfl] at e ⊢; cases e
      exact .inr ⟨_, rfl, rfl, SubB.v, SubB.v, SubB.pure rfl, True.intro⟩
    · rw [if_neg e2] at e ⊢
      exact .inl ⟨ho', e, e⟩
theorem namesOK_len {n : Nms} (h : namesOK n = true) : n.cs.length ≤ 16 ∧ n.rs.length ≤ 6 ∧ n.is.length ≤ 10 := by
  unfold namesOK at h
  simp only [Bool.and_eq_true, decide_eq_true_eq] at h
  exact ⟨h.1.1.1, h.1.1.2, h.1.2⟩
theorem s_cParse (n : Nms) (hn : n.ok) (hs : n.short) (s : ByteArray) (hsz : s.size ≤ 1000000) (j : JH) : JC Tryd.prog (GG m) 14 [.agg n.enc, STR s] j (RET (.tup [.agg (pPar n s).1.enc, I64 (pPar n s).2]) j) := by
  have hlen := bs_len s
  refine JC.runD hmix c14 (by exact k14) ?_
  (try simp only[↓jr,jw,seval,ir14])
  refine JCs.ret (s_ValidNames n hn hs _) ?_
  (try simp only[↓jr,jw,seval])
  refine ww.intro (fun h => ?_) (fun h => ?_)
  · (try simp only[↓jr,jw,seval])
    have e0 : pPar n s = rPar n s := by unfold pPar; rw [if_neg (by rw [h]; decide)]
    rw [e0]
    refine wq.intro (fun h1 => ?_) (fun h1 => ?_)
    · (try simp only[↓jr,jw,seval])
      have e : rPar n s = (nilC, 2) := by unfold rPar; rw [if_pos (by omega)]
      rw [e]
      refine JFIN.rb ?_
      exact SubB.tup ⟨SubB.agg nilC_sub, SubB.v, True.intro⟩
    · (try simp only[↓jr,jw,seval])
      have e0 : rPar n s = match toks sgC (bs s) with | none => (nilC, 11) | some ts => rParT n ts := by unfold rPar; rw [if_neg (by omega)]; cases toks sgC (bs s) <;> rfl
      refine wc.intro hb40 ?_
      (try simp only[↓jr,jw,seval])
      refine JC.mono (s_Tokens s ⟨#[40, 41, 45]⟩ hsz _) ?_
      rw [show bs ⟨#[40, 41, 45]⟩ = sgC from rfl]
      intro o j' q
      cases ht : toks sgC (bs s) with
      | none =>
        rw [ht] at q e0
        obtain ⟨rfl, rfl⟩ := q
        (try simp only[↓jr,jw,seval])
        refine wc.intro hb40 ?_
        (try simp only[↓jr,jw,seval])
        refine JDs.ret (s_rec1 (pid j.next 1) (pid j.next 2) 27 32 _ (by rw [ext_next, pid_lt]; simp) (by rw [ext_next, pid_lt]; simp) (by unfold pid; omega) (by (try simp only[↓jr,jw,seval])) (by (try simp only[↓jr,jw,seval]))) ?_
        (try simp only[↓jr,jw,seval])
        simp only at e0
        rw [e0]
        refine JFIN.rb ?_
        exact SubB.tup ⟨SubB.agg nilC_sub, SubB.v, True.intro⟩
      | some ts =>
        rw [ht] at q e0
        obtain ⟨rfl, rfl⟩ := q
        (try simp only[↓jr,jw,seval])
        have hsp := toks_spec (sg := sgC) (bs s).length (bs s) ts (Nat.le_refl _) ht
        rw [hlen] at hsp
        have hR := s_NewReader (G := GG m) (ts.map ofL) 43 (pid j.next 0) (ext j [.cells 24 n.enc, .cells 27 zC, .cells 32 [I64 0]]) (by rw [ext_next, pid_lt]; simp)
        rw [List.length_map] at hR
        refine JCs.ret hR ?_
        have hcs := namesOK_len h
        have P0 : PRd (ext (ext j [.cells 24 n.enc, .cells 27 zC, .cells 32 [I64 0]]) [.cells PE [.fn (.func 43) [] [.ptr (pid j.next 0) 0], .sl .none ts.length (strs (ts.map ofL)), BOO false, .sl .nil 0 []]]) (pid (pid j.next 3) 0) (pid j.next 0) ts false .nil [] :=
          ⟨by rw [ext_next, ext_next]; unfold pid; simp, ext_get_new rfl, by rw [ext_next, ext_next]; unfold pid; simp; omega, rfl⟩
        have hro : ∀ k, k < 3 → pid j.next k ≠ pid (pid j.next 3) 0 := fun k hk => by unfold pid; omega
        have hlo : ∀ k, k < 3 → pid j.next k < pid (pid j.next 3) 1 := fun k hk => by unfold pid; omega
        have gO : ∀ k, k < 3 → (ext (ext j [.cells 24 n.enc, .cells 27 zC, .cells 32 [I64 0]]) [.cells PE [.fn (.func 43) [] [.ptr (pid j.next 0) 0], .sl .none ts.length (strs (ts.map ofL)), BOO false, .sl .nil 0 []]]).get (pid j.next k) = [AObj.cells 24 n.enc, .cells 27 zC, .cells 32 [I64 0]][k]? := fun k hk => by
          rw [ext_get_old (by rw [ext_next]; unfold pid; simp; omega), ext_get_new rfl]
        (try simp only[↓jr,jw,seval])
        refine JC.mono (s_Concept (sg := sgC) (tb := j.tnext) (ts.length + 1) P0 ⟨Nat.le_refl _, .inl ⟨rfl, rfl⟩⟩ (by simp; omega) (fun t ht => ⟨(hsp.2 t ht).2, by have := (hsp.2 t ht).1; omega⟩) (by omega)) ?_
        intro o1 j1 q
        have eP := rParT_eq n ts
        simp only at e0
        rw [eP] at e0
        have toJ : ∀ {j1 : JH}, Grow (pid (pid j.next 3) 0) j.tnext (ext (ext j [.cells 24 n.enc, .cells 27 zC, .cells 32 [I64 0]]) [.cells PE [.fn (.func 43) [] [.ptr (pid j.next 0) 0], .sl .none ts.length (strs (ts.map ofL)), BOO false, .sl .nil 0 []]]) j1 → ∀ (x y : AObj), JDropH (ext j []) ((j1.set (pid j.next 1) x).set (pid j.next 2) y) j := by
          intro j1 g x y
          refine JDropH.toJ (Nat.le_trans ?_ g.next) g.tnext (fun o ho => ?_) g.tok
          · rw [ext_next, ext_next]; unfold pid; simp; omega
          · rw [set_get, if_neg (by unfold pid; omega), set_get, if_neg (by unfold pid; omega), g.get o (by rw [ext_next, ext_next]; unfold pid; simp; omega) (by unfold pid; omega), ext_get_old (by rw [ext_next]; unfold pid; omega), ext_get_old ho]
        have p21 : (pid j.next 1 = pid j.next 2) = False := by unfold pid; simp
        have p12 : (pid j.next 2 = pid j.next 1) = False := by unfold pid; simp
        cases hp : pT (ts.length + 1) ts with
        | none =>
          rw [hp] at q e0
          obtain ⟨rfl, g⟩ := q
          (try simp only[↓jr,jw,seval])
          refine wc.intro hb40 ?_
          (try simp only[↓jr,jw,seval])
          have g1 : ∀ k, k < 3 → j1.get (pid j.next k) = [AObj.cells 24 n.enc, .cells 27 zC, .cells 32 [I64 0]][k]? := fun k hk => (g.get _ (hlo k hk) (hro k hk)).trans (gO k hk)
          have gn : pid (pid j.next 3) 1 ≤ j1.next := g.next
          refine JDs.ret (s_rec1 (pid j.next 1) (pid j.next 2) 27 32 j1 (Nat.lt_of_lt_of_le (hlo 1 (by omega)) gn) (Nat.lt_of_lt_of_le (hlo 2 (by omega)) gn) (by unfold pid; omega) (g1 1 (by omega)) (g1 2 (by omega))) ?_
          (try simp only[↓jr,jw,seval,set_get,p21,if_false,if_true])
          simp only at e0
          rw [e0]
          exact JFIN.ret (toJ g _ _) (SubB.tup ⟨SubB.agg nilC_sub, SubB.v, True.intro⟩)
        | some x =>
          obtain ⟨T, r⟩ := x
          rw [hp] at q e0
          simp only at e0
          obtain ⟨I, lt', avs, rfl, hsh, P1, C1, g, L1, T1, I1, N1, Z1⟩ := q
          rw [List.nil_append] at P1 C1 Z1
          have g1 : ∀ k, k < 3 → j1.get (pid j.next k) = [AObj.cells 24 n.enc, .cells 27 zC, .cells 32 [I64 0]][k]? := fun k hk => (g.get _ (hlo k hk) (hro k hk)).trans (gO k hk)
          have gn : pid (pid j.next 3) 1 ≤ j1.next := g.next
          have g10 : j1.get (pid j.next 0) = some (.cells 24 n.enc) := g1 0 (by omega)
          have g11 : j1.get (pid j.next 1) = some (.cells 27 zC) := g1 1 (by omega)
          have g12 : j1.get (pid j.next 2) = some (.cells 32 [I64 0]) := g1 2 (by omega)
          (try simp only[↓jr,jw,seval])
          refine JCs.ret (s_Next P1) ?_
          cases r with
          | cons t r =>
            (try simp only[↓jr,jw,seval])
            refine wq.intro (fun q => ?_) (fun _ => ?_)
            · exfalso
              obtain ⟨b, l, e, _⟩ := (hsp.2 t (pT_sub _ hp t (by simp))).2
              have hz : (b :: l).length = 0 := by rw [← ofL_size, ← e]; exact congrArg ByteArray.size q
              simp at hz
            (try simp only[↓jr,jw,seval,g11,g12,set_get,p21,p12,if_false,if_true])
            refine wc.intro hb40 ?_
            (try simp only[↓jr,jw,seval])
            refine JDs.ret (s_rec0 _ _ _) ?_
            (try simp only[↓jr,jw,seval,g11,g12,set_get,p21,p12,if_false,if_true])
            have e9 : rPar n s = (nilC, 11) := by rw [e0]; exact if_pos rfl
            rw [e9]
            exact JFIN.ret (toJ g _ _) (SubB.tup ⟨SubB.agg nilC_sub, SubB.v, True.intro⟩)
          | nil =>
            (try simp only[↓jr,jw,seval])
            refine wq.intro (fun _ => ?_) (fun q => absurd rfl q)
            (try simp only[↓jr,jw,seval])
            have nbA : gA j1 (pid (pid j.next 3) 0) (pid j.next 0) (.cells 24 n.enc) := ⟨Nat.lt_of_lt_of_le (hlo 0 (by omega)) gn, hro 0 (by omega), g10⟩
            refine JC.mono (s_Finish n (by omega) (by omega) P1 24 nbA (by decide) L1 T1 N1 (by simp at Z1; omega)) ?_
            rintro _ J ⟨rfl, j2, rfl, P2, T2, n2, t2, k2, o2⟩
            have hF := IT.fin (n := n) I ⟨fun _ => 0, false⟩ N1 fun _ _ => rfl
            have hR := finS_R (n := n) (by omega) (by omega) I.items ⟨fun _ => 0, false⟩ fun i => by unfold R64; simp
            rw [hsh] at hF
            obtain ⟨hF1, _, hF3⟩ := hF
            have hz := pT_size _ hp
            have hok : (I.con (finS n I.items ⟨fun _ => 0, false⟩).v).ok := IT.con_ok hR I (by rw [hsh]; exact hz.2)
            have hnd : (I.con (finS n I.items ⟨fun _ => 0, false⟩).v).nodes ≤ 1000000 := by rw [IT.con_nodes, hsh]; have := hz.1; omega
            generalize hc : I.con (finS n I.items ⟨fun _ => 0, false⟩).v = c at hF3 hok hnd
            have hni : ∀ o, o < pid (pid j.next 3) 1 → o ∉ I.ids := fun o ho q => by have h2 := (I1 o q).1; rw [ext_next, ext_next] at h2; simp only [List.length_cons, List.length_nil] at h2; unfold pid at ho h2; omega
            have g21 : j2.get (pid j.next 1) = some (.cells 27 zC) := (o2 _ (Nat.lt_of_lt_of_le (hlo 1 (by omega)) gn) (hro 1 (by omega)) (hni _ (hlo 1 (by omega)))).trans g11
            have g22 : j2.get (pid j.next 2) = some (.cells 32 [I64 0]) := (o2 _ (Nat.lt_of_lt_of_le (hlo 2 (by omega)) gn) (hro 2 (by omega)) (hni _ (hlo 2 (by omega)))).trans g12
            have g20 : j2.get (pid j.next 0) = some (.cells 24 n.enc) := (o2 _ (Nat.lt_of_lt_of_le (hlo 0 (by omega)) gn) (hro 0 (by omega)) (hni _ (hlo 0 (by omega)))).trans g10
            have b0 : pid j.next 0 < j2.next := by rw [n2]; exact Nat.lt_of_lt_of_le (hlo 0 (by omega)) gn
            have b1 : pid j.next 1 < j2.next := by rw [n2]; exact Nat.lt_of_lt_of_le (hlo 1 (by omega)) gn
            have b2 : pid j.next 2 < j2.next := by rw [n2]; exact Nat.lt_of_lt_of_le (hlo 2 (by omega)) gn
            have p01 : (pid j.next 0 = pid j.next 1) = False := by unfold pid; simp
            have pr1 : (pid (pid j.next 3) 0 = pid j.next 1) = False := eq_false (hro 1 (by omega)).symm
            obtain ⟨hr1, hr2, hr3, _⟩ := P2
            (try simp only[↓jr,jw,seval])
            refine JCs.ret (s_Done I _ (pid (pid j.next 3) 0) _ (TRep.grow (Grow.ext (tb := 0)) I T2) (by rw [hc]; exact hnd)) ?_
            rw [hc]
            (try simp only[↓jr,jw,seval,ext_get_old,ext_set_old,g20,g21,g22,b0,b1,b2,hr1,hr2,set_get,set_next,p21,p12,p01,pr1,if_false,if_true])
            have e9 : rPar n s = if (T.unk n || !conOK n (T.con n)) = true then (nilC, 10) else (T.con n, 0) := by rw [e0]; exact if_neg (by decide)
            have toK : ∀ {l : List AObj} (x y : AObj), JDropH (ext j []) (ext ((j2.set (pid j.next 1) x).set (pid j.next 2) y) l) j := by
              intro l x y
              refine JDropH.toJ ?_ ?_ (fun o ho => ?_) (fun t ht => ?_)
              · rw [ext_next, set_next, set_next, n2]; have := gn; unfold pid at this ⊢; omega
              · rw [ext_tnext, set_tnext, set_tnext, t2]; exact g.tnext
              · have hoj : o < j2.next := by rw [n2]; have := Nat.lt_of_lt_of_le (hlo 0 (by omega)) gn; unfold pid at this; omega
                rw [ext_get_old (by rw [set_next, set_next]; exact hoj), set_get, if_neg (by unfold pid; omega), set_get, if_neg (by unfold pid; omega)]
                have ho1 : j1.get o = j.get o := by
                  rw [g.get o (by rw [ext_next, ext_next]; unfold pid; simp; omega) (by unfold pid; omega), ext_get_old (by rw [ext_next]; unfold pid; omega), ext_get_old ho]
                exact (o2 o (by rw [← n2]; exact hoj) (by unfold pid; omega) (hni o (by unfold pid; omega))).trans ho1
              · rw [ext_tok, set_tok, set_tok, k2]; exact g.tok t ht
            cases hb : (finS n I.items ⟨fun _ => 0, false⟩).bad with
            | true =>
              rw [hb] at hF1
              (try simp only[↓jr,jw,seval,ext_get_old,ext_set_old,g20,g21,g22,b0,b1,b2,hr1,hr2,set_get,set_set,set_next,p21,p12,p01,pr1,if_false,if_true])
              refine wc.intro hb40 ?_
              (try simp only[↓jr,jw,seval])
              refine JDs.ret (s_rec0 _ _ _) ?_
              (try simp only[↓jr,jw,seval,ext_get_old,ext_set_old,g20,g21,g22,b0,b1,b2,hr1,hr2,set_get,set_set,set_next,p21,p12,p01,pr1,if_false,if_true])
              rw [e9, if_pos (by rw [← Bool.false_or (PT.unk n T), ← hF1]; rfl)]
              exact JFIN.ret (toK _ _) (SubB.tup ⟨SubB.agg nilC_sub, SubB.v, True.intro⟩)
            | false =>
              rw [hb] at hF1
              have hu : T.unk n = false := by rw [Bool.false_or] at hF1; exact hF1.symm
              have hc2 := hF3 hu
              (try simp only[↓jr,jw,seval,ext_get_old,ext_set_old,g20,g21,g22,b0,b1,b2,hr1,hr2,set_get,set_set,set_next,p21,p12,p01,pr1,if_false,if_true])
              subst hc2
              refine JCs.ret (s_Valid n hn 3 (T.con n) (pid j2.next 0) 400 _ hok (by rw [ext_next, set_next]; unfold pid; simp) (ext_get_new rfl) (by omega) (by omega)) ?_
              rw [vld_conOK]
              (try simp only[↓jr,jw,seval,ext_get_old,ext_set_old,g20,g21,g22,b0,b1,b2,hr1,hr2,set_get,set_set,set_next,p21,p12,p01,pr1,if_false,if_true])
              refine ww.intro (fun hv => ?_) (fun hv => ?_)
              · (try simp only[↓jr,jw,seval,ext_get_old,ext_set_old,g20,g21,g22,b0,b1,b2,hr1,hr2,set_get,set_set,set_next,p21,p12,p01,pr1,if_false,if_true])
                refine wc.intro hb40 ?_
                (try simp only[↓jr,jw,seval])
                refine JDs.ret (s_rec0 _ _ _) ?_
                (try simp only[↓jr,jw,seval,ext_get_old,ext_set_old,g20,g21,g22,b0,b1,b2,hr1,hr2,set_get,set_set,set_next,p21,p12,p01,pr1,if_false,if_true])
                rw [e9, if_neg (by rw [hu, hv]; decide)]
                exact JFIN.ret (toK _ _) (SubB.tup ⟨SubB.agg (SubBs.pure (Con.pur _)), SubB.v, True.intro⟩)
              · (try simp only[↓jr,jw,seval,ext_get_old,ext_set_old,g20,g21,g22,b0,b1,b2,hr1,hr2,set_get,set_set,set_next,p21,p12,p01,pr1,if_false,if_true])
                refine wc.intro hb40 ?_
                (try simp only[↓jr,jw,seval])
                refine JDs.ret (s_rec0 _ _ _) ?_
                (try simp only[↓jr,jw,seval,ext_get_old,ext_set_old,g20,g21,g22,b0,b1,b2,hr1,hr2,set_get,set_set,set_next,p21,p12,p01,pr1,if_false,if_true])
                rw [e9, if_pos (by rw [hv]; simp)]
                exact JFIN.ret (toK _ _) (SubB.tup ⟨SubB.agg nilC_sub, SubB.v, True.intro⟩)
  · (try simp only[↓jr,jw,seval])
    have e : pPar n s = (nilC, 20) := by unfold pPar; rw [if_pos h]
    rw [e]
    refine JFIN.rb ?_
    exact SubB.tup ⟨SubB.agg nilC_sub, SubB.v, True.intro⟩
end
end Go.Proofs.YtcajjicdbphkpaaDoor.Pg
