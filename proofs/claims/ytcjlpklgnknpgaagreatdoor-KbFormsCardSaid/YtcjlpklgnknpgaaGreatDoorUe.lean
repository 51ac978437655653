/-
  Ranging over the subconcepts: All, Mark.
-/
import Derived.Test.YtcjlpklgnknpgaaGreatDoorUd
set_option linter.unusedVariables false
set_option linter.unusedSimpArgs false
set_option maxRecDepth 100000
set_option maxHeartbeats 8000000
namespace Go.Proofs.YtcjlpklgnknpgaaGreatDoor.Pg
open Go
section
variable {m : GM} {G : Nat → Option (List AV)}
noncomputable def ir99 : IFn := ⟨4, [⟨2, none⟩], (.seq (.reg [oA 1 (.box 71 (.r 0)), oA 2 (.mov (.k (.v .nilFunc)))]) (.seq (.reg [oA 3 (.mkf (.func 142) [] [.r 1]), oA 2 (kM 3)]) .ret))⟩
theorem c99 : cfunc Tryz.prog 99 = some ir99 := by kernel_rfl
theorem k99 : okIR (max 1 ir99.n) ir99.ir = true := by decide +kernel
theorem s_All (c : Con) (j : JH) : JC Tryz.prog G 99 [.agg c.enc] j (RET (.fn (.func 142) [] [.ptr (pid j.next 0) 0]) (Pg.ext j [.cells 71 c.enc])) := by
  refine JC.run hmix c99 (by exact k99) ?_
  (try simp only[↓jr,jw,seval,ir99])
  (try simp only[↓jr,jw,seval])
  exact JFIN.same (Y := .fn (.func 142) [] [.ptr (pid j.next 0) 0]) (SubB.fn True.intro ⟨SubB.ptr (by rw [ext_next]; unfold pid; simp), True.intro⟩) ⟨rfl, rfl⟩
noncomputable def ir142 : IFn := ⟨6, [], (.reg [oL 3 1 (some 3), oA 4 (kM 0), oA 5 (.call 143 [.r 3, .r 4])])⟩
theorem c142 : cfunc Tryz.prog 142 = some ir142 := by kernel_rfl
theorem k142 : okIR (max 2 ir142.n) ir142.ir = true := by decide +kernel
theorem s_All1 (o : Nat) (c : Con) (N : Nat) (J : List Con → JH) (b : Nat) (F : Fam N J) (ho : o < N) (hb : b < N) (hg : (J []).get b = some (.cells 71 c.enc)) (hr : RND Tryz.prog G o (pre c) J) (hc : c.ok) :
    JC Tryz.prog G 142 [.yld o, .ptr b 0] (J []) fun q j' => ∃ x, q = .ret x ∧ j' = J (pre c) := by
  have hnx := F.nx
  refine JC.run hmix c142 (by exact k142) ?_
  (try simp only[↓jr,jw,seval,hnx,ext_get_old,hb,hg,ir142])
  (try simp only[↓jr,jw,seval,hnx,ext_get_old,hb,hg])
  refine JCs.ret (s_each o (pre c) c (N + 0) (fun d => Pg.ext (J d) []) [] [] (F.box [] (by simp)) (by omega) (hr.box []) hc (by simp)) ?_
  (try simp only[↓jr,jw,seval,hnx,ext_get_old,hb,hg])
  exact JFIN.of (Y := .tup []) (JDropH.fam F [] (pre c) []).of_ext (SubB.tup True.intro) ⟨_, rfl, rfl⟩
/-- A set of integers gets one more. -/
def insI (ks : List Int) (n : Int) : List Int := if n ∈ ks then ks else ks ++ [n]
theorem insI_nodup {ks : List Int} {n : Int} (h : ks.Nodup) : (insI ks n).Nodup := by
  unfold insI; split
  · exact h
  · rename_i q; exact List.nodup_append.2 ⟨h, by simp, fun a ha b hb e => by simp at hb; subst hb; subst e; exact q ha⟩
theorem insI_mem {ks : List Int} {n x : Int} : x ∈ insI ks n ↔ x ∈ ks ∨ x = n := by
  unfold insI; split
  · rename_i q; constructor
    · exact .inl
    · rintro (h | rfl)
      · exact h
      · exact q
  · simp
theorem insI_len {ks : List Int} {n : Int} : (insI ks n).length ≤ ks.length + 1 := by
  unfold insI; split <;> simp
theorem asame_int (a b : Int) : asame (.int .i64) (.int .i64 a) (.int .i64 b) = some (decide (a = b)) := by
  show some _ = some _
  congr 1
theorem afind_new (n : Int) : ∀ (ks : List Int) (i : Nat), n ∉ ks → afind (.int .i64) (.int .i64 n) (mpS ks) i = some none
  | [], i, _ => rfl
  | k :: ks, i, h => by
    have ih := afind_new n ks (i + 1) (fun q => h (List.mem_cons_of_mem _ q))
    have hne : n ≠ k := fun e => h (by rw [e]; exact List.mem_cons_self ..)
    simp only [mpS, List.map_cons, afind] at ih ⊢
    rw [asame_int, decide_eq_false hne]
    exact ih
theorem afind_old (n : Int) : ∀ (ks : List Int) (i : Nat), n ∈ ks → ∃ q, ks[q]? = some n ∧ afind (.int .i64) (.int .i64 n) (mpS ks) i = some (some (i + q, .v (.bool true)))
  | k :: ks, i, h => by
    by_cases hne : n = k
    · subst hne
      refine ⟨0, rfl, ?_⟩
      simp only [mpS, List.map_cons, afind]
      rw [asame_int, decide_eq_true rfl]; rfl
    · obtain ⟨q, h1, h2⟩ := afind_old n ks (i + 1) ((List.mem_cons.1 h).resolve_left hne)
      refine ⟨q + 1, h1, ?_⟩
      simp only [mpS, List.map_cons, afind] at h2 ⊢
      rw [asame_int, decide_eq_false hne]
      show _ = some (some (i + (q + 1), _))
      rw [show i + (q + 1) = i + 1 + q by omega]; exact h2
theorem mpS_set {ks : List Int} {q : Nat} {n : Int} (h : ks[q]? = some n) : (mpS ks).set q (.int .i64 n, .v (.bool true)) = mpS ks := by
  apply List.ext_getElem?
  intro p
  rw [List.getElem?_set]
  split
  · rename_i e; subst e
    split
    · simp [mpS, h]
    · rename_i hl; simp [mpS] at hl; rw [List.getElem?_eq_none (by simp [mpS]; omega)]
  · rfl
theorem JMAPUP.ins {j : JH} {o : Nat} {ks : List Int} {n : Int} {K : JH → Prop} (h : j.get o = some (.map (mpS ks))) (k : K (j.set o (.map (mpS (insI ks n))))) : @JMAPUP j (.int .i64) (.mp o) (.v (.int .i64 n)) (.v (.bool true)) ⟨K⟩ := by
  unfold JMAPUP jmapup
  simp only [lit, wv_some, h]
  by_cases q : n ∈ ks
  · obtain ⟨p, h1, h2⟩ := afind_old n ks 0 q
    rw [h2]
    simp only [wv_some, Nat.zero_add]
    rw [mpS_set h1]
    rw [insI, if_pos q] at k; exact k
  · rw [afind_new n ks 0 q]
    simp only [wv_some]
    have e : mpS (insI ks n) = mpS ks ++ [(.int .i64 n, .v (.bool true))] := by rw [insI, if_neg q]; simp [mpS]
    rw [← e]; exact k
theorem mpS_pur : ∀ l : List Int, AV.pures ((mpS l).map (·.2)) = true
  | [] => rfl
  | s :: l => by
    have := mpS_pur l
    simp only [mpS, List.map_cons, AV.pures, AV.pure, Bool.true_and] at this ⊢; exact this
theorem OSub.mpS {no nt : Nat} {l : List Int} : OSub no nt (.map (mpS l)) (.map (mpS l)) := ⟨rfl, SubBs.pure (mpS_pur l)⟩
/-- The names that nodes use, in the order in which they are met. -/
def cnsI (a : List Int) : List Con → List Int
  | [] => a
  | .mk o n _ :: l => cnsI (if o = 0 then insI a n else a) l
def rlsI (a : List Int) : List Con → List Int
  | [] => a
  | .mk o n _ :: l => rlsI (if o = 6 ∨ o = 7 then insI a (n.tdiv 2) else a) l
theorem cnsI_snoc (x : Con) : ∀ (l : List Con) (a : List Int), cnsI a (l ++ [x]) = cnsI (cnsI a l) [x]
  | [], _ => rfl
  | .mk o n k :: l, a => by simp only [List.cons_append, cnsI]; exact cnsI_snoc x l _
theorem rlsI_snoc (x : Con) : ∀ (l : List Con) (a : List Int), rlsI a (l ++ [x]) = rlsI (rlsI a l) [x]
  | [], _ => rfl
  | .mk o n k :: l, a => by simp only [List.cons_append, rlsI]; exact rlsI_snoc x l _
/-- The two sets. -/
def jm (j : JH) (oa ob : Nat) (a b : List Int) : JH := (j.set oa (.map (mpS a))).set ob (.map (mpS b))
theorem jm_next {j : JH} {oa ob : Nat} {a b : List Int} : (jm j oa ob a b).next = j.next := rfl
theorem jm_a {j : JH} {oa ob : Nat} {a b : List Int} (h : oa ≠ ob) : (jm j oa ob a b).get oa = some (.map (mpS a)) := by
  unfold jm; rw [set_get, if_neg h, set_get, if_pos rfl]
theorem jm_b {j : JH} {oa ob : Nat} {a b : List Int} : (jm j oa ob a b).get ob = some (.map (mpS b)) := by
  unfold jm; rw [set_get, if_pos rfl]
theorem jm_o {j : JH} {oa ob o : Nat} {a b : List Int} (h1 : o ≠ oa) (h2 : o ≠ ob) : (jm j oa ob a b).get o = j.get o := by
  unfold jm; rw [set_get, if_neg h2, set_get, if_neg h1]
theorem set_same {j : JH} {o : Nat} {x : AObj} (h : j.get o = some x) : j.set o x = j := by
  cases j
  unfold JH.set
  simp only [JH.mk.injEq, true_and, and_true]
  funext p; by_cases e : p = o
  · subst e; rw [if_pos rfl]; exact h.symm
  · rw [if_neg e]
theorem set_comm {j : JH} {o p : Nat} {x y : AObj} (h : o ≠ p) : (j.set o x).set p y = (j.set p y).set o x := by
  unfold JH.set
  simp only [JH.mk.injEq, true_and, and_true]
  funext q; by_cases e : q = o <;> by_cases f : q = p
  · exact absurd (e.symm.trans f) h
  all_goals simp [e, f, h, Ne.symm h]
theorem jm_seta {j : JH} {oa ob : Nat} {a a' b : List Int} (h : oa ≠ ob) : (jm j oa ob a b).set oa (.map (mpS a')) = jm j oa ob a' b := by
  unfold jm; rw [set_comm (Ne.symm h), set_set]
theorem jm_setb {j : JH} {oa ob : Nat} {a b b' : List Int} : (jm j oa ob a b).set ob (.map (mpS b')) = jm j oa ob a b' := by
  unfold jm; rw [set_set]
theorem jm_self {j : JH} {oa ob : Nat} {a b : List Int} (h1 : j.get oa = some (.map (mpS a))) (h2 : j.get ob = some (.map (mpS b))) : jm j oa ob a b = j := by
  unfold jm; rw [set_same h1, set_same h2]
theorem set_last (l : List AObj) (x y : AObj) : (l ++ [x]).set l.length y = l ++ [y] := by simp
theorem get_last (l : List AObj) (x : AObj) : (l ++ [x])[l.length]? = some x := by simp
theorem ext_set_last {X : JH} {l : List AObj} {x y : AObj} : (Pg.ext X (l ++ [x])).set (pid X.next l.length) y = Pg.ext X (l ++ [y]) := by
  rw [ext_set_new rfl (by simp), set_last]
theorem sg_ne {j : JH} {o p : Nat} {x : AObj} (h : (p = o) = False) : (j.set o x).get p = j.get p := by rw [set_get, if_neg (fun e => h.mp e)]
theorem sg_eq {j : JH} {o : Nat} {x : AObj} : (j.set o x).get o = some x := by rw [set_get, if_pos rfl]
theorem set_busy {X : JH} {o p : Nat} {ob busy y : AObj} (h : X.get o = some ob) (hp : p ≠ o) : ((X.set o busy).set p y).set o ob = X.set p y := by
  rw [set_comm (Ne.symm hp), set_set, set_same]
  rw [set_get, if_neg (Ne.symm hp)]; exact h
theorem LSub.self {no nt : Nat} {m : List AObj} : ∀ l : List AObj, LSub no nt l (l ++ m) l
  | [] => by cases m <;> trivial
  | a :: l => ⟨.inl ⟨rfl, rfl⟩, LSub.self l⟩
theorem JDropH.rnd {X : JH} {o : Nat} {y : AObj} {l m : List AObj} (hy : ∀ no nt, OSub no nt y y) : JDropH (Pg.ext X l) (Pg.ext (X.set o y) (l ++ m)) (Pg.ext (X.set o y) l) :=
  JDropH.next (TokExt.refl _) rfl (Nat.le_refl _) (fun p x hp he => by
    rw [set_get] at he
    split at he
    · cases he; exact .inr (hy _ _)
    · exact .inl he) (LSub.self l)
theorem JDropH.rnd0 {X : JH} {l m : List AObj} : JDropH (Pg.ext X l) (Pg.ext X (l ++ m)) (Pg.ext X l) :=
  JDropH.next (TokExt.refl _) rfl (Nat.le_refl _) (fun p x hp he => .inl he) (LSub.self l)
theorem R64_tdiv2 {n : Int} (h : R64 n) : R64 (n.tdiv 2) := by
  unfold R64 at *
  rcases Int.le_total 0 n with q | q
  · have := Int.tdiv_eq_ediv_of_nonneg (b := 2) q; omega
  · have h1 : n.tdiv 2 = -((-n).tdiv 2) := by rw [Int.neg_tdiv]; omega
    have := Int.tdiv_eq_ediv_of_nonneg (a := -n) (b := 2) (by omega); omega
mutual
theorem pre_ok : ∀ c : Con, c.ok → ∀ x ∈ pre c, x.ok
  | .mk o n l, h, x, hx => by
    simp only [pre, List.mem_cons] at hx
    rcases hx with rfl | hx
    · exact h
    · simp only [Con.ok] at h; exact preL_ok l h.2.2.2 x hx
theorem preL_ok : ∀ l : List Con, Con.oks l → ∀ x ∈ preL l, x.ok
  | [], _, x, hx => by simp [preL] at hx
  | c :: l, h, x, hx => by
    simp only [preL, List.mem_append] at hx
    simp only [Con.oks] at h
    rcases hx with hx | hx
    · exact pre_ok c h.1 x hx
    · exact preL_ok l h.2 x hx
end
/-- Two sets below a family's new objects. -/
theorem Fam.jm {j : JH} {oa ob : Nat} (hab : oa ≠ ob) (a b : List Con → List Int) (l : List AObj) : Fam (j.next + l.length) (fun d => Pg.ext (jm j oa ob (a d) (b d)) l) := by
  refine ⟨fun d => rfl, fun d e => Nat.le_refl _, fun d e o x ho he => ?_⟩
  by_cases h : o < j.next
  · rw [ext_get_old (by rw [jm_next]; exact h)] at he ⊢
    by_cases h2 : o = ob
    · subst h2; rw [jm_b] at he; cases he; exact .inr fun no => OSub.mpS
    by_cases h1 : o = oa
    · subst h1; rw [jm_a hab] at he; cases he; exact .inr fun no => OSub.mpS
    rw [jm_o h1 h2] at he ⊢; exact .inl he
  · have ek : o = pid j.next (o - j.next) := by unfold pid; omega
    rw [ek, ext_get_new jm_next] at he ⊢
    exact .inl he
theorem JDropH.jm {j : JH} {oa ob : Nat} {a b : List Int} {l : List AObj} (hab : oa ≠ ob) (ha : oa < j.next) (hb : ob < j.next) : JDropH (Pg.ext j []) (Pg.ext (Pg.jm j oa ob a b) l) (Pg.jm j oa ob a b) := by
  refine JDropH.of_ext ⟨Nat.le_refl _, ?_, Nat.le_refl _, Nat.le_refl _, fun o x ho he => ?_, fun t ht => rfl⟩
  · rw [ext_next]; unfold pid; omega
  · rw [ext_get_old ho] at he
    by_cases h2 : o = ob
    · subst h2; exact .inr ⟨_, jm_b, by rw [jm_b] at he; cases he; exact OSub.mpS⟩
    by_cases h1 : o = oa
    · subst h1; exact .inr ⟨_, jm_a hab, by rw [jm_a hab] at he; cases he; exact OSub.mpS⟩
    exact .inl ⟨ho, by rw [jm_o h1 h2] at he; exact he, he⟩
noncomputable def ir63 : IFn := ⟨24, [], (.seq (.reg [oA 3 (.box 71 (.r 0)), oA 4 (.box 125 (.r 1)), oA 5 (.box 125 (.r 2))]) (.seq (.reg [oL 7 3 (some 3), oT 8 7 (.call 99 [.r 7])]) (.block 0 (.rng (.r 8) #[9] (rca Tryz.prog 63 0) (rcb Tryz.prog 63 0) (.reg [oA 6 (.alloc 71 [.v (.int .i64 0), .v (.int .i64 0), .sl .nil 0 []]), oN (.store 3 (.r 6) (.r 9))]) (.block 1 (.seq (.reg [oA 10 (.fadr 0 (.r 6)), oL 11 10 none]) (.block 2 (.seq (.reg [oA 13 (.bin .eql (.r 11) (kI 0)), oA 12 (kM 13)]) (.cond (.r 12) (.reg [oL 14 4 none, oA 15 (.fadr 1 (.r 6)), oL 16 15 none, oN (.mapup (.int .i64) (.r 14) (.r 16) (kB true))]) (.seq (.seq (.reg [oA 18 (.bin .eql (.r 11) (kI 6)), oA 17 (kM 18)]) (.cond (.r 17) .skip (.reg [oA 19 (.bin .eql (.r 11) (kI 7)), oA 17 (kM 19)]))) (.cond (.r 17) (.reg [oL 20 5 none, oA 21 (.fadr 1 (.r 6)), oL 22 21 none, oA 23 (.bin .quo (.r 22) (kI 2)), oN (.mapup (.int .i64) (.r 20) (.r 23) (kB true))]) .skip)))))))))))⟩
theorem c63 : cfunc Tryz.prog 63 = some ir63 := by kernel_rfl
theorem k63 : okIR (max 3 ir63.n) ir63.ir = true := by decide +kernel
theorem s_Mark (c : Con) (hc : c.ok) (oa ob : Nat) (a b : List Int) (j : JH) (hab : oa ≠ ob) (ha : oa < j.next) (hb : ob < j.next) (hga : j.get oa = some (.map (mpS a))) (hgb : j.get ob = some (.map (mpS b))) :
    JC Tryz.prog G 63 [.agg c.enc, .mp oa, .mp ob] j (RET (.tup []) (jm j oa ob (cnsI a (pre c)) (rlsI b (pre c)))) := by
  refine JC.run hmix c63 (by exact k63) ?_
  (try simp only[↓jr,jw,seval,ir63])
  refine JCs.ret (s_All c _) ?_
  (try simp only[↓jr,jw,seval,ext_ext,pid_pid,List.cons_append])
  refine JRNG.of (by kernel_rfl) ?_
  intro obj busy hround
  rw [ext_push]
  have F := Fam.jm (j := j) hab (cnsI a) (rlsI b) [.cells 71 c.enc, .cells 125 [.mp oa], .cells 125 [.mp ob], .cells 71 c.enc, obj]
  have h0 : Pg.ext (jm j oa ob (cnsI a []) (rlsI b [])) [.cells 71 c.enc, .cells 125 [.mp oa], .cells 125 [.mp ob], .cells 71 c.enc, obj] = Pg.ext j [.cells 71 c.enc, .cells 125 [.mp oa], .cells 125 [.mp ob], .cells 71 c.enc, obj] := by
    rw [show jm j oa ob (cnsI a []) (rlsI b []) = j from jm_self hga hgb]
  have hr : RND Tryz.prog G (pid j.next 4) (pre c) (fun d => Pg.ext (jm j oa ob (cnsI a d) (rlsI b d)) [.cells 71 c.enc, .cells 125 [.mp oa], .cells 125 [.mp ob], .cells 71 c.enc, obj]) := by
    intro done x rest e l
    have hx := pre_ok c hc x (by rw [← e]; simp)
    refine hround _ _ _ ?_ rfl ?_
    · rw [ext_next, ext_ext]
      exact ext_get_new jm_next
    simp only [psL]
    simp only [cnsI_snoc, rlsI_snoc, ext_next, jm_next]
    generalize cnsI a done = A
    generalize rlsI b done = R
    obtain ⟨op, n, k⟩ := x
    simp only [Con.ok] at hx
    obtain ⟨hc1, hc2, hc3, hc4⟩ := hx
    obtain ⟨X, hX⟩ : ∃ X, X = Pg.ext (jm j oa ob A R) [.cells 71 c.enc, .cells 125 [.mp oa], .cells 125 [.mp ob], .cells 71 c.enc, obj] := ⟨_, rfl⟩
    have hn : X.next = pid j.next 5 := by rw [hX]; rfl
    have g1 : X.get (pid j.next 1) = some (.cells 125 [.mp oa]) := by rw [hX]; exact ext_get_new jm_next
    have g2 : X.get (pid j.next 2) = some (.cells 125 [.mp ob]) := by rw [hX]; exact ext_get_new jm_next
    have g4 : X.get (pid j.next 4) = some obj := by rw [hX]; exact ext_get_new jm_next
    have ga : X.get oa = some (.map (mpS A)) := by rw [hX, ext_get_old (by rw [jm_next]; exact ha)]; exact jm_a hab
    have gb : X.get ob = some (.map (mpS R)) := by rw [hX, ext_get_old (by rw [jm_next]; exact hb)]; exact jm_b
    have l1 : pid j.next 1 < X.next := by rw [hn]; unfold pid; omega
    have l2 : pid j.next 2 < X.next := by rw [hn]; unfold pid; omega
    have l4 : pid j.next 4 < X.next := by rw [hn]; unfold pid; omega
    have la : oa < X.next := by rw [hn]; unfold pid; omega
    have lb : ob < X.next := by rw [hn]; unfold pid; omega
    have n1 : (pid j.next 1 = pid j.next 4) = False := by simp [pid]
    have n2 : (pid j.next 2 = pid j.next 4) = False := by simp [pid]
    have na : (oa = pid j.next 4) = False := by simp [pid]; omega
    have na' : (pid j.next 4 = oa) = False := by simp [pid]; omega
    have nb' : (pid j.next 4 = ob) = False := by simp [pid]; omega
    have nb : (ob = pid j.next 4) = False := by simp [pid]; omega
    have eA : ∀ A', X.set oa (.map (mpS A')) = Pg.ext (jm j oa ob A' R) [.cells 71 c.enc, .cells 125 [.mp oa], .cells 125 [.mp ob], .cells 71 c.enc, obj] := fun A' => by rw [hX, ext_set_old (by rw [jm_next]; exact ha), jm_seta hab]
    have eB : ∀ R', X.set ob (.map (mpS R')) = Pg.ext (jm j oa ob A R') [.cells 71 c.enc, .cells 125 [.mp oa], .cells 125 [.mp ob], .cells 71 c.enc, obj] := fun R' => by rw [hX, ext_set_old (by rw [jm_next]; exact hb), jm_setb]
    rw [← hX]
    clear hX
    (try simp only[↓jr,jw,seval,rndA,rndQ,get_last,set_last,ext_get_old,ext_set_old,l1,l2,l4,la,lb,n1,n2,na,nb,na',nb',g1,g2,g4,ga,gb,ext_set_last,sg_ne,sg_eq,set_next])
    have hR : ∀ {y : Int}, y = op → cnsI A [Con.mk op n k] = (if op = 0 then insI A n else A) ∧ rlsI R [Con.mk op n k] = (if op = 6 ∨ op = 7 then insI R (n.tdiv 2) else R) := fun _ => ⟨rfl, rfl⟩
    obtain ⟨e1, e2⟩ := hR rfl
    rw [e1, e2]
    have stay : ¬ op = 0 → ¬ op = 6 → ¬ op = 7 → X = Pg.ext (jm j oa ob (if op = 0 then insI A n else A) (if op = 6 ∨ op = 7 then insI R (n.tdiv 2) else R)) [.cells 71 c.enc, .cells 125 [.mp oa], .cells 125 [.mp ob], .cells 71 c.enc, obj] := by
      intro h0 h6 h7
      rw [if_neg h0, if_neg (by omega), ← eA A, set_same ga]
    have toA : op = 0 → X.set oa (.map (mpS (insI A n))) = Pg.ext (jm j oa ob (if op = 0 then insI A n else A) (if op = 6 ∨ op = 7 then insI R (n.tdiv 2) else R)) [.cells 71 c.enc, .cells 125 [.mp oa], .cells 125 [.mp ob], .cells 71 c.enc, obj] := by
      intro h0
      rw [if_pos h0, if_neg (by omega), ← eA]
    have toB : op = 6 ∨ op = 7 → X.set ob (.map (mpS (insI R (n.tdiv 2)))) = Pg.ext (jm j oa ob (if op = 0 then insI A n else A) (if op = 6 ∨ op = 7 then insI R (n.tdiv 2) else R)) [.cells 71 c.enc, .cells 125 [.mp oa], .cells 125 [.mp ob], .cells 71 c.enc, obj] := by
      intro h0
      rw [if_neg (by omega), if_pos h0, ← eB]
    refine wq.intro (fun q0 => ?_) (fun q0 => ?_)
    · (try simp only[↓jr,jw,seval,rndA,rndQ,get_last,set_last,ext_get_old,ext_set_old,l1,l2,l4,la,lb,n1,n2,na,nb,na',nb',g1,g2,g4,ga,gb,ext_set_last,sg_ne,sg_eq,set_next])
      refine JMAPUP.ins (ks := A) (by (try simp only[↓jr,jw,seval,rndA,rndQ,get_last,set_last,ext_get_old,ext_set_old,l1,l2,l4,la,lb,n1,n2,na,nb,na',nb',g1,g2,g4,ga,gb,ext_set_last,sg_ne,sg_eq,set_next])) ?_
      (try simp only[↓jr,jw,seval,rndA,rndQ,get_last,set_last,ext_get_old,ext_set_old,l1,l2,l4,la,lb,n1,n2,na,nb,na',nb',g1,g2,g4,ga,gb,ext_set_last,sg_ne,sg_eq,set_next])
      rw [← toA q0, set_busy g4 (fun e => na.mp e)]
      exact ⟨_, _, .inl (JDropH.rnd fun _ _ => OSub.mpS), SubB.v, rfl, rfl⟩
    (try simp only[↓jr,jw,seval,rndA,rndQ,get_last,set_last,ext_get_old,ext_set_old,l1,l2,l4,la,lb,n1,n2,na,nb,na',nb',g1,g2,g4,ga,gb,ext_set_last,sg_ne,sg_eq,set_next])
    refine wq.intro (fun q6 => ?_) (fun q6 => ?_)
    · (try simp only[↓jr,jw,seval,rndA,rndQ,get_last,set_last,ext_get_old,ext_set_old,l1,l2,l4,la,lb,n1,n2,na,nb,na',nb',g1,g2,g4,ga,gb,ext_set_last,sg_ne,sg_eq,set_next])
      refine wq.intro (fun _ => ?_) (fun h => absurd q6 h)
      (try simp only[↓jr,jw,seval,rndA,rndQ,get_last,set_last,ext_get_old,ext_set_old,l1,l2,l4,la,lb,n1,n2,na,nb,na',nb',g1,g2,g4,ga,gb,ext_set_last,sg_ne,sg_eq,set_next])
      refine wc.intro (R64_tdiv2 hc2) ?_
      (try simp only[↓jr,jw,seval,rndA,rndQ,get_last,set_last,ext_get_old,ext_set_old,l1,l2,l4,la,lb,n1,n2,na,nb,na',nb',g1,g2,g4,ga,gb,ext_set_last,sg_ne,sg_eq,set_next])
      refine JMAPUP.ins (ks := R) (by (try simp only[↓jr,jw,seval,rndA,rndQ,get_last,set_last,ext_get_old,ext_set_old,l1,l2,l4,la,lb,n1,n2,na,nb,na',nb',g1,g2,g4,ga,gb,ext_set_last,sg_ne,sg_eq,set_next])) ?_
      (try simp only[↓jr,jw,seval,rndA,rndQ,get_last,set_last,ext_get_old,ext_set_old,l1,l2,l4,la,lb,n1,n2,na,nb,na',nb',g1,g2,g4,ga,gb,ext_set_last,sg_ne,sg_eq,set_next])
      rw [← toB (.inl q6), set_busy g4 (fun e => nb.mp e)]
      exact ⟨_, _, .inl (JDropH.rnd fun _ _ => OSub.mpS), SubB.v, rfl, rfl⟩
    (try simp only[↓jr,jw,seval,rndA,rndQ,get_last,set_last,ext_get_old,ext_set_old,l1,l2,l4,la,lb,n1,n2,na,nb,na',nb',g1,g2,g4,ga,gb,ext_set_last,sg_ne,sg_eq,set_next])
    refine wq.intro (fun q7 => ?_) (fun q7 => ?_)
    · (try simp only[↓jr,jw,seval,rndA,rndQ,get_last,set_last,ext_get_old,ext_set_old,l1,l2,l4,la,lb,n1,n2,na,nb,na',nb',g1,g2,g4,ga,gb,ext_set_last,sg_ne,sg_eq,set_next])
      refine wc.intro (R64_tdiv2 hc2) ?_
      (try simp only[↓jr,jw,seval,rndA,rndQ,get_last,set_last,ext_get_old,ext_set_old,l1,l2,l4,la,lb,n1,n2,na,nb,na',nb',g1,g2,g4,ga,gb,ext_set_last,sg_ne,sg_eq,set_next])
      refine JMAPUP.ins (ks := R) (by (try simp only[↓jr,jw,seval,rndA,rndQ,get_last,set_last,ext_get_old,ext_set_old,l1,l2,l4,la,lb,n1,n2,na,nb,na',nb',g1,g2,g4,ga,gb,ext_set_last,sg_ne,sg_eq,set_next])) ?_
      (try simp only[↓jr,jw,seval,rndA,rndQ,get_last,set_last,ext_get_old,ext_set_old,l1,l2,l4,la,lb,n1,n2,na,nb,na',nb',g1,g2,g4,ga,gb,ext_set_last,sg_ne,sg_eq,set_next])
      rw [← toB (.inr q7), set_busy g4 (fun e => nb.mp e)]
      exact ⟨_, _, .inl (JDropH.rnd fun _ _ => OSub.mpS), SubB.v, rfl, rfl⟩
    (try simp only[↓jr,jw,seval,rndA,rndQ,get_last,set_last,ext_get_old,ext_set_old,l1,l2,l4,la,lb,n1,n2,na,nb,na',nb',g1,g2,g4,ga,gb,ext_set_last,sg_ne,sg_eq,set_next])
    rw [← stay q0 q6 q7, set_set, set_same g4]
    exact ⟨_, _, .inl JDropH.rnd0, SubB.v, rfl, rfl⟩
  refine JC.mono (Q := fun q j' => ∃ x, q = .ret x ∧ j' = Pg.ext (jm j oa ob (cnsI a (pre c)) (rlsI b (pre c))) [.cells 71 c.enc, .cells 125 [.mp oa], .cells 125 [.mp ob], .cells 71 c.enc, obj]) ?_ ?_
  · have := s_All1 (G := G) (pid j.next 4) c _ _ (pid j.next 3) F (by unfold pid; simp) (by unfold pid; simp) (by exact ext_get_new jm_next) hr hc
    rw [h0] at this
    exact this
  · rintro q j' ⟨x, rfl, rfl⟩
    refine ⟨x, rfl, ext_get_new jm_next, ?_⟩
    (try simp only[↓jr,jw,seval])
    rw [ext_set_new jm_next (by simp)]
    exact JFIN.of (Y := .tup []) (JDropH.jm hab ha hb) (SubB.tup True.intro) ⟨rfl, rfl⟩
end
end Go.Proofs.YtcjlpklgnknpgaaGreatDoor.Pg
