/-
  The elements of a concept: the program's evaluator.
-/
import Derived.Test.YtnkkeenclhncmaaDoorIb
import Derived.Test.YtnkkeenclhncmaaDoorPgN
set_option linter.unusedVariables false
set_option linter.unusedSimpArgs false
set_option maxRecDepth 100000
set_option maxHeartbeats 8000000
namespace Go.Proofs.YtnkkeenclhncmaaDoor.Pg
open Go
def frP (n : Int) (p : Int × Int) : Int := if n.tmod 2 = 0 then p.1 else p.2
def toP (n : Int) (p : Int × Int) : Int := if n.tmod 2 = 0 then p.2 else p.1
def conI (i : Itp) (n : Int) : List Int := (i.cons[n.toNat]?).getD []
def rolI (i : Itp) (n : Int) : List (Int × Int) := (i.rols[(n.tdiv 2).toNat]?).getD []
def sz (i : Itp) : Nat := i.size.toNat
mutual
/-- To which elements a concept applies. -/
def semC (i : Itp) : Con → Nat → Bool
  | .mk o n l, x => decide (x < sz i) && (if o = 0 then (conI i n).contains (x : Int) else if o = 1 then true else if o = 2 then false else if o = 3 then !semH i l x
    else if o = 4 then semH i l x && semT i l x else if o = 5 then semH i l x || semT i l x
    else if o = 6 then (rolI i n).any (fun p => decide (frP n p = x) && semH i l (toP n p).toNat) else !(rolI i n).any (fun p => decide (frP n p = x) && !semH i l (toP n p).toNat))
def semH (i : Itp) : List Con → Nat → Bool
  | [], _ => false
  | c :: _, x => semC i c x
def semT (i : Itp) : List Con → Nat → Bool
  | [], _ => false
  | _ :: l, x => semH i l x
end
structure Itp.wf (i : Itp) : Prop where
  s1 : 1 ≤ i.size
  s2 : i.size ≤ 256
  c : ∀ l ∈ i.cons, ∀ x ∈ l, 0 ≤ x ∧ x < i.size
  r : ∀ l ∈ i.rols, ∀ p ∈ l, 0 ≤ p.1 ∧ p.1 < i.size ∧ 0 ≤ p.2 ∧ p.2 < i.size
structure Itp.ok (i : Itp) : Prop where
  s : R64 i.size
  c1 : i.cons.length < 4611686018427387904
  c2 : ∀ l ∈ i.cons, l.length < 17592186044417 ∧ ∀ x ∈ l, R64 x
  r1 : i.rols.length < 4611686018427387904
  r2 : ∀ l ∈ i.rols, l.length < 8796093022209 ∧ ∀ p ∈ l, R64 p.1 ∧ R64 p.2
  i1 : i.inds.length < 4611686018427387904
  i2 : ∀ x ∈ i.inds, R64 x
theorem sz_size {i : Itp} (h : i.wf) : i.size = ((sz i : Nat) : Int) ∧ sz i ≤ 256 ∧ 1 ≤ sz i := by
  have := h.s1; have := h.s2; unfold sz; omega
theorem semC_lt {i : Itp} {c : Con} {x : Nat} (h : semC i c x = true) : x < sz i := by
  cases c with
  | mk o n l => simp only [semC, Bool.and_eq_true, decide_eq_true_eq] at h; exact h.1
abbrev SETR (i : Itp) (j : JH) (f : Nat → Bool) : AOut → JH → Prop := RET (.arr (pid j.next 0) 0 (nw (sz i))) (Pg.ext j [.cells UE (wds f (nw (sz i)))])
theorem wrd_and {f g : Nat → Bool} {b : Nat} : iand ((wrd f b 64 : Nat) : Int) ((wrd g b 64 : Nat) : Int) = ((wrd (fun x => f x && g x) b 64 : Nat) : Int) := by
  rw [iand_nat (wrd_lt f 64 b) (wrd_lt g 64 b)]
  refine congrArg (fun n : Nat => (n : Int)) (Nat.eq_of_testBit_eq fun i => ?_)
  rw [Nat.testBit_and, wrd_bit, wrd_bit, wrd_bit]
  cases decide (i < 64) <;> simp
theorem wrd_or {f g : Nat → Bool} {b : Nat} : ior ((wrd f b 64 : Nat) : Int) ((wrd g b 64 : Nat) : Int) = ((wrd (fun x => f x || g x) b 64 : Nat) : Int) := by
  rw [ior_nat (wrd_lt f 64 b) (wrd_lt g 64 b)]
  refine congrArg (fun n : Nat => (n : Int)) (Nat.eq_of_testBit_eq fun i => ?_)
  rw [Nat.testBit_or, wrd_bit, wrd_bit, wrd_bit]
  cases decide (i < 64) <;> simp
theorem wds_at' {f : Nat → Bool} {n k : Nat} (h : k < n) : icut none (wds f n) k = some (U64 (wrd f (64 * k) 64)) := by unfold icut; exact wds_at h
abbrev ZI : List AV := [I64 0, .sl .nil 0 [], .sl .nil 0 [], .sl .nil 0 []]
section
variable {m : GM} {G : Nat → Option (List AV)}
def ir95 : IFn := ⟨9, [⟨4, none⟩], (.seq (.reg [oA 2 (.box 117 (.r 0)), oA 3 (.box 44 (.r 1)), oA 4 (.mov (.k (.sl .nil 0 [])))]) (.seq (.reg [oA 5 (.fadr 0 (.r 2)), oA 6 (.fadr 0 (.r 5)), oL 7 6 none, oT 8 7 (.call 116 [.r 7]), oA 4 (kM 8)]) .ret))⟩
theorem c95 : cfunc Tryd.prog 95 = some ir95 := by kernel_rfl
theorem k95 : okIR (max 2 ir95.n) ir95.ir = true := by decide +kernel
theorem s_ebot (i : Itp) (hi : i.wf) (c : AV) (cs : List AV) (hcc : c.cells = cs) (hk : c.known = true) (j : JH) : JC Tryd.prog G 95 [.agg i.enc, c] j (SETR i j fun _ => false) := by
  obtain ⟨e1, e2, e3⟩ := sz_size hi
  refine JC.flat wds_pur ?_
  refine JC.run hmix c95 (by exact k95) ?_
  (try simp only[↓jr,jw,seval,ji,ext_ext,pid_pid,e1,hcc,hk,ir95])
  refine JCs.ret (s_NewSet (sz i) (by omega) _) ?_
  (try simp only[↓jr,jw,seval,ji,ext_ext,pid_pid,e1,hcc,hk])
  exact JFIN.flat (TokExt.refl _) rfl
def ir94 : IFn := ⟨12, [⟨4, none⟩], (.seq (.reg [oA 2 (.box 117 (.r 0)), oA 3 (.box 44 (.r 1)), oA 4 (.mov (.k (.sl .nil 0 [])))]) (.seq (.draw [oL 5 2 (some 4), oA 6 (.build [.v (.int .i64 0), .v (.int .i64 0), .sl .nil 0 []] []), oA 7 (.call 95 [.r 5, .r 6]), oA 8 (.fadr 0 (.r 2)), oA 9 (.fadr 0 (.r 8)), oL 10 9 none, oA 11 (.call 118 [.r 7, .r 10]), oA 4 (kM 11)] [(5, 2)]) .ret))⟩
theorem c94 : cfunc Tryd.prog 94 = some ir94 := by kernel_rfl
theorem k94 : okIR (max 2 ir94.n) ir94.ir = true := by decide +kernel
theorem s_etop (i : Itp) (hi : i.wf) (c : Con) (j : JH) : JC Tryd.prog G 94 [.agg i.enc, .agg c.enc] j (SETR i j fun x => decide (x < sz i)) := by
  obtain ⟨e1, e2, e3⟩ := sz_size hi
  refine JC.flat wds_pur ?_
  refine JC.run hmix c94 (by exact k94) ?_
  (try simp only[↓jr,jw,seval,ji,ext_ext,pid_pid,e1,ir94])
  refine JDC.use (s_ebot i hi (.agg [I64 0, I64 0, .sl .nil 0 []]) [I64 0, I64 0, .sl .nil 0 []] rfl rfl _) ?_
  (try simp only[↓jr,jw,seval,ji,ext_ext,pid_pid,e1])
  refine JDC.use (s_compl (fun _ => false) (nw (sz i)) _ (sz i) UE (by unfold nw; omega) (by unfold nw; omega) _ (by rw [ext_next, pid_lt]; simp) (ext_get_new rfl)) ?_
  (try simp only[↓jr,jw,seval,ji,ext_ext,pid_pid,e1])
  refine JDRAW.oc (by (try simp only[↓jr,jw,seval,ji,ext_ext,pid_pid,e1,jq,qe2,qe3,ext_next,ext_tnext,pushTok_next,List.length_cons,List.length_nil]) <;> (repeat' (first | exact trivial | refine And.intro ?_ ?_ | exact Nat.le_refl _ | (refine pr_extp ⟨_, rfl⟩ (some_lt ?_)) | (refine pr_extp ⟨_, rfl⟩ (fun _ q => by cases q)) | omega | (unfold pid; omega) | (simp only [pushTok_next, List.length_cons, List.length_nil]; unfold pid; omega)))) ?_; (try simp only[↓jr,jw,seval,ji,ext_ext,pid_pid,e1])
  exact JFIN.flat (TokExt.refl _) (k := 3) rfl
/-- What a role's pairs bring in. -/
def anyF (i : Itp) (n : Int) (q : Nat → Bool) (ps : List (Int × Int)) : Nat → Bool := fun x => ps.any fun p => decide (frP n p = x) && q (toP n p).toNat
theorem anyF_hit {i : Itp} {n : Int} {q : Nat → Bool} {l : List (Int × Int)} {p : Int × Int} {u v : Nat} (h1 : frP n p = u) (h2 : toP n p = v) (h : q v = true) : updF (anyF i n q l) u = anyF i n q (l ++ [p]) := by
  funext x
  simp only [updF, anyF, List.any_append, List.any_cons, List.any_nil, h1, h2, Int.toNat_natCast, h, Bool.and_true, Bool.or_false]
  rw [Bool.or_comm]; congr 1
  by_cases hx : x = u
  · subst hx; simp
  · have : ¬ (u : Int) = (x : Int) := by omega
    simp [hx, this]
theorem anyF_miss {i : Itp} {n : Int} {q : Nat → Bool} {l : List (Int × Int)} {p : Int × Int} {u v : Nat} (h1 : frP n p = u) (h2 : toP n p = v) (h : q v = false) : anyF i n q l = anyF i n q (l ++ [p]) := by
  funext x
  simp only [anyF, List.any_append, List.any_cons, List.any_nil, h1, h2, Int.toNat_natCast, h, Bool.and_false, Bool.or_false]
theorem anyF_nil {i : Itp} {n : Int} {q : Nat → Bool} : anyF i n q [] = fun _ => false := rfl
theorem anyF_lt {i : Itp} (hi : i.wf) {n : Int} {q : Nat → Bool} {l : List (Int × Int)} (hl : l ∈ i.rols) {x : Nat} (h : anyF i n q l x = true) : x < sz i := by
  obtain ⟨e1, _, _⟩ := sz_size hi
  obtain ⟨p, hp, h⟩ := List.any_eq_true.1 h
  obtain ⟨a1, a2, a3, a4⟩ := hi.r l hl p hp
  simp only [Bool.and_eq_true, decide_eq_true_eq] at h
  have h1 := h.1
  unfold frP at h1
  split at h1 <;> omega
def IHof (G : Nat → Option (List AV)) (i : Itp) (c : Con) : Prop := ∀ j, JC Tryd.prog G 70 [.agg i.enc, .agg c.enc] j (SETR i j (semC i c))
theorem nw_le {i : Itp} (h : i.wf) : nw (sz i) ≤ 4 ∧ sz i ≤ 64 * nw (sz i) := by
  have := (sz_size h).2.1; unfold nw; omega
def ir96 : IFn := ⟨15, [⟨4, none⟩], (.seq (.reg [oA 2 (.box 117 (.r 0)), oA 3 (.box 44 (.r 1)), oA 4 (.mov (.k (.sl .nil 0 [])))]) (.seq (.draw [oL 5 2 (some 4), oA 6 (.fadr 2 (.r 3)), oL 7 6 none, oA 8 (.iasl 3 (.r 7) (kI 0)), oL 9 8 (some 3), oA 10 (.call 70 [.r 5, .r 9]), oA 11 (.fadr 0 (.r 2)), oA 12 (.fadr 0 (.r 11)), oL 13 12 none, oA 14 (.call 118 [.r 10, .r 13]), oA 4 (kM 14)] [(8, 5)]) .ret))⟩
theorem c96 : cfunc Tryd.prog 96 = some ir96 := by kernel_rfl
theorem k96 : okIR (max 2 ir96.n) ir96.ir = true := by decide +kernel
theorem s_enot (i : Itp) (hi : i.wf) (n : Int) (c : Con) (ih : IHof G i c) (j : JH) : JC Tryd.prog G 96 [.agg i.enc, .agg (Con.mk 3 n [c]).enc] j (SETR i j (semC i (.mk 3 n [c]))) := by
  obtain ⟨e1, e2, e3⟩ := sz_size hi
  obtain ⟨w1, w2⟩ := nw_le hi
  refine JC.flat wds_pur ?_
  refine JC.run hmix c96 (by exact k96) ?_
  (try simp only[↓jr,jw,seval,ji,ext_ext,pid_pid,e1,ir96])
  refine JDC.use (ih _) ?_
  (try simp only[↓jr,jw,seval,ji,ext_ext,pid_pid,e1])
  refine JDC.use (s_compl (semC i c) (nw (sz i)) _ (sz i) UE w2 (by omega) _ (by rw [ext_next, pid_lt]; simp) (ext_get_new rfl)) ?_
  (try simp only[↓jr,jw,seval,ji,ext_ext,pid_pid,e1])
  refine JDRAW.oc (by (try simp only[↓jr,jw,seval,ji,ext_ext,pid_pid,e1,jq,qe2,qe3,ext_next,ext_tnext,pushTok_next,List.length_cons,List.length_nil]) <;> (repeat' (first | exact trivial | refine And.intro ?_ ?_ | exact Nat.le_refl _ | (refine pr_extp ⟨_, rfl⟩ (some_lt ?_)) | (refine pr_extp ⟨_, rfl⟩ (fun _ q => by cases q)) | omega | (unfold pid; omega) | (simp only [pushTok_next, List.length_cons, List.length_nil]; unfold pid; omega)))) ?_; (try simp only[↓jr,jw,seval,ji,ext_ext,pid_pid,e1])
  have e : (fun x => decide (x < sz i) && !semC i c x) = semC i (.mk 3 n [c]) := by funext x; simp [semC, semH]
  rw [e]
  exact JFIN.flat (TokExt.refl _) (k := 3) rfl
def mixF (op : Bool → Bool → Bool) (f g : Nat → Bool) (k : Nat) : Nat → Bool := fun x => if x / 64 < k then op (f x) (g x) else f x
theorem mixF_zero {op : Bool → Bool → Bool} {f g : Nat → Bool} : mixF op f g 0 = f := by funext x; simp [mixF]
theorem mixF_at {op : Bool → Bool → Bool} {f g : Nat → Bool} {k : Nat} : wrd (mixF op f g k) (64 * k) 64 = wrd f (64 * k) 64 := wrd_congr fun i hi => by unfold mixF; rw [if_neg (by omega)]
theorem mixF_next {op : Bool → Bool → Bool} {f g : Nat → Bool} {k : Nat} : wrd (fun x => op (f x) (g x)) (64 * k) 64 = wrd (mixF op f g (k + 1)) (64 * k) 64 := wrd_congr fun i hi => by unfold mixF; rw [if_pos (by omega)]
theorem mixF_other {op : Bool → Bool → Bool} {f g : Nat → Bool} {k : Nat} : ∀ i, i / 64 ≠ k → mixF op f g (k + 1) i = mixF op f g k i := fun i hi => by
  unfold mixF
  by_cases h : i / 64 < k
  · rw [if_pos h, if_pos (by omega)]
  · rw [if_neg h, if_neg (by omega)]
theorem mixF_all {op : Bool → Bool → Bool} {f g : Nat → Bool} {n : Nat} : wds (mixF op f g n) n = wds (fun x => op (f x) (g x)) n := wds_congr fun i hi => by unfold mixF; rw [if_pos (by omega)]
theorem cutE2 {c d : Con} : icut (some 3) (c.enc ++ d.enc) 3 = some (.agg d.enc) := by
  have := icut_at (row := some 3) (cs := d.enc) (k := 0) c.len
  rw [show 3 = 3 + 0 from rfl, this]; exact icut_all d.len
def ir97 : IFn := ⟨37, [⟨4, none⟩], (.seq (.reg [oA 2 (.box 117 (.r 0)), oA 3 (.box 44 (.r 1)), oA 4 (.mov (.k (.sl .nil 0 [])))]) (.seq (.draw [oL 8 2 (some 4), oA 9 (.fadr 2 (.r 3)), oL 10 9 none, oA 11 (.iasl 3 (.r 10) (kI 0)), oL 12 11 (some 3), oA 13 (.call 70 [.r 8, .r 12]), oL 14 2 (some 4), oA 15 (.fadr 2 (.r 3)), oL 16 15 none, oA 17 (.iasl 3 (.r 16) (kI 1)), oL 18 17 (some 3), oA 19 (.call 70 [.r 14, .r 18]), oA 5 (kM 13), oA 6 (kM 19)] [(6, 5), (8, 5), (10, 5)]) (.seq (.seq (.reg [oA 20 (kM 5), oT 21 20 (.lenl (.r 20)), oA 22 (.mov (kI 0))]) (.block 0 (.loop (.seq (.reg [oA 23 (.bin .lss (.r 22) (.r 21))]) (.seq (.cond (.r 23) .skip (.exit 0)) (.seq (.block 1 (.seq (.reg [oA 24 (kM 22), oA 7 (kM 24)]) (.draw [oA 25 (kM 5), oA 26 (kM 7), oA 27 (.iasl 1 (.r 25) (.r 26)), oL 28 27 none, oA 29 (kM 6), oA 30 (kM 7), oA 31 (.iasl 1 (.r 29) (.r 30)), oL 32 31 none, oA 33 (.bin .and (.r 28) (.r 32)), oA 34 (.iasl 1 (.r 25) (.r 26)), oN (.store 1 (.r 34) (.r 33))] []))) (.reg [oA 35 (.bin .add (.r 22) (kI 1)), oA 22 (kM 35)]))))))) (.seq (.reg [oA 36 (kM 5), oA 4 (kM 36)]) .ret))))⟩
theorem c97 : cfunc Tryd.prog 97 = some ir97 := by kernel_rfl
theorem k97 : okIR (max 2 ir97.n) ir97.ir = true := by decide +kernel
theorem s_eand (i : Itp) (hi : i.wf) (n : Int) (c d : Con) (ih : IHof G i c) (ih2 : IHof G i d) (j : JH) : JC Tryd.prog G 97 [.agg i.enc, .agg (Con.mk 4 n [c, d]).enc] j (SETR i j (semC i (.mk 4 n [c, d]))) := by
  obtain ⟨e1, e2, e3⟩ := sz_size hi
  obtain ⟨w1, w2⟩ := nw_le hi
  refine JC.flat wds_pur ?_
  refine JC.run hmix c97 (by exact k97) ?_
  (try simp only[↓jr,jw,seval,ji,ext_ext,pid_pid,e1,cutE2,ir97])
  refine JDC.use (ih _) ?_
  (try simp only[↓jr,jw,seval,ji,ext_ext,pid_pid,e1,cutE2])
  refine JDC.use (ih2 _) ?_
  (try simp only[↓jr,jw,seval,ji,ext_ext,pid_pid,e1,cutE2])
  refine JDRAW.oc (by (try simp only[↓jr,jw,seval,ji,ext_ext,pid_pid,e1,cutE2,jq,qe2,qe3,ext_next,ext_tnext,pushTok_next,List.length_cons,List.length_nil]) <;> (repeat' (first | exact trivial | refine And.intro ?_ ?_ | exact Nat.le_refl _ | (refine pr_extp ⟨_, rfl⟩ (some_lt ?_)) | (refine pr_extp ⟨_, rfl⟩ (fun _ q => by cases q)) | omega | (unfold pid; omega) | (simp only [pushTok_next, List.length_cons, List.length_nil]; unfold pid; omega)))) ?_; (try simp only[↓jr,jw,seval,ji,ext_ext,pid_pid,e1,cutE2])
  refine JLOOP.of (σ := Nat) (fun k => k ≤ nw (sz i)) (fun k => nw (sz i) - k)
    (fun k => [(22, I64 k), (21, I64 (nw (sz i))), (5, .arr (pid j.next 2) 0 (nw (sz i))), (6, .arr (pid j.next 3) 0 (nw (sz i)))])
    (fun k => ext j [.cells 117 i.enc, .cells 44 (Con.mk 4 n [c, d]).enc, .cells UE (wds (mixF and (semC i c) (semC i d) k) (nw (sz i))), .cells UE (wds (semC i d) (nw (sz i)))]) 0 (Nat.zero_le _) ?_ ?_ ?_
  · (try simp only[↓jr,jw,seval,ji,ext_ext,pid_pid,e1,cutE2,DL])
    exact ⟨SubB.v, SubB.v, SubB.arr (by unfold pid; omega), SubB.arr (by unfold pid; omega)⟩
  · rw [mixF_zero]; exact JDropH.refl _
  intro k hk
  (try simp only[↓jr,jw,seval,ji,ext_ext,pid_pid,e1,cutE2])
  refine wq.intro (fun g1 => ?_) (fun g1 => ?_)
  · have hlt : k < nw (sz i) := by omega
    have h1 : icut none (wds (mixF and (semC i c) (semC i d) k) (nw (sz i))) k = some (U64 (wrd (semC i c) (64 * k) 64)) := by rw [wds_at' hlt, mixF_at]
    have h2 : icut none (wds (semC i d) (nw (sz i))) k = some (U64 (wrd (semC i d) (64 * k) 64)) := wds_at' hlt
    (try simp only[↓jr,jw,seval,ji,ext_ext,pid_pid,e1,cutE2,h1,h2])
    refine wc.intro (by omega) ?_
    (try simp only[↓jr,jw,seval,ji,ext_ext,pid_pid,e1,cutE2,h1,h2])
    refine wc.intro (by omega) ?_
    (try simp only[↓jr,jw,seval,ji,ext_ext,pid_pid,e1,cutE2,h1,h2])
    refine wc.intro (by omega) ?_
    (try simp only[↓jr,jw,seval,ji,ext_ext,pid_pid,e1,cutE2,h1,h2])
    rw [wrd_and]
    refine wc.intro (by rw [wds_len]; omega) ?_
    rw [show (U64 ((wrd (fun x => semC i c x && semC i d x) (64 * k) 64 : Nat) : Int)).cells = [U64 (wrd (mixF and (semC i c) (semC i d) (k + 1)) (64 * k) 64)] from by rw [← mixF_next]; rfl, wds_splice hlt mixF_other]
    (try simp only[↓jr,jw,seval,ji,ext_ext,pid_pid,e1,cutE2])
    refine JDRAW.oc (by (try simp only[↓jr,jw,seval,ji,ext_ext,pid_pid,e1,cutE2,jq,qe2,qe3,ext_next,ext_tnext,pushTok_next,List.length_cons,List.length_nil]) <;> (repeat' (first | exact trivial | refine And.intro ?_ ?_ | exact Nat.le_refl _ | (refine pr_extp ⟨_, rfl⟩ (some_lt ?_)) | (refine pr_extp ⟨_, rfl⟩ (fun _ q => by cases q)) | omega | (unfold pid; omega) | (simp only [pushTok_next, List.length_cons, List.length_nil]; unfold pid; omega)))) ?_; (try simp only[↓jr,jw,seval,ji,ext_ext,pid_pid,e1,cutE2])
    refine wc.intro (by unfold R64; omega) ?_
    (try simp only[↓jr,jw,seval,ji,ext_ext,pid_pid,e1,cutE2])
    refine JNEXT.of (k + 1) (by omega) (by omega) ?_ (JDropH.next0 (TokExt.refl _) ⟨.inl ⟨rfl, rfl⟩, .inl ⟨rfl, rfl⟩, .inr (OSub.pure wds_pur), .inl ⟨rfl, rfl⟩, True.intro⟩)
    (try simp only[↓jr,jw,seval,ji,ext_ext,pid_pid,e1,cutE2,DL])
    exact ⟨SubB.v, SubB.v, SubB.arr (by unfold pid; omega), SubB.arr (by unfold pid; omega)⟩
  · (try simp only[↓jr,jw,seval,ji,ext_ext,pid_pid,e1,cutE2])
    have ek : k = nw (sz i) := by omega
    subst ek
    rw [mixF_all]
    have e : (fun x => and (semC i c x) (semC i d x)) = semC i (.mk 4 n [c, d]) := by
      funext x
      have l1 := @semC_lt i c x
      have l2 := @semC_lt i d x
      simp only [semC, semH, semT]
      cases h1 : semC i c x <;> cases h2 : semC i d x <;> simp_all
    rw [e]
    exact JFIN.flat (TokExt.refl _) (k := 2) rfl
def ir98 : IFn := ⟨37, [⟨4, none⟩], (.seq (.reg [oA 2 (.box 117 (.r 0)), oA 3 (.box 44 (.r 1)), oA 4 (.mov (.k (.sl .nil 0 [])))]) (.seq (.draw [oL 8 2 (some 4), oA 9 (.fadr 2 (.r 3)), oL 10 9 none, oA 11 (.iasl 3 (.r 10) (kI 0)), oL 12 11 (some 3), oA 13 (.call 70 [.r 8, .r 12]), oL 14 2 (some 4), oA 15 (.fadr 2 (.r 3)), oL 16 15 none, oA 17 (.iasl 3 (.r 16) (kI 1)), oL 18 17 (some 3), oA 19 (.call 70 [.r 14, .r 18]), oA 5 (kM 13), oA 6 (kM 19)] [(6, 5), (8, 5), (10, 5)]) (.seq (.seq (.reg [oA 20 (kM 5), oT 21 20 (.lenl (.r 20)), oA 22 (.mov (kI 0))]) (.block 0 (.loop (.seq (.reg [oA 23 (.bin .lss (.r 22) (.r 21))]) (.seq (.cond (.r 23) .skip (.exit 0)) (.seq (.block 1 (.seq (.reg [oA 24 (kM 22), oA 7 (kM 24)]) (.draw [oA 25 (kM 5), oA 26 (kM 7), oA 27 (.iasl 1 (.r 25) (.r 26)), oL 28 27 none, oA 29 (kM 6), oA 30 (kM 7), oA 31 (.iasl 1 (.r 29) (.r 30)), oL 32 31 none, oA 33 (.bin .or (.r 28) (.r 32)), oA 34 (.iasl 1 (.r 25) (.r 26)), oN (.store 1 (.r 34) (.r 33))] []))) (.reg [oA 35 (.bin .add (.r 22) (kI 1)), oA 22 (kM 35)]))))))) (.seq (.reg [oA 36 (kM 5), oA 4 (kM 36)]) .ret))))⟩
theorem c98 : cfunc Tryd.prog 98 = some ir98 := by kernel_rfl
theorem k98 : okIR (max 2 ir98.n) ir98.ir = true := by decide +kernel
theorem s_eor (i : Itp) (hi : i.wf) (n : Int) (c d : Con) (ih : IHof G i c) (ih2 : IHof G i d) (j : JH) : JC Tryd.prog G 98 [.agg i.enc, .agg (Con.mk 5 n [c, d]).enc] j (SETR i j (semC i (.mk 5 n [c, d]))) := by
  obtain ⟨e1, e2, e3⟩ := sz_size hi
  obtain ⟨w1, w2⟩ := nw_le hi
  refine JC.flat wds_pur ?_
  refine JC.run hmix c98 (by exact k98) ?_
  (try simp only[↓jr,jw,seval,ji,ext_ext,pid_pid,e1,cutE2,ir98])
  refine JDC.use (ih _) ?_
  (try simp only[↓jr,jw,seval,ji,ext_ext,pid_pid,e1,cutE2])
  refine JDC.use (ih2 _) ?_
  (try simp only[↓jr,jw,seval,ji,ext_ext,pid_pid,e1,cutE2])
  refine JDRAW.oc (by (try simp only[↓jr,jw,seval,ji,ext_ext,pid_pid,e1,cutE2,jq,qe2,qe3,ext_next,ext_tnext,pushTok_next,List.length_cons,List.length_nil]) <;> (repeat' (first | exact trivial | refine And.intro ?_ ?_ | exact Nat.le_refl _ | (refine pr_extp ⟨_, rfl⟩ (some_lt ?_)) | (refine pr_extp ⟨_, rfl⟩ (fun _ q => by cases q)) | omega | (unfold pid; omega) | (simp only [pushTok_next, List.length_cons, List.length_nil]; unfold pid; omega)))) ?_; (try simp only[↓jr,jw,seval,ji,ext_ext,pid_pid,e1,cutE2])
  refine JLOOP.of (σ := Nat) (fun k => k ≤ nw (sz i)) (fun k => nw (sz i) - k)
    (fun k => [(22, I64 k), (21, I64 (nw (sz i))), (5, .arr (pid j.next 2) 0 (nw (sz i))), (6, .arr (pid j.next 3) 0 (nw (sz i)))])
    (fun k => ext j [.cells 117 i.enc, .cells 44 (Con.mk 5 n [c, d]).enc, .cells UE (wds (mixF or (semC i c) (semC i d) k) (nw (sz i))), .cells UE (wds (semC i d) (nw (sz i)))]) 0 (Nat.zero_le _) ?_ ?_ ?_
  · (try simp only[↓jr,jw,seval,ji,ext_ext,pid_pid,e1,cutE2,DL])
    exact ⟨SubB.v, SubB.v, SubB.arr (by unfold pid; omega), SubB.arr (by unfold pid; omega)⟩
  · rw [mixF_zero]; exact JDropH.refl _
  intro k hk
  (try simp only[↓jr,jw,seval,ji,ext_ext,pid_pid,e1,cutE2])
  refine wq.intro (fun g1 => ?_) (fun g1 => ?_)
  · have hlt : k < nw (sz i) := by omega
    have h1 : icut none (wds (mixF or (semC i c) (semC i d) k) (nw (sz i))) k = some (U64 (wrd (semC i c) (64 * k) 64)) := by rw [wds_at' hlt, mixF_at]
    have h2 : icut none (wds (semC i d) (nw (sz i))) k = some (U64 (wrd (semC i d) (64 * k) 64)) := wds_at' hlt
    (try simp only[↓jr,jw,seval,ji,ext_ext,pid_pid,e1,cutE2,h1,h2])
    refine wc.intro (by omega) ?_
    (try simp only[↓jr,jw,seval,ji,ext_ext,pid_pid,e1,cutE2,h1,h2])
    refine wc.intro (by omega) ?_
    (try simp only[↓jr,jw,seval,ji,ext_ext,pid_pid,e1,cutE2,h1,h2])
    refine wc.intro (by omega) ?_
    (try simp only[↓jr,jw,seval,ji,ext_ext,pid_pid,e1,cutE2,h1,h2])
    rw [wrd_or]
    refine wc.intro (by rw [wds_len]; omega) ?_
    rw [show (U64 ((wrd (fun x => semC i c x || semC i d x) (64 * k) 64 : Nat) : Int)).cells = [U64 (wrd (mixF or (semC i c) (semC i d) (k + 1)) (64 * k) 64)] from by rw [← mixF_next]; rfl, wds_splice hlt mixF_other]
    (try simp only[↓jr,jw,seval,ji,ext_ext,pid_pid,e1,cutE2])
    refine JDRAW.oc (by (try simp only[↓jr,jw,seval,ji,ext_ext,pid_pid,e1,cutE2,jq,qe2,qe3,ext_next,ext_tnext,pushTok_next,List.length_cons,List.length_nil]) <;> (repeat' (first | exact trivial | refine And.intro ?_ ?_ | exact Nat.le_refl _ | (refine pr_extp ⟨_, rfl⟩ (some_lt ?_)) | (refine pr_extp ⟨_, rfl⟩ (fun _ q => by cases q)) | omega | (unfold pid; omega) | (simp only [pushTok_next, List.length_cons, List.length_nil]; unfold pid; omega)))) ?_; (try simp only[↓jr,jw,seval,ji,ext_ext,pid_pid,e1,cutE2])
    refine wc.intro (by unfold R64; omega) ?_
    (try simp only[↓jr,jw,seval,ji,ext_ext,pid_pid,e1,cutE2])
    refine JNEXT.of (k + 1) (by omega) (by omega) ?_ (JDropH.next0 (TokExt.refl _) ⟨.inl ⟨rfl, rfl⟩, .inl ⟨rfl, rfl⟩, .inr (OSub.pure wds_pur), .inl ⟨rfl, rfl⟩, True.intro⟩)
    (try simp only[↓jr,jw,seval,ji,ext_ext,pid_pid,e1,cutE2,DL])
    exact ⟨SubB.v, SubB.v, SubB.arr (by unfold pid; omega), SubB.arr (by unfold pid; omega)⟩
  · (try simp only[↓jr,jw,seval,ji,ext_ext,pid_pid,e1,cutE2])
    have ek : k = nw (sz i) := by omega
    subst ek
    rw [mixF_all]
    have e : (fun x => or (semC i c x) (semC i d x)) = semC i (.mk 5 n [c, d]) := by
      funext x
      have l1 := @semC_lt i c x
      have l2 := @semC_lt i d x
      simp only [semC, semH, semT]
      cases h1 : semC i c x <;> cases h2 : semC i d x <;> simp_all
    rw [e]
    exact JFIN.flat (TokExt.refl _) (k := 2) rfl
def ir99 : IFn := ⟨53, [⟨4, none⟩], (.seq (.reg [oA 2 (.box 117 (.r 0)), oA 3 (.box 44 (.r 1)), oA 4 (.mov (.k (.sl .nil 0 [])))]) (.seq (.draw [oL 11 2 (some 4), oA 12 (.fadr 2 (.r 3)), oL 13 12 none, oA 14 (.iasl 3 (.r 13) (kI 0)), oL 15 14 (some 3), oA 16 (.call 70 [.r 11, .r 15]), oA 17 (.fadr 0 (.r 2)), oA 18 (.fadr 0 (.r 17)), oL 19 18 none, oT 20 19 (.call 116 [.r 19]), oA 5 (kM 16), oA 6 (kM 20)] [(8, 5)]) (.seq (.seq (.reg [oA 21 (.fadr 0 (.r 2)), oA 22 (.fadr 2 (.r 21)), oL 23 22 none, oA 24 (.fadr 1 (.r 3)), oL 25 24 none, oA 26 (.bin .quo (.r 25) (kI 2)), oA 27 (.iasl 1 (.r 23) (.r 26)), oL 28 27 none, oT 29 28 (.lenl (.r 28)), oA 30 (.mov (kI 0))]) (.block 0 (.loop (.seq (.reg [oA 31 (.bin .lss (.r 30) (.r 29))]) (.seq (.cond (.r 31) .skip (.exit 0)) (.seq (.block 1 (.seq (.reg [oA 32 (.iasl 2 (.r 28) (.r 30)), oL 33 32 (some 2), oA 8 (.alloc 58 [.v (.int .i64 0), .v (.int .i64 0)]), oN (.store 2 (.r 8) (.r 33))]) (.seq (.draw [oA 34 (.fadr 1 (.r 3)), oL 35 34 none, oA 36 (.bin .rem (.r 35) (kI 2)), oA 37 (.iaar 2 1 (.r 8) (.r 36)), oL 38 37 none, oA 39 (.fadr 1 (.r 3)), oL 40 39 none, oA 41 (.bin .rem (.r 40) (kI 2)), oA 42 (.bin .sub (kI 1) (.r 41)), oA 43 (.iaar 2 1 (.r 8) (.r 42)), oL 44 43 none, oA 9 (kM 38), oA 10 (kM 44)] []) (.seq (.reg [oA 45 (kM 5), oA 46 (kM 10), oA 47 (.call 80 [.r 45, .r 46])]) (.cond (.r 47) (.reg [oA 48 (kM 6), oA 49 (kM 9), oA 50 (.call 117 [.r 48, .r 49])]) .skip))))) (.reg [oA 51 (.bin .add (.r 30) (kI 1)), oA 30 (kM 51)]))))))) (.seq (.reg [oA 52 (kM 6), oA 4 (kM 52)]) .ret))))⟩
theorem c99 : cfunc Tryd.prog 99 = some ir99 := by kernel_rfl
theorem k99 : okIR (max 2 ir99.n) ir99.ir = true := by decide +kernel
theorem s_esome (i : Itp) (hi : i.wf) (hk : i.ok) (n : Int) (h0 : 0 ≤ n) (h1 : n < 2 * i.rols.length) (c : Con) (ih : IHof G i c) (j : JH) : JC Tryd.prog G 99 [.agg i.enc, .agg (Con.mk 6 n [c]).enc] j (SETR i j (semC i (.mk 6 n [c]))) := by
  obtain ⟨e1, e2, e3⟩ := sz_size hi
  obtain ⟨w1, w2⟩ := nw_le hi
  have hk1 := hk.r1
  have hq : n.tdiv 2 = n / 2 := Int.tdiv_eq_ediv_of_nonneg h0
  have hlt0 : (n.tdiv 2).toNat < i.rols.length := by rw [hq]; omega
  obtain ⟨ps, rr, hr⟩ : ∃ c_ l_, List.drop (n.tdiv 2).toNat i.rols = c_ :: l_ := ⟨_, _, List.drop_eq_getElem_cons hlt0⟩
  have hps : rolI i n = ps := by unfold rolI; rw [← List.head?_drop, hr]; rfl
  have hmp : ps ∈ i.rols := List.mem_of_mem_drop (hr ▸ List.mem_cons_self)
  have hpl := (hk.r2 ps hmp).1
  have hpr := hi.r ps hmp
  have hmod : n.tmod 2 = 0 ∨ n.tmod 2 = 1 := by rw [Int.tmod_eq_emod_of_nonneg h0]; omega
  refine JC.flat wds_pur ?_
  refine JC.run hmix c99 (by exact k99) ?_
  (try simp only[↓jr,jw,seval,ji,ext_ext,pid_pid,e1,hr,ir99])
  refine JDC.use (ih _) ?_
  (try simp only[↓jr,jw,seval,ji,ext_ext,pid_pid,e1,hr])
  refine JDC.use (s_NewSet (sz i) (by omega) _) ?_
  (try simp only[↓jr,jw,seval,ji,ext_ext,pid_pid,e1,hr])
  refine JDRAW.oc (by (try simp only[↓jr,jw,seval,ji,ext_ext,pid_pid,e1,hr,jq,qe2,qe3,ext_next,ext_tnext,pushTok_next,List.length_cons,List.length_nil]) <;> (repeat' (first | exact trivial | refine And.intro ?_ ?_ | exact Nat.le_refl _ | (refine pr_extp ⟨_, rfl⟩ (some_lt ?_)) | (refine pr_extp ⟨_, rfl⟩ (fun _ q => by cases q)) | omega | (unfold pid; omega) | (simp only [pushTok_next, List.length_cons, List.length_nil]; unfold pid; omega)))) ?_; (try simp only[↓jr,jw,seval,ji,ext_ext,pid_pid,e1,hr])
  refine wc.intro (by rw [hq]; unfold R64; omega) ?_
  (try simp only[↓jr,jw,seval,ji,ext_ext,pid_pid,e1,hr])
  refine wc.intro ⟨by rw [hq]; omega, by rw [hq]; omega, by omega⟩ ?_
  (try simp only[↓jr,jw,seval,ji,ext_ext,pid_pid,e1,hr])
  refine JLOOP.of (σ := Nat) (fun k => k ≤ ps.length) (fun k => ps.length - k)
    (fun k => [(30, I64 k), (29, I64 ps.length), (28, .sl .none ps.length (encs PR ps)), (5, .arr (pid j.next 2) 0 (nw (sz i))), (6, .arr (pid j.next 3) 0 (nw (sz i))), (3, .ptr (pid j.next 1) 0), (2, .ptr (pid j.next 0) 0)])
    (fun k => ext j [.cells 117 i.enc, .cells 44 (Con.mk 6 n [c]).enc, .cells UE (wds (semC i c) (nw (sz i))), .cells UE (wds (anyF i n (semC i c) (ps.take k)) (nw (sz i)))]) 0 (Nat.zero_le _) ?_ ?_ ?_
  · (try simp only[↓jr,jw,seval,ji,ext_ext,pid_pid,e1,hr,DL])
    exact ⟨SubB.v, SubB.v, SubB.sl rfl (SubBs.pure (PR.pur _)), SubB.arr (by unfold pid; omega), SubB.arr (by unfold pid; omega), SubB.ptr (by unfold pid; omega), SubB.ptr (by unfold pid; omega)⟩
  · rw [List.take_zero, anyF_nil]; exact JDropH.refl _
  intro k hkk
  (try simp only[↓jr,jw,seval,ji,ext_ext,pid_pid,e1,hr])
  refine wq.intro (fun g1 => ?_) (fun g1 => ?_)
  · have hlt : k < (ps).length := by omega
    obtain ⟨p, pr, hd⟩ : ∃ c_ l_, List.drop k (ps) = c_ :: l_ := ⟨_, _, List.drop_eq_getElem_cons hlt⟩
    have hd1 : List.drop (k + 1) (ps) = pr := by rw [← List.drop_drop, hd]; rfl
    have hmem : p ∈ ps := List.mem_of_mem_drop (hd ▸ List.mem_cons_self)
    have htk : ps.take (k + 1) = ps.take k ++ [p] := by
      have : ps[k]? = some p := by rw [← List.head?_drop, hd]; rfl
      rw [List.take_add_one, this]; rfl
    obtain ⟨q1, q2, q3, q4⟩ := hpr p hmem
    (try simp only[↓jr,jw,seval,ji,ext_ext,pid_pid,e1,hr,hd])
    refine wc.intro (by omega) ?_
    obtain ⟨p1, p2⟩ := p
    obtain ⟨u, rfl⟩ : ∃ u : Nat, p1 = u := ⟨p1.toNat, by simp only at q1; omega⟩
    obtain ⟨v, rfl⟩ : ∃ v : Nat, p2 = v := ⟨p2.toNat, by simp only at q3; omega⟩
    simp only at q1 q2 q3 q4
    rcases hmod with hm | hm
    · have f1 : frP n ((u : Int), (v : Int)) = u := by unfold frP; rw [if_pos hm]
      have f2 : toP n ((u : Int), (v : Int)) = v := by unfold toP; rw [if_pos hm]
      (try simp only[↓jr,jw,seval,ji,ext_ext,pid_pid,e1,hr,hd,hm])
      refine wc.intro (by unfold R64; omega) ?_
      (try simp only[↓jr,jw,seval,ji,ext_ext,pid_pid,e1,hr,hd,hm])
      refine JDRAW.oc (by (try simp only[↓jr,jw,seval,ji,ext_ext,pid_pid,e1,hr,jq,qe2,qe3,ext_next,ext_tnext,pushTok_next,List.length_cons,List.length_nil]) <;> (repeat' (first | exact trivial | refine And.intro ?_ ?_ | exact Nat.le_refl _ | (refine pr_extp ⟨_, rfl⟩ (some_lt ?_)) | (refine pr_extp ⟨_, rfl⟩ (fun _ q => by cases q)) | omega | (unfold pid; omega) | (simp only [pushTok_next, List.length_cons, List.length_nil]; unfold pid; omega)))) ?_; (try simp only[↓jr,jw,seval,ji,ext_ext,pid_pid,e1,hr])
      refine JCs.ret (s_Has (semC i c) (nw (sz i)) _ v UE (by omega) (by omega) _ (by rw [ext_next, pid_lt]; simp) (ext_get_new rfl)) ?_
      (try simp only[↓jr,jw,seval,ji,ext_ext,pid_pid,e1,hr])
      refine ww.intro (fun g2 => ?_) (fun g2 => ?_)
      · (try simp only[↓jr,jw,seval,ji,ext_ext,pid_pid,e1,hr])
        refine JCs.ret (s_Add (anyF i n (semC i c) (ps.take k)) (nw (sz i)) _ u UE (by omega) (by omega) _ (by rw [ext_next, pid_lt]; simp) (ext_get_new rfl)) ?_
        rw [anyF_hit f1 f2 g2, ← htk]
        (try simp only[↓jr,jw,seval,ji,ext_ext,pid_pid,e1,hr])
        refine wc.intro (by unfold R64; omega) ?_
        (try simp only[↓jr,jw,seval,ji,ext_ext,pid_pid,e1,hr])
        refine JNEXT.of (k + 1) (by omega) (by omega) ?_ (JDropH.next0 (TokExt.refl _) ⟨.inl ⟨rfl, rfl⟩, .inl ⟨rfl, rfl⟩, .inl ⟨rfl, rfl⟩, .inr (OSub.pure wds_pur), True.intro⟩)
        (try simp only[↓jr,jw,seval,ji,ext_ext,pid_pid,e1,hr,DL])
        exact ⟨SubB.v, SubB.v, SubB.sl rfl (SubBs.pure (PR.pur _)), SubB.arr (by unfold pid; omega), SubB.arr (by unfold pid; omega), SubB.ptr (by unfold pid; omega), SubB.ptr (by unfold pid; omega)⟩
      · rw [anyF_miss f1 f2 (by simpa using g2), ← htk]
        (try simp only[↓jr,jw,seval,ji,ext_ext,pid_pid,e1,hr])
        refine wc.intro (by unfold R64; omega) ?_
        (try simp only[↓jr,jw,seval,ji,ext_ext,pid_pid,e1,hr])
        refine JNEXT.of (k + 1) (by omega) (by omega) ?_ (JDropH.next0 (TokExt.refl _) ⟨.inl ⟨rfl, rfl⟩, .inl ⟨rfl, rfl⟩, .inl ⟨rfl, rfl⟩, .inl ⟨rfl, rfl⟩, True.intro⟩)
        (try simp only[↓jr,jw,seval,ji,ext_ext,pid_pid,e1,hr,DL])
        exact ⟨SubB.v, SubB.v, SubB.sl rfl (SubBs.pure (PR.pur _)), SubB.arr (by unfold pid; omega), SubB.arr (by unfold pid; omega), SubB.ptr (by unfold pid; omega), SubB.ptr (by unfold pid; omega)⟩
    · have f1 : frP n ((u : Int), (v : Int)) = v := by unfold frP; rw [if_neg (by omega)]
      have f2 : toP n ((u : Int), (v : Int)) = u := by unfold toP; rw [if_neg (by omega)]
      (try simp only[↓jr,jw,seval,ji,ext_ext,pid_pid,e1,hr,hd,hm])
      refine wc.intro (by unfold R64; omega) ?_
      (try simp only[↓jr,jw,seval,ji,ext_ext,pid_pid,e1,hr,hd,hm])
      refine JDRAW.oc (by (try simp only[↓jr,jw,seval,ji,ext_ext,pid_pid,e1,hr,jq,qe2,qe3,ext_next,ext_tnext,pushTok_next,List.length_cons,List.length_nil]) <;> (repeat' (first | exact trivial | refine And.intro ?_ ?_ | exact Nat.le_refl _ | (refine pr_extp ⟨_, rfl⟩ (some_lt ?_)) | (refine pr_extp ⟨_, rfl⟩ (fun _ q => by cases q)) | omega | (unfold pid; omega) | (simp only [pushTok_next, List.length_cons, List.length_nil]; unfold pid; omega)))) ?_; (try simp only[↓jr,jw,seval,ji,ext_ext,pid_pid,e1,hr])
      refine JCs.ret (s_Has (semC i c) (nw (sz i)) _ u UE (by omega) (by omega) _ (by rw [ext_next, pid_lt]; simp) (ext_get_new rfl)) ?_
      (try simp only[↓jr,jw,seval,ji,ext_ext,pid_pid,e1,hr])
      refine ww.intro (fun g2 => ?_) (fun g2 => ?_)
      · (try simp only[↓jr,jw,seval,ji,ext_ext,pid_pid,e1,hr])
        refine JCs.ret (s_Add (anyF i n (semC i c) (ps.take k)) (nw (sz i)) _ v UE (by omega) (by omega) _ (by rw [ext_next, pid_lt]; simp) (ext_get_new rfl)) ?_
        rw [anyF_hit f1 f2 g2, ← htk]
        (try simp only[↓jr,jw,seval,ji,ext_ext,pid_pid,e1,hr])
        refine wc.intro (by unfold R64; omega) ?_
        (try simp only[↓jr,jw,seval,ji,ext_ext,pid_pid,e1,hr])
        refine JNEXT.of (k + 1) (by omega) (by omega) ?_ (JDropH.next0 (TokExt.refl _) ⟨.inl ⟨rfl, rfl⟩, .inl ⟨rfl, rfl⟩, .inl ⟨rfl, rfl⟩, .inr (OSub.pure wds_pur), True.intro⟩)
        (try simp only[↓jr,jw,seval,ji,ext_ext,pid_pid,e1,hr,DL])
        exact ⟨SubB.v, SubB.v, SubB.sl rfl (SubBs.pure (PR.pur _)), SubB.arr (by unfold pid; omega), SubB.arr (by unfold pid; omega), SubB.ptr (by unfold pid; omega), SubB.ptr (by unfold pid; omega)⟩
      · rw [anyF_miss f1 f2 (by simpa using g2), ← htk]
        (try simp only[↓jr,jw,seval,ji,ext_ext,pid_pid,e1,hr])
        refine wc.intro (by unfold R64; omega) ?_
        (try simp only[↓jr,jw,seval,ji,ext_ext,pid_pid,e1,hr])
        refine JNEXT.of (k + 1) (by omega) (by omega) ?_ (JDropH.next0 (TokExt.refl _) ⟨.inl ⟨rfl, rfl⟩, .inl ⟨rfl, rfl⟩, .inl ⟨rfl, rfl⟩, .inl ⟨rfl, rfl⟩, True.intro⟩)
        (try simp only[↓jr,jw,seval,ji,ext_ext,pid_pid,e1,hr,DL])
        exact ⟨SubB.v, SubB.v, SubB.sl rfl (SubBs.pure (PR.pur _)), SubB.arr (by unfold pid; omega), SubB.arr (by unfold pid; omega), SubB.ptr (by unfold pid; omega), SubB.ptr (by unfold pid; omega)⟩
  · (try simp only[↓jr,jw,seval,ji,ext_ext,pid_pid,e1,hr])
    have ek : k = ps.length := by omega
    subst ek
    rw [List.take_length]
    have e : anyF i n (semC i c) ps = semC i (.mk 6 n [c]) := by
      funext x
      have hl := @anyF_lt i hi n (semC i c) ps hmp x
      have e2 : semC i (.mk 6 n [c]) x = (decide (x < sz i) && anyF i n (semC i c) ps x) := by simp [semC, semH, hps, anyF]
      rw [e2]
      cases h : anyF i n (semC i c) ps x
      · simp
      · simp [hl h]
    rw [e]
    exact JFIN.flat (TokExt.refl _) (k := 3) rfl
def ir100 : IFn := ⟨58, [⟨4, none⟩], (.seq (.reg [oA 2 (.box 117 (.r 0)), oA 3 (.box 44 (.r 1)), oA 4 (.mov (.k (.sl .nil 0 [])))]) (.seq (.draw [oL 11 2 (some 4), oA 12 (.fadr 2 (.r 3)), oL 13 12 none, oA 14 (.iasl 3 (.r 13) (kI 0)), oL 15 14 (some 3), oA 16 (.call 70 [.r 11, .r 15]), oA 17 (.fadr 0 (.r 2)), oA 18 (.fadr 0 (.r 17)), oL 19 18 none, oT 20 19 (.call 116 [.r 19]), oA 5 (kM 16), oA 6 (kM 20)] [(8, 5)]) (.seq (.seq (.reg [oA 21 (.fadr 0 (.r 2)), oA 22 (.fadr 2 (.r 21)), oL 23 22 none, oA 24 (.fadr 1 (.r 3)), oL 25 24 none, oA 26 (.bin .quo (.r 25) (kI 2)), oA 27 (.iasl 1 (.r 23) (.r 26)), oL 28 27 none, oT 29 28 (.lenl (.r 28)), oA 30 (.mov (kI 0))]) (.block 0 (.loop (.seq (.reg [oA 31 (.bin .lss (.r 30) (.r 29))]) (.seq (.cond (.r 31) .skip (.exit 0)) (.seq (.block 1 (.seq (.reg [oA 32 (.iasl 2 (.r 28) (.r 30)), oL 33 32 (some 2), oA 8 (.alloc 58 [.v (.int .i64 0), .v (.int .i64 0)]), oN (.store 2 (.r 8) (.r 33))]) (.seq (.draw [oA 34 (.fadr 1 (.r 3)), oL 35 34 none, oA 36 (.bin .rem (.r 35) (kI 2)), oA 37 (.iaar 2 1 (.r 8) (.r 36)), oL 38 37 none, oA 39 (.fadr 1 (.r 3)), oL 40 39 none, oA 41 (.bin .rem (.r 40) (kI 2)), oA 42 (.bin .sub (kI 1) (.r 41)), oA 43 (.iaar 2 1 (.r 8) (.r 42)), oL 44 43 none, oA 9 (kM 38), oA 10 (kM 44)] []) (.seq (.reg [oA 45 (kM 5), oA 46 (kM 10), oA 47 (.call 80 [.r 45, .r 46]), oA 48 (.not (.r 47))]) (.cond (.r 48) (.reg [oA 49 (kM 6), oA 50 (kM 9), oA 51 (.call 117 [.r 49, .r 50])]) .skip))))) (.reg [oA 52 (.bin .add (.r 30) (kI 1)), oA 30 (kM 52)]))))))) (.seq (.reg [oA 53 (kM 6), oA 54 (.fadr 0 (.r 2)), oA 55 (.fadr 0 (.r 54)), oL 56 55 none, oA 57 (.call 118 [.r 53, .r 56]), oA 4 (kM 57)]) .ret))))⟩
theorem c100 : cfunc Tryd.prog 100 = some ir100 := by kernel_rfl
theorem k100 : okIR (max 2 ir100.n) ir100.ir = true := by decide +kernel
theorem s_eall (i : Itp) (hi : i.wf) (hk : i.ok) (n : Int) (h0 : 0 ≤ n) (h1 : n < 2 * i.rols.length) (c : Con) (ih : IHof G i c) (j : JH) : JC Tryd.prog G 100 [.agg i.enc, .agg (Con.mk 7 n [c]).enc] j (SETR i j (semC i (.mk 7 n [c]))) := by
  obtain ⟨e1, e2, e3⟩ := sz_size hi
  obtain ⟨w1, w2⟩ := nw_le hi
  have hk1 := hk.r1
  have hq : n.tdiv 2 = n / 2 := Int.tdiv_eq_ediv_of_nonneg h0
  have hlt0 : (n.tdiv 2).toNat < i.rols.length := by rw [hq]; omega
  obtain ⟨ps, rr, hr⟩ : ∃ c_ l_, List.drop (n.tdiv 2).toNat i.rols = c_ :: l_ := ⟨_, _, List.drop_eq_getElem_cons hlt0⟩
  have hps : rolI i n = ps := by unfold rolI; rw [← List.head?_drop, hr]; rfl
  have hmp : ps ∈ i.rols := List.mem_of_mem_drop (hr ▸ List.mem_cons_self)
  have hpl := (hk.r2 ps hmp).1
  have hpr := hi.r ps hmp
  have hmod : n.tmod 2 = 0 ∨ n.tmod 2 = 1 := by rw [Int.tmod_eq_emod_of_nonneg h0]; omega
  refine JC.flat wds_pur ?_
  refine JC.run hmix c100 (by exact k100) ?_
  (try simp only[↓jr,jw,seval,ji,ext_ext,pid_pid,e1,hr,ir100])
  refine JDC.use (ih _) ?_
  (try simp only[↓jr,jw,seval,ji,ext_ext,pid_pid,e1,hr])
  refine JDC.use (s_NewSet (sz i) (by omega) _) ?_
  (try simp only[↓jr,jw,seval,ji,ext_ext,pid_pid,e1,hr])
  refine JDRAW.oc (by (try simp only[↓jr,jw,seval,ji,ext_ext,pid_pid,e1,hr,jq,qe2,qe3,ext_next,ext_tnext,pushTok_next,List.length_cons,List.length_nil]) <;> (repeat' (first | exact trivial | refine And.intro ?_ ?_ | exact Nat.le_refl _ | (refine pr_extp ⟨_, rfl⟩ (some_lt ?_)) | (refine pr_extp ⟨_, rfl⟩ (fun _ q => by cases q)) | omega | (unfold pid; omega) | (simp only [pushTok_next, List.length_cons, List.length_nil]; unfold pid; omega)))) ?_; (try simp only[↓jr,jw,seval,ji,ext_ext,pid_pid,e1,hr])
  refine wc.intro (by rw [hq]; unfold R64; omega) ?_
  (try simp only[↓jr,jw,seval,ji,ext_ext,pid_pid,e1,hr])
  refine wc.intro ⟨by rw [hq]; omega, by rw [hq]; omega, by omega⟩ ?_
  (try simp only[↓jr,jw,seval,ji,ext_ext,pid_pid,e1,hr])
  refine JLOOP.of (σ := Nat) (fun k => k ≤ ps.length) (fun k => ps.length - k)
    (fun k => [(30, I64 k), (29, I64 ps.length), (28, .sl .none ps.length (encs PR ps)), (5, .arr (pid j.next 2) 0 (nw (sz i))), (6, .arr (pid j.next 3) 0 (nw (sz i))), (3, .ptr (pid j.next 1) 0), (2, .ptr (pid j.next 0) 0)])
    (fun k => ext j [.cells 117 i.enc, .cells 44 (Con.mk 7 n [c]).enc, .cells UE (wds (semC i c) (nw (sz i))), .cells UE (wds (anyF i n (fun x => !semC i c x) (ps.take k)) (nw (sz i)))]) 0 (Nat.zero_le _) ?_ ?_ ?_
  · (try simp only[↓jr,jw,seval,ji,ext_ext,pid_pid,e1,hr,DL])
    exact ⟨SubB.v, SubB.v, SubB.sl rfl (SubBs.pure (PR.pur _)), SubB.arr (by unfold pid; omega), SubB.arr (by unfold pid; omega), SubB.ptr (by unfold pid; omega), SubB.ptr (by unfold pid; omega)⟩
  · rw [List.take_zero, anyF_nil]; exact JDropH.refl _
  intro k hkk
  (try simp only[↓jr,jw,seval,ji,ext_ext,pid_pid,e1,hr])
  refine wq.intro (fun g1 => ?_) (fun g1 => ?_)
  · have hlt : k < (ps).length := by omega
    obtain ⟨p, pr, hd⟩ : ∃ c_ l_, List.drop k (ps) = c_ :: l_ := ⟨_, _, List.drop_eq_getElem_cons hlt⟩
    have hd1 : List.drop (k + 1) (ps) = pr := by rw [← List.drop_drop, hd]; rfl
    have hmem : p ∈ ps := List.mem_of_mem_drop (hd ▸ List.mem_cons_self)
    have htk : ps.take (k + 1) = ps.take k ++ [p] := by
      have : ps[k]? = some p := by rw [← List.head?_drop, hd]; rfl
      rw [List.take_add_one, this]; rfl
    obtain ⟨q1, q2, q3, q4⟩ := hpr p hmem
    (try simp only[↓jr,jw,seval,ji,ext_ext,pid_pid,e1,hr,hd])
    refine wc.intro (by omega) ?_
    obtain ⟨p1, p2⟩ := p
    obtain ⟨u, rfl⟩ : ∃ u : Nat, p1 = u := ⟨p1.toNat, by simp only at q1; omega⟩
    obtain ⟨v, rfl⟩ : ∃ v : Nat, p2 = v := ⟨p2.toNat, by simp only at q3; omega⟩
    simp only at q1 q2 q3 q4
    rcases hmod with hm | hm
    · have f1 : frP n ((u : Int), (v : Int)) = u := by unfold frP; rw [if_pos hm]
      have f2 : toP n ((u : Int), (v : Int)) = v := by unfold toP; rw [if_pos hm]
      (try simp only[↓jr,jw,seval,ji,ext_ext,pid_pid,e1,hr,hd,hm])
      refine wc.intro (by unfold R64; omega) ?_
      (try simp only[↓jr,jw,seval,ji,ext_ext,pid_pid,e1,hr,hd,hm])
      refine JDRAW.oc (by (try simp only[↓jr,jw,seval,ji,ext_ext,pid_pid,e1,hr,jq,qe2,qe3,ext_next,ext_tnext,pushTok_next,List.length_cons,List.length_nil]) <;> (repeat' (first | exact trivial | refine And.intro ?_ ?_ | exact Nat.le_refl _ | (refine pr_extp ⟨_, rfl⟩ (some_lt ?_)) | (refine pr_extp ⟨_, rfl⟩ (fun _ q => by cases q)) | omega | (unfold pid; omega) | (simp only [pushTok_next, List.length_cons, List.length_nil]; unfold pid; omega)))) ?_; (try simp only[↓jr,jw,seval,ji,ext_ext,pid_pid,e1,hr])
      refine JCs.ret (s_Has (semC i c) (nw (sz i)) _ v UE (by omega) (by omega) _ (by rw [ext_next, pid_lt]; simp) (ext_get_new rfl)) ?_
      (try simp only[↓jr,jw,seval,ji,ext_ext,pid_pid,e1,hr])
      refine ww.intro (fun g2 => ?_) (fun g2 => ?_)
      · rw [anyF_miss f1 f2 (by simpa using g2), ← htk]
        (try simp only[↓jr,jw,seval,ji,ext_ext,pid_pid,e1,hr])
        refine wc.intro (by unfold R64; omega) ?_
        (try simp only[↓jr,jw,seval,ji,ext_ext,pid_pid,e1,hr])
        refine JNEXT.of (k + 1) (by omega) (by omega) ?_ (JDropH.next0 (TokExt.refl _) ⟨.inl ⟨rfl, rfl⟩, .inl ⟨rfl, rfl⟩, .inl ⟨rfl, rfl⟩, .inl ⟨rfl, rfl⟩, True.intro⟩)
        (try simp only[↓jr,jw,seval,ji,ext_ext,pid_pid,e1,hr,DL])
        exact ⟨SubB.v, SubB.v, SubB.sl rfl (SubBs.pure (PR.pur _)), SubB.arr (by unfold pid; omega), SubB.arr (by unfold pid; omega), SubB.ptr (by unfold pid; omega), SubB.ptr (by unfold pid; omega)⟩
      · (try simp only[↓jr,jw,seval,ji,ext_ext,pid_pid,e1,hr])
        refine JCs.ret (s_Add (anyF i n (fun x => !semC i c x) (ps.take k)) (nw (sz i)) _ u UE (by omega) (by omega) _ (by rw [ext_next, pid_lt]; simp) (ext_get_new rfl)) ?_
        rw [anyF_hit f1 f2 (by simpa using g2), ← htk]
        (try simp only[↓jr,jw,seval,ji,ext_ext,pid_pid,e1,hr])
        refine wc.intro (by unfold R64; omega) ?_
        (try simp only[↓jr,jw,seval,ji,ext_ext,pid_pid,e1,hr])
        refine JNEXT.of (k + 1) (by omega) (by omega) ?_ (JDropH.next0 (TokExt.refl _) ⟨.inl ⟨rfl, rfl⟩, .inl ⟨rfl, rfl⟩, .inl ⟨rfl, rfl⟩, .inr (OSub.pure wds_pur), True.intro⟩)
        (try simp only[↓jr,jw,seval,ji,ext_ext,pid_pid,e1,hr,DL])
        exact ⟨SubB.v, SubB.v, SubB.sl rfl (SubBs.pure (PR.pur _)), SubB.arr (by unfold pid; omega), SubB.arr (by unfold pid; omega), SubB.ptr (by unfold pid; omega), SubB.ptr (by unfold pid; omega)⟩
    · have f1 : frP n ((u : Int), (v : Int)) = v := by unfold frP; rw [if_neg (by omega)]
      have f2 : toP n ((u : Int), (v : Int)) = u := by unfold toP; rw [if_neg (by omega)]
      (try simp only[↓jr,jw,seval,ji,ext_ext,pid_pid,e1,hr,hd,hm])
      refine wc.intro (by unfold R64; omega) ?_
      (try simp only[↓jr,jw,seval,ji,ext_ext,pid_pid,e1,hr,hd,hm])
      refine JDRAW.oc (by (try simp only[↓jr,jw,seval,ji,ext_ext,pid_pid,e1,hr,jq,qe2,qe3,ext_next,ext_tnext,pushTok_next,List.length_cons,List.length_nil]) <;> (repeat' (first | exact trivial | refine And.intro ?_ ?_ | exact Nat.le_refl _ | (refine pr_extp ⟨_, rfl⟩ (some_lt ?_)) | (refine pr_extp ⟨_, rfl⟩ (fun _ q => by cases q)) | omega | (unfold pid; omega) | (simp only [pushTok_next, List.length_cons, List.length_nil]; unfold pid; omega)))) ?_; (try simp only[↓jr,jw,seval,ji,ext_ext,pid_pid,e1,hr])
      refine JCs.ret (s_Has (semC i c) (nw (sz i)) _ u UE (by omega) (by omega) _ (by rw [ext_next, pid_lt]; simp) (ext_get_new rfl)) ?_
      (try simp only[↓jr,jw,seval,ji,ext_ext,pid_pid,e1,hr])
      refine ww.intro (fun g2 => ?_) (fun g2 => ?_)
      · rw [anyF_miss f1 f2 (by simpa using g2), ← htk]
        (try simp only[↓jr,jw,seval,ji,ext_ext,pid_pid,e1,hr])
        refine wc.intro (by unfold R64; omega) ?_
        (try simp only[↓jr,jw,seval,ji,ext_ext,pid_pid,e1,hr])
        refine JNEXT.of (k + 1) (by omega) (by omega) ?_ (JDropH.next0 (TokExt.refl _) ⟨.inl ⟨rfl, rfl⟩, .inl ⟨rfl, rfl⟩, .inl ⟨rfl, rfl⟩, .inl ⟨rfl, rfl⟩, True.intro⟩)
        (try simp only[↓jr,jw,seval,ji,ext_ext,pid_pid,e1,hr,DL])
        exact ⟨SubB.v, SubB.v, SubB.sl rfl (SubBs.pure (PR.pur _)), SubB.arr (by unfold pid; omega), SubB.arr (by unfold pid; omega), SubB.ptr (by unfold pid; omega), SubB.ptr (by unfold pid; omega)⟩
      · (try simp only[↓jr,jw,seval,ji,ext_ext,pid_pid,e1,hr])
        refine JCs.ret (s_Add (anyF i n (fun x => !semC i c x) (ps.take k)) (nw (sz i)) _ v UE (by omega) (by omega) _ (by rw [ext_next, pid_lt]; simp) (ext_get_new rfl)) ?_
        rw [anyF_hit f1 f2 (by simpa using g2), ← htk]
        (try simp only[↓jr,jw,seval,ji,ext_ext,pid_pid,e1,hr])
        refine wc.intro (by unfold R64; omega) ?_
        (try simp only[↓jr,jw,seval,ji,ext_ext,pid_pid,e1,hr])
        refine JNEXT.of (k + 1) (by omega) (by omega) ?_ (JDropH.next0 (TokExt.refl _) ⟨.inl ⟨rfl, rfl⟩, .inl ⟨rfl, rfl⟩, .inl ⟨rfl, rfl⟩, .inr (OSub.pure wds_pur), True.intro⟩)
        (try simp only[↓jr,jw,seval,ji,ext_ext,pid_pid,e1,hr,DL])
        exact ⟨SubB.v, SubB.v, SubB.sl rfl (SubBs.pure (PR.pur _)), SubB.arr (by unfold pid; omega), SubB.arr (by unfold pid; omega), SubB.ptr (by unfold pid; omega), SubB.ptr (by unfold pid; omega)⟩
  · (try simp only[↓jr,jw,seval,ji,ext_ext,pid_pid,e1,hr])
    have ek : k = ps.length := by omega
    subst ek
    rw [List.take_length]
    refine JCs.ret (s_compl (anyF i n (fun x => !semC i c x) ps) (nw (sz i)) _ (sz i) UE w2 (by omega) _ (by rw [ext_next, pid_lt]; simp) (ext_get_new rfl)) ?_
    (try simp only[↓jr,jw,seval,ji,ext_ext,pid_pid,e1,hr])
    have e : (fun x => decide (x < sz i) && !anyF i n (fun x => !semC i c x) ps x) = semC i (.mk 7 n [c]) := by
      funext x
      simp [semC, semH, hps, anyF]
    rw [e]
    exact JFIN.flat (TokExt.refl _) (k := 4) rfl
def memF (l : List Int) : Nat → Bool := fun x => l.contains (x : Int)
theorem memF_hit {l : List Int} {u : Nat} : updF (memF l) u = memF (l ++ [(u : Int)]) := by
  funext x
  have e : (x == u) = ((x : Int) == (u : Int)) := by
    by_cases hx : x = u
    · subst hx; rw [beq_self_eq_true, beq_self_eq_true]
    · rw [beq_eq_false_iff_ne.2 hx, beq_eq_false_iff_ne.2 (by omega)]
  simp only [updF, memF, List.contains_eq_mem, List.mem_append, List.mem_cons, List.not_mem_nil, or_false, e]
  rw [Bool.eq_iff_iff]
  simp only [Bool.or_eq_true, beq_iff_eq, decide_eq_true_eq]
  exact Or.comm
def ir93 : IFn := ⟨29, [⟨4, none⟩], (.seq (.reg [oA 2 (.box 117 (.r 0)), oA 3 (.box 44 (.r 1)), oA 4 (.mov (.k (.sl .nil 0 [])))]) (.seq (.reg [oA 8 (.fadr 0 (.r 2)), oA 9 (.fadr 0 (.r 8)), oL 10 9 none, oT 11 10 (.call 116 [.r 10]), oA 5 (kM 11)]) (.seq (.seq (.reg [oA 12 (.fadr 0 (.r 2)), oA 13 (.fadr 1 (.r 12)), oL 14 13 none, oA 15 (.fadr 1 (.r 3)), oL 16 15 none, oA 17 (.iasl 1 (.r 14) (.r 16)), oL 18 17 none, oT 19 18 (.lenl (.r 18)), oA 20 (.mov (kI 0))]) (.block 0 (.loop (.seq (.reg [oA 21 (.bin .lss (.r 20) (.r 19))]) (.seq (.cond (.r 21) .skip (.exit 0)) (.seq (.block 1 (.seq (.reg [oA 22 (.iasl 1 (.r 18) (.r 20)), oL 23 22 none, oA 7 (kM 23)]) (.reg [oA 24 (kM 5), oA 25 (kM 7), oA 26 (.call 117 [.r 24, .r 25])]))) (.reg [oA 27 (.bin .add (.r 20) (kI 1)), oA 20 (kM 27)]))))))) (.seq (.reg [oA 28 (kM 5), oA 4 (kM 28)]) .ret))))⟩
theorem c93 : cfunc Tryd.prog 93 = some ir93 := by kernel_rfl
theorem k93 : okIR (max 2 ir93.n) ir93.ir = true := by decide +kernel
theorem s_ename (i : Itp) (hi : i.wf) (hk : i.ok) (n : Int) (h0 : 0 ≤ n) (h1 : n < i.cons.length) (l : List Con) (j : JH) : JC Tryd.prog G 93 [.agg i.enc, .agg (Con.mk 0 n l).enc] j (SETR i j (semC i (.mk 0 n l))) := by
  obtain ⟨e1, e2, e3⟩ := sz_size hi
  obtain ⟨w1, w2⟩ := nw_le hi
  have hk1 := hk.c1
  have hlt0 : n.toNat < i.cons.length := by omega
  obtain ⟨ps, rr, hr⟩ : ∃ c_ l_, List.drop n.toNat i.cons = c_ :: l_ := ⟨_, _, List.drop_eq_getElem_cons hlt0⟩
  have hps : conI i n = ps := by unfold conI; rw [← List.head?_drop, hr]; rfl
  have hmp : ps ∈ i.cons := List.mem_of_mem_drop (hr ▸ List.mem_cons_self)
  have hpl := (hk.c2 ps hmp).1
  have hpr := hi.c ps hmp
  refine JC.flat wds_pur ?_
  refine JC.run hmix c93 (by exact k93) ?_
  (try simp only[↓jr,jw,seval,ji,ext_ext,pid_pid,e1,hr,ir93])
  refine JCs.ret (s_NewSet (sz i) (by omega) _) ?_
  (try simp only[↓jr,jw,seval,ji,ext_ext,pid_pid,e1,hr])
  refine wc.intro ⟨by omega, by omega, by omega⟩ ?_
  (try simp only[↓jr,jw,seval,ji,ext_ext,pid_pid,e1,hr])
  refine JLOOP.of (σ := Nat) (fun k => k ≤ ps.length) (fun k => ps.length - k)
    (fun k => [(20, I64 k), (19, I64 ps.length), (18, .sl .none ps.length (ints ps)), (5, .arr (pid j.next 2) 0 (nw (sz i))), (3, .ptr (pid j.next 1) 0), (2, .ptr (pid j.next 0) 0)])
    (fun k => ext j [.cells 117 i.enc, .cells 44 (Con.mk 0 n l).enc, .cells UE (wds (memF (ps.take k)) (nw (sz i)))]) 0 (Nat.zero_le _) ?_ ?_ ?_
  · (try simp only[↓jr,jw,seval,ji,ext_ext,pid_pid,e1,hr,DL])
    exact ⟨SubB.v, SubB.v, SubB.sl rfl (SubBs.pure (ints_pur _)), SubB.arr (by unfold pid; omega), SubB.ptr (by unfold pid; omega), SubB.ptr (by unfold pid; omega)⟩
  · rw [List.take_zero]; exact JDropH.refl _
  intro k hkk
  (try simp only[↓jr,jw,seval,ji,ext_ext,pid_pid,e1,hr])
  refine wq.intro (fun g1 => ?_) (fun g1 => ?_)
  · have hlt : k < (ps).length := by omega
    obtain ⟨p, pr, hd⟩ : ∃ c_ l_, List.drop k (ps) = c_ :: l_ := ⟨_, _, List.drop_eq_getElem_cons hlt⟩
    have hd1 : List.drop (k + 1) (ps) = pr := by rw [← List.drop_drop, hd]; rfl
    have hmem : p ∈ ps := List.mem_of_mem_drop (hd ▸ List.mem_cons_self)
    have htk : ps.take (k + 1) = ps.take k ++ [p] := by
      have : ps[k]? = some p := by rw [← List.head?_drop, hd]; rfl
      rw [List.take_add_one, this]; rfl
    obtain ⟨q1, q2⟩ := hpr p hmem
    (try simp only[↓jr,jw,seval,ji,ext_ext,pid_pid,e1,hr,hd])
    refine wc.intro (by omega) ?_
    (try simp only[↓jr,jw,seval,ji,ext_ext,pid_pid,e1,hr,hd])
    obtain ⟨u, rfl⟩ : ∃ u : Nat, p = u := ⟨p.toNat, by omega⟩
    refine JCs.ret (s_Add (memF (ps.take k)) (nw (sz i)) _ u UE (by omega) (by omega) _ (by rw [ext_next, pid_lt]; simp) (ext_get_new rfl)) ?_
    rw [memF_hit, ← htk]
    (try simp only[↓jr,jw,seval,ji,ext_ext,pid_pid,e1,hr])
    refine wc.intro (by unfold R64; omega) ?_
    (try simp only[↓jr,jw,seval,ji,ext_ext,pid_pid,e1,hr])
    refine JNEXT.of (k + 1) (by omega) (by omega) ?_ (JDropH.next0 (TokExt.refl _) ⟨.inl ⟨rfl, rfl⟩, .inl ⟨rfl, rfl⟩, .inr (OSub.pure wds_pur), True.intro⟩)
    (try simp only[↓jr,jw,seval,ji,ext_ext,pid_pid,e1,hr,DL])
    exact ⟨SubB.v, SubB.v, SubB.sl rfl (SubBs.pure (ints_pur _)), SubB.arr (by unfold pid; omega), SubB.ptr (by unfold pid; omega), SubB.ptr (by unfold pid; omega)⟩
  · (try simp only[↓jr,jw,seval,ji,ext_ext,pid_pid,e1,hr])
    have ek : k = ps.length := by omega
    subst ek
    rw [List.take_length]
    have e : memF ps = semC i (.mk 0 n l) := by
      funext x
      simp only [semC, if_pos rfl, hps, memF]
      cases h : ps.contains (x : Int)
      · simp
      · have := hpr _ (List.contains_iff_mem.1 h)
        have hx : x < sz i := by omega
        simp [hx]
    rw [e]
    exact JFIN.flat (TokExt.refl _) (k := 2) rfl
end
end Go.Proofs.YtnkkeenclhncmaaDoor.Pg
