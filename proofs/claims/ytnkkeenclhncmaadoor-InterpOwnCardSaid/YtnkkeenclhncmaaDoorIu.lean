/-
  Which axioms an interpretation satisfies: interp.holds.
-/
import Derived.Test.YtnkkeenclhncmaaDoorIt
import Derived.Test.YtnkkeenclhncmaaDoorLl
set_option linter.unusedVariables false
set_option linter.unusedSimpArgs false
set_option maxRecDepth 100000
set_option maxHeartbeats 8000000
namespace Go.Proofs.YtnkkeenclhncmaaDoor.Pg
open Go
def indI (i : Itp) (n : Int) : Int := (i.inds[n.toNat]?).getD 0
def rolAt (i : Itp) (n : Int) : List (Int × Int) := (i.rols[n.toNat]?).getD []
/-- Does an interpretation satisfy an axiom? -/
def trueI (b : Bas) (i : Itp) (k : Nat) : Bool :=
  match b.incls.drop k with
  | x :: _ => inclF (semC i x.sub) (semC i x.sup) (sz i)
  | [] => match b.roles.drop (k - b.incls.length) with
    | x :: _ => (relL i x.sub).all fun p => decide (p ∈ relL i x.sup)
    | [] => match b.facts.drop (k - b.incls.length - b.roles.length) with
      | x :: _ => semC i x.con (indI i x.ind).toNat
      | [] => match b.links.drop (k - b.incls.length - b.roles.length - b.facts.length) with
        | x :: _ => decide ((indI i x.fr, indI i x.to) ∈ rolAt i x.role)
        | [] => false
structure BasOK (b : Bas) : Prop where
  n : namesOK b.nms = true
  c : b.count ≤ 60
  i : ∀ x ∈ b.incls, conOK b.nms x.sub = true ∧ conOK b.nms x.sup = true
  r : ∀ x ∈ b.roles, (0 ≤ x.sub ∧ x.sub < 2 * (b.nms.rs.length : Int)) ∧ 0 ≤ x.sup ∧ x.sup < 2 * (b.nms.rs.length : Int)
  f : ∀ x ∈ b.facts, (0 ≤ x.ind ∧ x.ind < b.nms.is.length) ∧ conOK b.nms x.con = true
  l : ∀ x ∈ b.links, (0 ≤ x.role ∧ x.role < b.nms.rs.length) ∧ (0 ≤ x.fr ∧ x.fr < b.nms.is.length) ∧ 0 ≤ x.to ∧ x.to < b.nms.is.length
  s : sumN b.cons ≤ 400
theorem basV_iff {b : Bas} (h : basV b = true) : BasOK b := by
  rw [← basR_eq] at h
  unfold basR at h
  simp only [Bool.and_eq_true, decide_eq_true_eq, List.all_eq_true] at h
  obtain ⟨⟨h1, h2⟩, h3, h4, h5, h6, h7⟩ := h
  refine ⟨h1, h2, fun x hx => ?_, fun x hx => ?_, fun x hx => ?_, fun x hx => ?_, h7⟩
  · obtain ⟨m1, m2⟩ := mem_consI hx
    exact ⟨h3 _ (by unfold Bas.cons; exact List.mem_append.2 (.inl m1)), h3 _ (by unfold Bas.cons; exact List.mem_append.2 (.inl m2))⟩
  · have := h4 x hx
    unfold rolOK at this
    simp only [Bool.and_eq_true, decide_eq_true_eq] at this
    exact this
  · have := h5 x hx
    unfold indOK at this
    simp only [Bool.and_eq_true, decide_eq_true_eq] at this
    exact ⟨this, h3 _ (by unfold Bas.cons; exact List.mem_append.2 (.inr (mem_consF hx)))⟩
  · have := h6 x hx
    unfold lnkOK indOK at this
    simp only [Bool.and_eq_true, decide_eq_true_eq] at this
    obtain ⟨⟨⟨a1, a2⟩, a3⟩, a4⟩ := this
    exact ⟨⟨a1, a2⟩, a3, a4⟩
theorem less_irr {p : Int × Int} (h : lessP p p = true) : False := by
  unfold lessP at h
  simp only [Bool.or_eq_true, Bool.and_eq_true, decide_eq_true_eq] at h
  omega
theorem relL_nodup {i : Itp} (hi : i.wf) (hr : ∀ l ∈ i.rols, rolOKp i.size l = true) {n : Int} (h0 : 0 ≤ n) (h1 : n < 2 * (i.rols.length : Int)) : (relL i n).Nodup := by
  have h := hr _ (rolI_mem h0 h1)
  rw [← rolR_start] at h
  have hp := (rol_pw h).1
  have key : ∀ l : List (Int × Int), l.Pairwise (fun p r => lessP p r = true) → l.Nodup := fun l h => List.Pairwise.imp (fun {a b} hab e => by subst e; exact less_irr hab) h
  unfold relL
  split
  · exact key _ hp
  · exact key _ (invI_pw hp)
theorem d_inc3' {c : Inc} {cs : List AV} : icut (some 3) (c.enc ++ cs) 0 = some (.agg c.sub.enc) := by
  unfold Inc.enc; rw [List.append_assoc]; exact icut_pre c.sub.len
theorem d_inc4' {c : Inc} {cs : List AV} : icut (some 3) ((c.enc ++ cs).drop 3) 0 = some (.agg c.sup.enc) := by
  unfold Inc.enc; rw [List.append_assoc, List.drop_left' c.sub.len]; exact icut_pre c.sup.len
theorem d_inc5' {c : Inc} {cs : List AV} : icut (some 3) (c.enc ++ cs) 3 = some (.agg c.sup.enc) := by
  unfold Inc.enc; rw [List.append_assoc]
  have := icut_at (row := some 3) (cs := c.sup.enc ++ cs) (k := 0) c.sub.len
  exact this.trans (icut_pre c.sup.len)
theorem d_rin3' {c : RIn} {cs : List AV} : icut none (c.enc ++ cs) 0 = some (I64 c.sub) := rfl
theorem d_rin4' {c : RIn} {cs : List AV} : icut none ((c.enc ++ cs).drop 1) 0 = some (I64 c.sup) := rfl
section
variable {m : GM} {G : Nat → Option (List AV)}
def ir56 : IFn := ⟨125, [⟨6, none⟩], (.seq (.reg [oA 3 (.box 66 (.r 0)), oA 4 (.box 29 (.r 1)), oA 6 (.mov (kB false))]) (.seq (.seq (.reg [oA 12 (kM 2), oA 13 (.fadr 3 (.r 3)), oL 14 13 none, oT 15 14 (.lenl (.r 14)), oA 16 (.bin .lss (.r 12) (.r 15))]) (.cond (.r 16) (.seq (.draw [oA 17 (.fadr 3 (.r 3)), oL 18 17 none, oA 19 (kM 2), oA 20 (.iasl 6 (.r 18) (.r 19)), oA 21 (.fadr 0 (.r 20)), oL 22 21 (some 3), oA 23 (.fadr 3 (.r 3)), oL 24 23 none, oA 25 (kM 2), oA 26 (.iasl 6 (.r 24) (.r 25)), oA 27 (.fadr 3 (.r 26)), oL 28 27 (some 3), oL 29 4 (some 4), oA 30 (.call 45 [.r 22, .r 28, .r 29]), oA 6 (kM 30)] []) .ret) .skip)) (.seq (.reg [oA 31 (kM 2), oA 32 (.fadr 3 (.r 3)), oL 33 32 none, oT 34 33 (.lenl (.r 33)), oA 35 (.bin .sub (.r 31) (.r 34)), oA 2 (kM 35)]) (.seq (.seq (.reg [oA 36 (kM 2), oA 37 (.fadr 4 (.r 3)), oL 38 37 none, oT 39 38 (.lenl (.r 38)), oA 40 (.bin .lss (.r 36) (.r 39))]) (.cond (.r 40) (.seq (.reg [oA 41 (.mkmap), oA 7 (.alloc 124 [.v (.map none)]), oN (.store 1 (.r 7) (.r 41))]) (.seq (.seq (.draw [oL 42 4 (some 4), oA 43 (.fadr 4 (.r 3)), oL 44 43 none, oA 45 (kM 2), oA 46 (.iasl 2 (.r 44) (.r 45)), oA 47 (.fadr 1 (.r 46)), oL 48 47 none, oA 49 (.call 38 [.r 42, .r 48]), oT 50 49 (.lenl (.r 49)), oA 51 (.mov (kI 0))] []) (.block 0 (.loop (.seq (.reg [oA 52 (.bin .lss (.r 51) (.r 50))]) (.seq (.cond (.r 52) .skip (.exit 0)) (.seq (.block 1 (.seq (.reg [oA 53 (.iasl 2 (.r 49) (.r 51)), oL 54 53 (some 2), oA 9 (.alloc 58 [.v (.int .i64 0), .v (.int .i64 0)]), oN (.store 2 (.r 9) (.r 54))]) (.reg [oL 55 7 none, oL 56 9 (some 2), oN (.mapup (.array 2 3) (.r 55) (.r 56) (kB true))]))) (.reg [oA 57 (.bin .add (.r 51) (kI 1)), oA 51 (kM 57)]))))))) (.seq (.draw [oL 58 4 (some 4), oA 59 (.fadr 4 (.r 3)), oL 60 59 none, oA 61 (kM 2), oA 62 (.iasl 2 (.r 60) (.r 61)), oA 63 (.fadr 0 (.r 62)), oL 64 63 none, oA 65 (.call 38 [.r 58, .r 64]), oA 66 (.mkf (.func 79) [] [.r 7]), oA 67 (.call 78 [.r 65, .r 66]), oA 68 (.not (.r 67)), oA 6 (kM 68)] []) .ret))) .skip)) (.seq (.reg [oA 69 (kM 2), oA 70 (.fadr 4 (.r 3)), oL 71 70 none, oT 72 71 (.lenl (.r 71)), oA 73 (.bin .sub (.r 69) (.r 72)), oA 2 (kM 73)]) (.seq (.seq (.reg [oA 74 (kM 2), oA 75 (.fadr 5 (.r 3)), oL 76 75 none, oT 77 76 (.lenl (.r 76)), oA 78 (.bin .lss (.r 74) (.r 77))]) (.cond (.r 78) (.seq (.reg [oA 79 (.fadr 5 (.r 3)), oL 80 79 none, oA 81 (kM 2), oA 82 (.iasl 4 (.r 80) (.r 81)), oL 83 82 (some 4), oA 10 (.alloc 94 [.v (.int .i64 0), .v (.int .i64 0), .v (.int .i64 0), .sl .nil 0 []]), oN (.store 4 (.r 10) (.r 83))]) (.seq (.draw [oL 84 4 (some 4), oA 85 (.build [.v (.int .i64 0), .sl .nil 0 [], .sl .nil 0 [], .sl .nil 0 []] [(0, (4, .r 84))]), oA 86 (.fadr 1 (.r 10)), oL 87 86 (some 3), oA 88 (.call 70 [.r 85, .r 87]), oA 89 (.fadr 3 (.r 4)), oL 90 89 none, oA 91 (.fadr 0 (.r 10)), oL 92 91 none, oA 93 (.iasl 1 (.r 90) (.r 92)), oL 94 93 none, oA 95 (.call 80 [.r 88, .r 94]), oA 6 (kM 95)] [(6, 4), (8, 4), (10, 4)]) .ret)) .skip)) (.seq (.reg [oA 96 (.fadr 6 (.r 3)), oL 97 96 none, oA 98 (kM 2), oA 99 (.fadr 5 (.r 3)), oL 100 99 none, oT 101 100 (.lenl (.r 100)), oA 102 (.bin .sub (.r 98) (.r 101)), oA 103 (.iasl 3 (.r 97) (.r 102)), oL 104 103 (some 3), oA 11 (.alloc 102 [.v (.int .i64 0), .v (.int .i64 0), .v (.int .i64 0)]), oN (.store 3 (.r 11) (.r 104))]) (.seq (.draw [oA 105 (.fadr 2 (.r 4)), oL 106 105 none, oA 107 (.fadr 0 (.r 11)), oL 108 107 none, oA 109 (.iasl 1 (.r 106) (.r 108)), oL 110 109 none, oA 111 (.fadr 3 (.r 4)), oL 112 111 none, oA 113 (.fadr 1 (.r 11)), oL 114 113 none, oA 115 (.iasl 1 (.r 112) (.r 114)), oL 116 115 none, oA 117 (.fadr 3 (.r 4)), oL 118 117 none, oA 119 (.fadr 2 (.r 11)), oL 120 119 none, oA 121 (.iasl 1 (.r 118) (.r 120)), oL 122 121 none, oA 123 (.build [.v (.int .i64 0), .v (.int .i64 0)] [(0, (1, .r 116)), (1, (1, .r 122))]), oA 124 (.call 81 [.r 110, .r 123]), oA 6 (kM 124)] []) .ret))))))))⟩
theorem c56 : cfunc Tryd.prog 56 = some ir56 := by kernel_rfl
theorem k56 : okIR (max 3 ir56.n) ir56.ir = true := by decide +kernel
theorem s_iholds (b : Bas) (hb : b.ok) (hv : basV b = true) (i : Itp) (hok : i.ok) (hit : itpOK b.nms i = true) (k : Nat) (hk : k < b.count) (j : JH) : JC Tryd.prog (GG m) 56 [.agg b.enc, .agg i.enc, I64 k] j (RET (BOO (trueI b i k)) j) := by
  have ho := basV_iff hv
  obtain ⟨hwf, hcl, hrl, hil⟩ := Itp.wf_of hit
  obtain ⟨e1, e2, e3⟩ := sz_size hwf
  have hrr : ∀ l ∈ i.rols, rolOKp i.size l = true := by
    unfold itpOK at hit
    simp only [Bool.and_eq_true, List.all_eq_true] at hit
    exact hit.1.2
  have hii : ∀ x ∈ i.inds, 0 ≤ x ∧ x < i.size := by
    unfold itpOK at hit
    simp only [Bool.and_eq_true, List.all_eq_true] at hit
    intro x hx
    have := hit.2 x hx
    unfold inR at this
    simpa using this
  have hL : ∀ l ∈ i.rols, l.length ≤ 65536 := fun l hl => rol_len hwf.s1 hwf.s2 (hrr l hl)
  have hcnt := ho.c
  unfold Bas.count at hk hcnt
  refine JC.run hmix c56 (by exact k56) ?_
  (try simp only[↓jr,jw,seval,ji,ext_ext,pid_pid,ir56])
  refine wq.intro (fun g1 => ?_) (fun g1 => ?_)
  · have hlt : k < (b.incls).length := by omega
    obtain ⟨x, r, hd⟩ : ∃ c_ l_, List.drop k (b.incls) = c_ :: l_ := ⟨_, _, List.drop_eq_getElem_cons hlt⟩
    have hd1 : List.drop (k + 1) (b.incls) = r := by rw [← List.drop_drop, hd]; rfl
    have hmem : x ∈ b.incls := List.mem_of_mem_drop (hd ▸ List.mem_cons_self)
    obtain ⟨x1, x2⟩ := ho.i x hmem
    have e : trueI b i k = inclF (semC i x.sub) (semC i x.sup) (sz i) := by unfold trueI; rw [hd]
    (try simp only[↓jr,jw,seval,ji,ext_ext,pid_pid,hd,d_inc3',d_inc4',d_inc5'])
    refine wc.intro (by omega) ?_
    (try simp only[↓jr,jw,seval,ji,ext_ext,pid_pid,hd,d_inc3',d_inc4',d_inc5'])
    refine wc.intro (by omega) ?_
    (try simp only[↓jr,jw,seval,ji,ext_ext,pid_pid,hd,d_inc3',d_inc4',d_inc5'])
    refine JDC.use (s_iwithin i hwf hok x.sub x.sup (shaped_of hit x1) (shaped_of hit x2) _) ?_
    (try simp only[↓jr,jw,seval,ji,ext_ext,pid_pid])
    refine JDRAW.oc (by (try simp only[↓jr,jw,seval,ji,ext_ext,pid_pid,jq,qe2,qe3,ext_next,ext_tnext,pushTok_next,List.length_cons,List.length_nil]) <;> (repeat' (first | exact trivial | refine And.intro ?_ ?_ | exact Nat.le_refl _ | (refine pr_extp ⟨_, rfl⟩ (some_lt ?_)) | (refine pr_extp ⟨_, rfl⟩ (fun _ q => by cases q)) | omega | (unfold pid; omega) | (simp only [pushTok_next, List.length_cons, List.length_nil]; unfold pid; omega)))) ?_; (try simp only[↓jr,jw,seval,ji,ext_ext,pid_pid])
    rw [e]
    refine JFIN.rb ?_
    exact SubB.v
  · have hdI : b.incls.drop k = [] := List.drop_eq_nil_of_le (by omega)
    obtain ⟨k1, hk1⟩ : ∃ k1 : Nat, k - b.incls.length = k1 := ⟨_, rfl⟩
    have hsub1 : (k : Int) - (b.incls.length : Int) = (k1 : Int) := by omega
    (try simp only[↓jr,jw,seval,ji,ext_ext,pid_pid,hsub1])
    refine wc.intro (by unfold R64; omega) ?_
    (try simp only[↓jr,jw,seval,ji,ext_ext,pid_pid,hsub1])
    refine wq.intro (fun g2 => ?_) (fun g2 => ?_)
    · have hlt : k1 < (b.roles).length := by omega
      obtain ⟨x, r, hd⟩ : ∃ c_ l_, List.drop k1 (b.roles) = c_ :: l_ := ⟨_, _, List.drop_eq_getElem_cons hlt⟩
      have hd1 : List.drop (k1 + 1) (b.roles) = r := by rw [← List.drop_drop, hd]; rfl
      have hmem : x ∈ b.roles := List.mem_of_mem_drop (hd ▸ List.mem_cons_self)
      obtain ⟨x1, x2⟩ := ho.r x hmem
      have e : trueI b i k = (relL i x.sub).all fun p => decide (p ∈ relL i x.sup) := by unfold trueI; rw [hdI]; simp only [hk1, hd]
      rw [e]
      (try simp only[↓jr,jw,seval,ji,ext_ext,pid_pid,hd,d_rin3',d_rin4'])
      refine wc.intro (by omega) ?_
      (try simp only[↓jr,jw,seval,ji,ext_ext,pid_pid,hd,d_rin3',d_rin4'])
      refine JDC.use (s_Related i hwf hok hrr x.sup (by omega) (by omega) _) ?_
      have hnd := relL_nodup hwf hrr (n := x.sup) (by omega) (by omega)
      have hlen := relL_len hwf (n := x.sup) (by omega) (by omega) hL
      have hlen2 := relL_len hwf (n := x.sub) (by omega) (by omega) hL
      generalize relL i x.sup = ps at hnd hlen ⊢
      (try simp only[↓jr,jw,seval,ji,ext_ext,pid_pid])
      refine JDRAW.oc (by (try simp only[↓jr,jw,seval,ji,ext_ext,pid_pid,jq,qe2,qe3,ext_next,ext_tnext,pushTok_next,List.length_cons,List.length_nil]) <;> (repeat' (first | exact trivial | refine And.intro ?_ ?_ | exact Nat.le_refl _ | (refine pr_extp ⟨_, rfl⟩ (some_lt ?_)) | (refine pr_extp ⟨_, rfl⟩ (fun _ q => by cases q)) | omega | (unfold pid; omega) | (simp only [pushTok_next, List.length_cons, List.length_nil]; unfold pid; omega)))) ?_; (try simp only[↓jr,jw,seval,ji,ext_ext,pid_pid])
      refine JLOOP.of (σ := Nat) (fun q => q ≤ ps.length) (fun q => ps.length - q)
        (fun q => [(51, I64 q), (50, I64 ps.length), (49, .sl .none ps.length (encs PR ps)), (7, .ptr (pid j.next 3) 0), (2, I64 k1), (4, .ptr (pid j.next 1) 0), (3, .ptr (pid j.next 0) 0)])
        (fun q => ext j [.cells 66 b.enc, .cells 29 i.enc, .map (mapP (ps.take q)), .cells 124 [.mp (pid j.next 2)]]) 0 (Nat.zero_le _) ?_ (JDropH.refl _) ?_
      · (try simp only[↓jr,jw,seval,ji,ext_ext,pid_pid,DL])
        exact ⟨SubB.v, SubB.v, SubB.sl rfl (SubBs.pure (PR.pur _)), SubB.ptr (by unfold pid; omega), SubB.v, SubB.ptr (by unfold pid; omega), SubB.ptr (by unfold pid; omega)⟩
      intro q hq
      (try simp only[↓jr,jw,seval,ji,ext_ext,pid_pid])
      refine wq.intro (fun g3 => ?_) (fun g3 => ?_)
      · have hltq : q < ps.length := by omega
        obtain ⟨p, pr, hpd⟩ : ∃ c_ l_, List.drop q ps = c_ :: l_ := ⟨_, _, List.drop_eq_getElem_cons hltq⟩
        have hnot : ¬ (p.1, p.2) ∈ ps.take q := by
          intro hin
          have hps : ps = ps.take q ++ (p :: pr) := by rw [← hpd]; exact (List.take_append_drop q ps).symm
          rw [hps] at hnd
          have := (List.nodup_append.1 hnd).2.2 _ hin p (by simp)
          exact this rfl
        (try simp only[↓jr,jw,seval,ji,ext_ext,pid_pid,hpd])
        refine wc.intro (by omega) ?_
        (try simp only[↓jr,jw,seval,ji,ext_ext,pid_pid,hpd])
        refine JMAPUP.newP (ext_get_new rfl) hnot ?_
        (try simp only[↓jr,jw,seval,ji,ext_ext,pid_pid])
        refine wc.intro (by unfold R64; omega) ?_
        (try simp only[↓jr,jw,seval,ji,ext_ext,pid_pid])
        have et : ps.take (q + 1) = ps.take q ++ [(p.1, p.2)] := take_snoc hpd
        rw [← et]
        refine JNEXT.of (q + 1) (by omega) (by omega) ?_ (JDropH.next0 (TokExt.refl _) ⟨.inl ⟨rfl, rfl⟩, .inl ⟨rfl, rfl⟩, .inr OSub.mapP, .inl ⟨rfl, rfl⟩, True.intro⟩)
        (try simp only[↓jr,jw,seval,ji,ext_ext,pid_pid,DL])
        exact ⟨SubB.v, SubB.v, SubB.sl rfl (SubBs.pure (PR.pur _)), SubB.ptr (by unfold pid; omega), SubB.v, SubB.ptr (by unfold pid; omega), SubB.ptr (by unfold pid; omega)⟩
      · have eq : q = ps.length := by omega
        subst eq
        rw [List.take_length]
        (try simp only[↓jr,jw,seval,ji,ext_ext,pid_pid,hd,d_rin3',d_rin4'])
        refine wc.intro (by omega) ?_
        (try simp only[↓jr,jw,seval,ji,ext_ext,pid_pid,hd,d_rin3',d_rin4'])
        refine JDC.use (s_Related i hwf hok hrr x.sub (by omega) (by omega) _) ?_
        (try simp only[↓jr,jw,seval,ji,ext_ext,pid_pid])
        refine JDC.use (s_ContainsF (relL i x.sub) (by omega) _ ps (pid j.next 3) (pid j.next 2) 124 _ (by rw [ext_next]; unfold pid; simp) (ext_get_new rfl) (by rw [ext_next]; unfold pid; simp) (ext_get_new rfl)) ?_
        (try simp only[↓jr,jw,seval,ji,ext_ext,pid_pid])
        refine JDRAW.oc (by (try simp only[↓jr,jw,seval,ji,ext_ext,pid_pid,jq,qe2,qe3,ext_next,ext_tnext,pushTok_next,List.length_cons,List.length_nil]) <;> (repeat' (first | exact trivial | refine And.intro ?_ ?_ | exact Nat.le_refl _ | (refine pr_extp ⟨_, rfl⟩ (some_lt ?_)) | (refine pr_extp ⟨_, rfl⟩ (fun _ q => by cases q)) | omega | (unfold pid; omega) | (simp only [pushTok_next, List.length_cons, List.length_nil]; unfold pid; omega)))) ?_; (try simp only[↓jr,jw,seval,ji,ext_ext,pid_pid])
        rw [Bool.not_not]
        refine JFIN.rb ?_
        exact SubB.v
    · have hdR : b.roles.drop k1 = [] := List.drop_eq_nil_of_le (by omega)
      obtain ⟨k2, hk2⟩ : ∃ k2 : Nat, k1 - b.roles.length = k2 := ⟨_, rfl⟩
      have hsub2 : (k1 : Int) - (b.roles.length : Int) = (k2 : Int) := by omega
      (try simp only[↓jr,jw,seval,ji,ext_ext,pid_pid,hsub2])
      refine wc.intro (by unfold R64; omega) ?_
      (try simp only[↓jr,jw,seval,ji,ext_ext,pid_pid,hsub2])
      refine wq.intro (fun g3 => ?_) (fun g3 => ?_)
      · have hlt : k2 < (b.facts).length := by omega
        obtain ⟨x, r, hd⟩ : ∃ c_ l_, List.drop k2 (b.facts) = c_ :: l_ := ⟨_, _, List.drop_eq_getElem_cons hlt⟩
        have hd1 : List.drop (k2 + 1) (b.facts) = r := by rw [← List.drop_drop, hd]; rfl
        have hmem : x ∈ b.facts := List.mem_of_mem_drop (hd ▸ List.mem_cons_self)
        obtain ⟨x1, x2⟩ := ho.f x hmem
        have hlti : x.ind.toNat < i.inds.length := by omega
        obtain ⟨y, yr, hy⟩ : ∃ c_ l_, List.drop x.ind.toNat i.inds = c_ :: l_ := ⟨_, _, List.drop_eq_getElem_cons hlti⟩
        have hyI : indI i x.ind = y := by unfold indI; rw [← List.head?_drop, hy]; rfl
        have hym : y ∈ i.inds := List.mem_of_mem_drop (hy ▸ List.mem_cons_self)
        have hyb := hii y hym
        obtain ⟨u, rfl⟩ : ∃ u : Nat, y = u := ⟨y.toNat, by omega⟩
        have e : trueI b i k = semC i x.con u := by unfold trueI; rw [hdI]; simp only [hk1, hdR, hk2, hd, hyI, Int.toNat_natCast]
        rw [e]
        (try simp only[↓jr,jw,seval,ji,ext_ext,pid_pid,hd])
        refine wc.intro (by omega) ?_
        (try simp only[↓jr,jw,seval,ji,ext_ext,pid_pid,hd])
        refine JDC.use (s_eof i hwf hok x.con (shaped_of hit x2) _) ?_
        (try simp only[↓jr,jw,seval,ji,ext_ext,pid_pid,hy])
        refine wc.intro (by omega) ?_
        (try simp only[↓jr,jw,seval,ji,ext_ext,pid_pid,hy])
        refine JDC.use (s_Has (semC i x.con) (nw (sz i)) (pid j.next 3) u UE (by have := (nw_le hwf).2; omega) (by have := (nw_le hwf).1; omega) _ (by rw [ext_next]; unfold pid; simp) (ext_get_new rfl)) ?_
        (try simp only[↓jr,jw,seval,ji,ext_ext,pid_pid])
        refine JDRAW.oc (by (try simp only[↓jr,jw,seval,ji,ext_ext,pid_pid,jq,qe2,qe3,ext_next,ext_tnext,pushTok_next,List.length_cons,List.length_nil]) <;> (repeat' (first | exact trivial | refine And.intro ?_ ?_ | exact Nat.le_refl _ | (refine pr_extp ⟨_, rfl⟩ (some_lt ?_)) | (refine pr_extp ⟨_, rfl⟩ (fun _ q => by cases q)) | omega | (unfold pid; omega) | (simp only [pushTok_next, List.length_cons, List.length_nil]; unfold pid; omega)))) ?_; (try simp only[↓jr,jw,seval,ji,ext_ext,pid_pid])
        refine JFIN.rb ?_
        exact SubB.v
      · have hdF : b.facts.drop k2 = [] := List.drop_eq_nil_of_le (by omega)
        obtain ⟨k3, hk3⟩ : ∃ k3 : Nat, k2 - b.facts.length = k3 := ⟨_, rfl⟩
        have hsub3 : (k2 : Int) - (b.facts.length : Int) = (k3 : Int) := by omega
        have hlt3 : k3 < b.links.length := by omega
        obtain ⟨x, r, hd⟩ : ∃ c_ l_, List.drop k3 b.links = c_ :: l_ := ⟨_, _, List.drop_eq_getElem_cons hlt3⟩
        have hmem : x ∈ b.links := List.mem_of_mem_drop (hd ▸ List.mem_cons_self)
        obtain ⟨x1, x2, x3⟩ := ho.l x hmem
        obtain ⟨y1, yr1, hy1⟩ : ∃ c_ l_, List.drop x.fr.toNat i.inds = c_ :: l_ := ⟨_, _, List.drop_eq_getElem_cons (by omega)⟩
        obtain ⟨y2, yr2, hy2⟩ : ∃ c_ l_, List.drop x.to.toNat i.inds = c_ :: l_ := ⟨_, _, List.drop_eq_getElem_cons (by omega)⟩
        obtain ⟨y3, yr3, hy3⟩ : ∃ c_ l_, List.drop x.role.toNat i.rols = c_ :: l_ := ⟨_, _, List.drop_eq_getElem_cons (by omega)⟩
        have hi1 : indI i x.fr = y1 := by unfold indI; rw [← List.head?_drop, hy1]; rfl
        have hi2 : indI i x.to = y2 := by unfold indI; rw [← List.head?_drop, hy2]; rfl
        have hi3 : rolAt i x.role = y3 := by unfold rolAt; rw [← List.head?_drop, hy3]; rfl
        have hm3 : y3 ∈ i.rols := List.mem_of_mem_drop (hy3 ▸ List.mem_cons_self)
        have hl3 := hL y3 hm3
        have e : trueI b i k = decide ((y1, y2) ∈ y3) := by unfold trueI; rw [hdI]; simp only [hk1, hdR, hk2, hdF, hk3, hd, hi1, hi2, hi3]
        rw [e]
        (try simp only[↓jr,jw,seval,ji,ext_ext,pid_pid,hsub3])
        refine wc.intro (by unfold R64; omega) ?_
        (try simp only[↓jr,jw,seval,ji,ext_ext,pid_pid,hsub3,hd])
        refine wc.intro (by omega) ?_
        (try simp only[↓jr,jw,seval,ji,ext_ext,pid_pid,hd,hy1,hy2,hy3])
        refine wc.intro (by omega) ?_
        (try simp only[↓jr,jw,seval,ji,ext_ext,pid_pid,hd,hy1,hy2,hy3])
        refine wc.intro (by omega) ?_
        (try simp only[↓jr,jw,seval,ji,ext_ext,pid_pid,hd,hy1,hy2,hy3])
        refine wc.intro (by omega) ?_
        (try simp only[↓jr,jw,seval,ji,ext_ext,pid_pid,hd,hy1,hy2,hy3])
        refine JDC.use (s_ContainsP y3 (by omega) _ (y1, y2) _) ?_
        (try simp only[↓jr,jw,seval,ji,ext_ext,pid_pid])
        refine JDRAW.oc (by (try simp only[↓jr,jw,seval,ji,ext_ext,pid_pid,jq,qe2,qe3,ext_next,ext_tnext,pushTok_next,List.length_cons,List.length_nil]) <;> (repeat' (first | exact trivial | refine And.intro ?_ ?_ | exact Nat.le_refl _ | (refine pr_extp ⟨_, rfl⟩ (some_lt ?_)) | (refine pr_extp ⟨_, rfl⟩ (fun _ q => by cases q)) | omega | (unfold pid; omega) | (simp only [pushTok_next, List.length_cons, List.length_nil]; unfold pid; omega)))) ?_; (try simp only[↓jr,jw,seval,ji,ext_ext,pid_pid])
        refine JFIN.rb ?_
        exact SubB.v
end
end Go.Proofs.YtnkkeenclhncmaaDoor.Pg
