/-
  What the statement about truth asks and compares.
-/
import Derived.Test.YtnkkeenclhncmaaGreatDoorIv
import Derived.Test.YtnkkeenclhncmaaGreatDoorIq
set_option linter.unusedVariables false
set_option linter.unusedSimpArgs false
set_option maxRecDepth 100000
set_option maxHeartbeats 8000000
namespace Go.Proofs.YtnkkeenclhncmaaGreatDoor.Pg
open Go
theorem not_snoc {α : Type} {x c : α} {l : List α} (h : ¬ x ∈ l) (h2 : ¬ x = c) : ¬ x ∈ l ++ [c] := by simp [h, h2]
section
variable {m : GM} {G : Nat → Option (List AV)}
def ir20 : IFn := ⟨17, [⟨4, none⟩], (.seq (.reg [oA 4 (.mov (kB false))]) (.seq (.seq (.reg [oA 7 (kM 0), oT 8 7 (.lenl (.r 7)), oA 9 (.mov (kI 0))]) (.block 0 (.loop (.seq (.reg [oA 10 (.bin .lss (.r 9) (.r 8))]) (.seq (.cond (.r 10) .skip (.exit 0)) (.seq (.block 1 (.seq (.reg [oA 11 (.iasl 1 (.r 7) (.r 9)), oL 12 11 none, oA 6 (kM 12)]) (.seq (.reg [oA 13 (kM 6), oA 14 (kM 1), oA 15 (.bin .eql (.r 13) (.r 14))]) (.cond (.r 15) (.seq (.reg [oA 4 (.mov (kB true))]) .ret) .skip)))) (.reg [oA 16 (.bin .add (.r 9) (kI 1)), oA 9 (kM 16)]))))))) (.seq (.reg [oA 4 (.mov (kB false))]) .ret)))⟩
theorem c20 : cfunc Tryz.prog 20 = some ir20 := by kernel_rfl
theorem k20 : okIR (max 2 ir20.n) ir20.ir = true := by decide +kernel
theorem s_rHas (l : List Int) (hl : l.length < 4611686018427387904) (tok : Tok) (x : Int) (j : JH) : JC Tryz.prog G 20 [.sl tok l.length (ints l), I64 x] j (RET (BOO (decide (x ∈ l))) j) := by
  refine JC.run hmix c20 (by exact k20) ?_
  (try simp only[↓jr,jw,seval,ints_drop,ints_cons,ints_len',ext_ext,pid_pid,ir20])
  refine JLOOP.of (σ := Nat) (fun k => k ≤ l.length ∧ ¬ x ∈ l.take k) (fun k => l.length - k)
    (fun k => [(9, I64 k), (8, I64 l.length), (7, .sl .none l.length (ints l)), (1, I64 x)]) (fun k => ext j []) 0 ⟨Nat.zero_le _, by simp⟩ ?_ (JDropH.refl _) ?_
  · (try simp only[↓jr,jw,seval,ints_drop,ints_cons,ints_len',ext_ext,pid_pid,DL])
    exact ⟨SubB.v, SubB.v, SubB.sl rfl (SubBs.pure (ints_pur _)), SubB.v⟩
  rintro k ⟨hk, hI⟩
  (try simp only[↓jr,jw,seval,ints_drop,ints_cons,ints_len',ext_ext,pid_pid])
  refine wq.intro (fun g1 => ?_) (fun g1 => ?_)
  · have hlt : k < (l).length := by omega
    obtain ⟨y, r, hd⟩ : ∃ c_ l_, List.drop k (l) = c_ :: l_ := ⟨_, _, List.drop_eq_getElem_cons hlt⟩
    have hd1 : List.drop (k + 1) (l) = r := by rw [← List.drop_drop, hd]; rfl
    have hmem : y ∈ l := List.mem_of_mem_drop (hd ▸ List.mem_cons_self)
    (try simp only[↓jr,jw,seval,ints_drop,ints_cons,ints_len',ext_ext,pid_pid,hd])
    refine wc.intro (by omega) ?_
    (try simp only[↓jr,jw,seval,ints_drop,ints_cons,ints_len',ext_ext,pid_pid,hd])
    refine wq.intro (fun g2 => ?_) (fun g2 => ?_)
    · (try simp only[↓jr,jw,seval,ints_drop,ints_cons,ints_len',ext_ext,pid_pid])
      refine JFIN.rb ?_
      rw [decide_eq_true (show x ∈ l from g2 ▸ hmem)]
      exact SubB.v
    · (try simp only[↓jr,jw,seval,ints_drop,ints_cons,ints_len',ext_ext,pid_pid])
      refine wc.intro (by unfold R64; omega) ?_
      (try simp only[↓jr,jw,seval,ints_drop,ints_cons,ints_len',ext_ext,pid_pid])
      refine JNEXT.of (k + 1) ⟨by omega, by rw [take_snoc hd]; exact not_snoc hI fun h => g2 h.symm⟩ (by omega) ?_ JDropH.nx
      (try simp only[↓jr,jw,seval,ints_drop,ints_cons,ints_len',ext_ext,pid_pid,DL])
      exact ⟨SubB.v, SubB.v, SubB.sl rfl (SubBs.pure (ints_pur _)), SubB.v⟩
  · (try simp only[↓jr,jw,seval,ints_drop,ints_cons,ints_len',ext_ext,pid_pid])
    rw [List.take_of_length_le (by omega)] at hI
    refine JFIN.rb ?_
    rw [decide_eq_false hI]
    exact SubB.v
def ir63 : IFn := ⟨17, [⟨4, none⟩], (.seq (.reg [oA 3 (.box 75 (.r 1)), oA 4 (.mov (kB false))]) (.seq (.seq (.reg [oA 7 (kM 0), oT 8 7 (.lenl (.r 7)), oA 9 (.mov (kI 0))]) (.block 0 (.loop (.seq (.reg [oA 10 (.bin .lss (.r 9) (.r 8))]) (.seq (.cond (.r 10) .skip (.exit 0)) (.seq (.block 1 (.seq (.reg [oA 11 (.iasl 2 (.r 7) (.r 9)), oL 12 11 (some 2), oA 6 (.alloc 75 [.v (.int .i64 0), .v (.int .i64 0)]), oN (.store 2 (.r 6) (.r 12))]) (.seq (.reg [oL 13 3 (some 2), oL 14 6 (some 2), oA 15 (.beqA false (.r 13) (.r 14))]) (.cond (.r 15) (.seq (.reg [oA 4 (.mov (kB true))]) .ret) .skip)))) (.reg [oA 16 (.bin .add (.r 9) (kI 1)), oA 9 (kM 16)]))))))) (.seq (.reg [oA 4 (.mov (kB false))]) .ret)))⟩
theorem c63 : cfunc Tryz.prog 63 = some ir63 := by kernel_rfl
theorem k63 : okIR (max 2 ir63.n) ir63.ir = true := by decide +kernel
theorem s_linked (l : List (Int × Int)) (hl : l.length < 4611686018427387904) (tok : Tok) (p : Int × Int) (j : JH) : JC Tryz.prog G 63 [.sl tok l.length (encs PR l), .agg (PR p)] j (RET (BOO (decide (p ∈ l))) j) := by
  refine JC.run hmix c63 (by exact k63) ?_
  (try simp only[↓jr,jw,seval,ji,ext_ext,pid_pid,ir63])
  refine JLOOP.of (σ := Nat) (fun k => k ≤ l.length ∧ ¬ p ∈ l.take k) (fun k => l.length - k)
    (fun k => [(9, I64 k), (8, I64 l.length), (7, .sl .none l.length (encs PR l)), (3, .ptr (pid j.next 0) 0)]) (fun k => ext j [.cells AE (PR p)]) 0 ⟨Nat.zero_le _, by simp⟩ ?_ (JDropH.refl _) ?_
  · (try simp only[↓jr,jw,seval,ji,ext_ext,pid_pid,DL])
    exact ⟨SubB.v, SubB.v, SubB.sl rfl (SubBs.pure (PR.pur _)), SubB.ptr (by unfold pid; omega)⟩
  rintro k ⟨hk, hI⟩
  (try simp only[↓jr,jw,seval,ji,ext_ext,pid_pid])
  refine wq.intro (fun g1 => ?_) (fun g1 => ?_)
  · have hlt : k < (l).length := by omega
    obtain ⟨x, r, hd⟩ : ∃ c_ l_, List.drop k (l) = c_ :: l_ := ⟨_, _, List.drop_eq_getElem_cons hlt⟩
    have hd1 : List.drop (k + 1) (l) = r := by rw [← List.drop_drop, hd]; rfl
    have hmem : x ∈ l := List.mem_of_mem_drop (hd ▸ List.mem_cons_self)
    (try simp only[↓jr,jw,seval,ji,ext_ext,pid_pid,hd])
    refine wc.intro (by omega) ?_
    (try simp only[↓jr,jw,seval,ji,ext_ext,pid_pid,hd])
    have exy : ((p.1 == x.1) && (p.2 == x.2)) = decide (p = x) := by
      obtain ⟨a, b⟩ := p
      obtain ⟨c, d⟩ := x
      rw [Bool.eq_iff_iff]
      simp
    rw [exy]
    refine ww.intro (fun q2 => ?_) (fun q2 => ?_)
    · (try simp only[↓jr,jw,seval,ji,ext_ext,pid_pid])
      refine JFIN.rb ?_
      rw [decide_eq_true (show p ∈ l from (of_decide_eq_true q2) ▸ hmem)]
      exact SubB.v
    · (try simp only[↓jr,jw,seval,ji,ext_ext,pid_pid])
      refine wc.intro (by unfold R64; omega) ?_
      (try simp only[↓jr,jw,seval,ji,ext_ext,pid_pid])
      refine JNEXT.of (k + 1) ⟨by omega, by rw [take_snoc hd]; exact not_snoc hI (of_decide_eq_false q2)⟩ (by omega) ?_ (JDropH.next0 (TokExt.refl _) ⟨.inl ⟨rfl, rfl⟩, True.intro⟩)
      (try simp only[↓jr,jw,seval,ji,ext_ext,pid_pid,DL])
      exact ⟨SubB.v, SubB.v, SubB.sl rfl (SubBs.pure (PR.pur _)), SubB.ptr (by unfold pid; omega)⟩
  · (try simp only[↓jr,jw,seval,ji,ext_ext,pid_pid])
    rw [List.take_of_length_le (by omega)] at hI
    refine JFIN.rb ?_
    rw [decide_eq_false hI]
    exact SubB.v
def ir41 : IFn := ⟨123, [⟨6, none⟩], (.seq (.reg [oA 3 (.box 30 (.r 0)), oA 4 (.box 38 (.r 1)), oA 6 (.mov (kB false))]) (.seq (.seq (.reg [oA 12 (kM 2), oA 13 (.fadr 3 (.r 3)), oL 14 13 none, oT 15 14 (.lenl (.r 14)), oA 16 (.bin .lss (.r 12) (.r 15))]) (.cond (.r 16) (.seq (.draw [oA 17 (.fadr 3 (.r 3)), oL 18 17 none, oA 19 (kM 2), oA 20 (.iasl 6 (.r 18) (.r 19)), oA 21 (.fadr 0 (.r 20)), oL 22 21 (some 3), oA 23 (.fadr 3 (.r 3)), oL 24 23 none, oA 25 (kM 2), oA 26 (.iasl 6 (.r 24) (.r 25)), oA 27 (.fadr 3 (.r 26)), oL 28 27 (some 3), oL 29 4 (some 4), oA 30 (.call 61 [.r 22, .r 28, .r 29]), oA 6 (kM 30)] []) .ret) .skip)) (.seq (.reg [oA 31 (kM 2), oA 32 (.fadr 3 (.r 3)), oL 33 32 none, oT 34 33 (.lenl (.r 33)), oA 35 (.bin .sub (.r 31) (.r 34)), oA 2 (kM 35)]) (.seq (.seq (.reg [oA 36 (kM 2), oA 37 (.fadr 4 (.r 3)), oL 38 37 none, oT 39 38 (.lenl (.r 38)), oA 40 (.bin .lss (.r 36) (.r 39))]) (.cond (.r 40) (.seq (.draw [oL 41 4 (some 4), oA 42 (.fadr 4 (.r 3)), oL 43 42 none, oA 44 (kM 2), oA 45 (.iasl 2 (.r 43) (.r 44)), oA 46 (.fadr 1 (.r 45)), oL 47 46 none, oA 48 (.call 62 [.r 41, .r 47]), oA 7 (kM 48)] []) (.seq (.seq (.draw [oL 49 4 (some 4), oA 50 (.fadr 4 (.r 3)), oL 51 50 none, oA 52 (kM 2), oA 53 (.iasl 2 (.r 51) (.r 52)), oA 54 (.fadr 0 (.r 53)), oL 55 54 none, oA 56 (.call 62 [.r 49, .r 55]), oT 57 56 (.lenl (.r 56)), oA 58 (.mov (kI 0))] []) (.block 0 (.loop (.seq (.reg [oA 59 (.bin .lss (.r 58) (.r 57))]) (.seq (.cond (.r 59) .skip (.exit 0)) (.seq (.block 1 (.seq (.reg [oA 60 (.iasl 2 (.r 56) (.r 58)), oL 61 60 (some 2), oA 9 (.alloc 75 [.v (.int .i64 0), .v (.int .i64 0)]), oN (.store 2 (.r 9) (.r 61))]) (.seq (.reg [oA 62 (kM 7), oL 63 9 (some 2), oA 64 (.call 63 [.r 62, .r 63]), oA 65 (.not (.r 64))]) (.cond (.r 65) (.seq (.reg [oA 6 (.mov (kB false))]) .ret) .skip)))) (.reg [oA 66 (.bin .add (.r 58) (kI 1)), oA 58 (kM 66)]))))))) (.seq (.reg [oA 6 (.mov (kB true))]) .ret))) .skip)) (.seq (.reg [oA 67 (kM 2), oA 68 (.fadr 4 (.r 3)), oL 69 68 none, oT 70 69 (.lenl (.r 69)), oA 71 (.bin .sub (.r 67) (.r 70)), oA 2 (kM 71)]) (.seq (.seq (.reg [oA 72 (kM 2), oA 73 (.fadr 5 (.r 3)), oL 74 73 none, oT 75 74 (.lenl (.r 74)), oA 76 (.bin .lss (.r 72) (.r 75))]) (.cond (.r 76) (.seq (.reg [oA 77 (.fadr 5 (.r 3)), oL 78 77 none, oA 79 (kM 2), oA 80 (.iasl 4 (.r 78) (.r 79)), oL 81 80 (some 4), oA 10 (.alloc 72 [.v (.int .i64 0), .v (.int .i64 0), .v (.int .i64 0), .sl .nil 0 []]), oN (.store 4 (.r 10) (.r 81))]) (.seq (.draw [oA 82 (.fadr 1 (.r 10)), oL 83 82 (some 3), oL 84 4 (some 4), oA 85 (.call 64 [.r 83, .r 84]), oA 86 (.fadr 3 (.r 4)), oL 87 86 none, oA 88 (.fadr 0 (.r 10)), oL 89 88 none, oA 90 (.iasl 1 (.r 87) (.r 89)), oL 91 90 none, oA 92 (.iasl 1 (.r 85) (.r 91)), oL 93 92 none, oA 6 (kM 93)] [(5, 3), (7, 3), (9, 3)]) .ret)) .skip)) (.seq (.reg [oA 94 (.fadr 6 (.r 3)), oL 95 94 none, oA 96 (kM 2), oA 97 (.fadr 5 (.r 3)), oL 98 97 none, oT 99 98 (.lenl (.r 98)), oA 100 (.bin .sub (.r 96) (.r 99)), oA 101 (.iasl 3 (.r 95) (.r 100)), oL 102 101 (some 3), oA 11 (.alloc 74 [.v (.int .i64 0), .v (.int .i64 0), .v (.int .i64 0)]), oN (.store 3 (.r 11) (.r 102))]) (.seq (.draw [oA 103 (.fadr 2 (.r 4)), oL 104 103 none, oA 105 (.fadr 0 (.r 11)), oL 106 105 none, oA 107 (.iasl 1 (.r 104) (.r 106)), oL 108 107 none, oA 109 (.fadr 3 (.r 4)), oL 110 109 none, oA 111 (.fadr 1 (.r 11)), oL 112 111 none, oA 113 (.iasl 1 (.r 110) (.r 112)), oL 114 113 none, oA 115 (.fadr 3 (.r 4)), oL 116 115 none, oA 117 (.fadr 2 (.r 11)), oL 118 117 none, oA 119 (.iasl 1 (.r 116) (.r 118)), oL 120 119 none, oA 121 (.build [.v (.int .i64 0), .v (.int .i64 0)] [(0, (1, .r 114)), (1, (1, .r 120))]), oA 122 (.call 63 [.r 108, .r 121]), oA 6 (kM 122)] []) .ret))))))))⟩
theorem c41 : cfunc Tryz.prog 41 = some ir41 := by kernel_rfl
theorem k41 : okIR (max 3 ir41.n) ir41.ir = true := by decide +kernel
theorem s_rTrue (b : Bas) (hb : b.ok) (hv : basV b = true) (i : Itp) (hok : i.ok) (hit : itpOK b.nms i = true) (k : Nat) (hk : k < b.count) (j : JH) : JC Tryz.prog (GG m) 41 [.agg b.enc, .agg i.enc, I64 k] j (RET (BOO (trueI b i k)) j) := by
  have ho := basV_iff hv
  obtain ⟨hwf, hcl, hrl, hil⟩ := Itp.wf_of hit
  obtain ⟨e1, e2, e3⟩ := sz_size hwf
  have hrr : ∀ l ∈ i.rols, rolOKp i.size l = true := by
    unfold itpOK at hit
    simp only [Bool.and_eq_true, List.all_eq_true] at hit
    exact hit.1.2
  have hii : ∀ x ∈ i.inds, 0 ≤ x ∧ x < i.size := by
    unfold itpOK at hit
    simp only [Bool.and_eq_true, List.all_eq_true] at hit
    intro x hx
    have := hit.2 x hx
    unfold inR at this
    simpa using this
  have hL : ∀ l ∈ i.rols, l.length ≤ 65536 := fun l hl => rol_len hwf.s1 hwf.s2 (hrr l hl)
  have hcnt := ho.c
  unfold Bas.count at hk hcnt
  refine JC.run hmix c41 (by exact k41) ?_
  (try simp only[↓jr,jw,seval,ji,ext_ext,pid_pid,ir41])
  refine wq.intro (fun g1 => ?_) (fun g1 => ?_)
  · have hlt : k < (b.incls).length := by omega
    obtain ⟨x, r, hd⟩ : ∃ c_ l_, List.drop k (b.incls) = c_ :: l_ := ⟨_, _, List.drop_eq_getElem_cons hlt⟩
    have hd1 : List.drop (k + 1) (b.incls) = r := by rw [← List.drop_drop, hd]; rfl
    have hmem : x ∈ b.incls := List.mem_of_mem_drop (hd ▸ List.mem_cons_self)
    obtain ⟨x1, x2⟩ := ho.i x hmem
    have e : trueI b i k = inclF (semC i x.sub) (semC i x.sup) (sz i) := by unfold trueI; rw [hd]
    (try simp only[↓jr,jw,seval,ji,ext_ext,pid_pid,hd,d_inc3',d_inc4',d_inc5'])
    refine wc.intro (by omega) ?_
    (try simp only[↓jr,jw,seval,ji,ext_ext,pid_pid,hd,d_inc3',d_inc4',d_inc5'])
    refine wc.intro (by omega) ?_
    (try simp only[↓jr,jw,seval,ji,ext_ext,pid_pid,hd,d_inc3',d_inc4',d_inc5'])
    refine JDC.use (s_rIncluded i hwf hok x.sub x.sup (shaped_of hit x1) (shaped_of hit x2) _) ?_
    (try simp only[↓jr,jw,seval,ji,ext_ext,pid_pid])
    refine JDRAW.oc (by (try simp only[↓jr,jw,seval,ji,ext_ext,pid_pid,jq,qe2,qe3,ext_next,ext_tnext,pushTok_next,List.length_cons,List.length_nil]) <;> (repeat' (first | exact trivial | refine And.intro ?_ ?_ | exact Nat.le_refl _ | (refine pr_extp ⟨_, rfl⟩ (some_lt ?_)) | (refine pr_extp ⟨_, rfl⟩ (fun _ q => by cases q)) | omega | (unfold pid; omega) | (simp only [pushTok_next, List.length_cons, List.length_nil]; unfold pid; omega)))) ?_; (try simp only[↓jr,jw,seval,ji,ext_ext,pid_pid])
    rw [e]
    refine JFIN.rb ?_
    exact SubB.v
  · have hdI : b.incls.drop k = [] := List.drop_eq_nil_of_le (by omega)
    obtain ⟨k1, hk1⟩ : ∃ k1 : Nat, k - b.incls.length = k1 := ⟨_, rfl⟩
    have hsub1 : (k : Int) - (b.incls.length : Int) = (k1 : Int) := by omega
    (try simp only[↓jr,jw,seval,ji,ext_ext,pid_pid,hsub1])
    refine wc.intro (by unfold R64; omega) ?_
    (try simp only[↓jr,jw,seval,ji,ext_ext,pid_pid,hsub1])
    refine wq.intro (fun g2 => ?_) (fun g2 => ?_)
    · have hlt : k1 < (b.roles).length := by omega
      obtain ⟨x, r, hd⟩ : ∃ c_ l_, List.drop k1 (b.roles) = c_ :: l_ := ⟨_, _, List.drop_eq_getElem_cons hlt⟩
      have hd1 : List.drop (k1 + 1) (b.roles) = r := by rw [← List.drop_drop, hd]; rfl
      have hmem : x ∈ b.roles := List.mem_of_mem_drop (hd ▸ List.mem_cons_self)
      obtain ⟨x1, x2⟩ := ho.r x hmem
      have e : trueI b i k = (relL i x.sub).all fun p => decide (p ∈ relL i x.sup) := by unfold trueI; rw [hdI]; simp only [hk1, hd]
      rw [e]
      have hlen := relL_len hwf (n := x.sup) (by omega) (by omega) hL
      have hlen2 := relL_len hwf (n := x.sub) (by omega) (by omega) hL
      (try simp only[↓jr,jw,seval,ji,ext_ext,pid_pid,hd,d_rin3',d_rin4'])
      refine wc.intro (by omega) ?_
      (try simp only[↓jr,jw,seval,ji,ext_ext,pid_pid,hd,d_rin3',d_rin4'])
      refine JDC.use (s_rPairs i hwf hok x.sup (by omega) (by omega) hL _) ?_
      (try simp only[↓jr,jw,seval,ji,ext_ext,pid_pid])
      refine JDRAW.oc (by (try simp only[↓jr,jw,seval,ji,ext_ext,pid_pid,jq,qe2,qe3,ext_next,ext_tnext,pushTok_next,List.length_cons,List.length_nil]) <;> (repeat' (first | exact trivial | refine And.intro ?_ ?_ | exact Nat.le_refl _ | (refine pr_extp ⟨_, rfl⟩ (some_lt ?_)) | (refine pr_extp ⟨_, rfl⟩ (fun _ q => by cases q)) | omega | (unfold pid; omega) | (simp only [pushTok_next, List.length_cons, List.length_nil]; unfold pid; omega)))) ?_; (try simp only[↓jr,jw,seval,ji,ext_ext,pid_pid])
      refine wc.intro (by omega) ?_
      (try simp only[↓jr,jw,seval,ji,ext_ext,pid_pid,hd,d_rin3',d_rin4'])
      refine JDC.use (s_rPairs i hwf hok x.sub (by omega) (by omega) hL _) ?_
      (try simp only[↓jr,jw,seval,ji,ext_ext,pid_pid])
      refine JDRAW.oc (by (try simp only[↓jr,jw,seval,ji,ext_ext,pid_pid,jq,qe2,qe3,ext_next,ext_tnext,pushTok_next,List.length_cons,List.length_nil]) <;> (repeat' (first | exact trivial | refine And.intro ?_ ?_ | exact Nat.le_refl _ | (refine pr_extp ⟨_, rfl⟩ (some_lt ?_)) | (refine pr_extp ⟨_, rfl⟩ (fun _ q => by cases q)) | omega | (unfold pid; omega) | (simp only [pushTok_next, List.length_cons, List.length_nil]; unfold pid; omega)))) ?_; (try simp only[↓jr,jw,seval,ji,ext_ext,pid_pid])
      generalize relL i x.sup = qs at hlen ⊢
      generalize relL i x.sub = ps at hlen2 ⊢
      refine JLOOP.of (σ := Nat) (fun q => q ≤ ps.length ∧ (ps.take q).all (fun p => decide (p ∈ qs)) = true) (fun q => ps.length - q)
        (fun q => [(58, I64 q), (57, I64 ps.length), (56, .sl .none ps.length (encs PR ps)), (7, .sl .none qs.length (encs PR qs))])
        (fun q => ext j [.cells 30 b.enc, .cells 38 i.enc]) 0 ⟨Nat.zero_le _, by simp⟩ ?_ (JDropH.refl _) ?_
      · (try simp only[↓jr,jw,seval,ji,ext_ext,pid_pid,DL])
        exact ⟨SubB.v, SubB.v, SubB.sl rfl (SubBs.pure (PR.pur _)), SubB.sl rfl (SubBs.pure (PR.pur _))⟩
      rintro q ⟨hq, hI⟩
      (try simp only[↓jr,jw,seval,ji,ext_ext,pid_pid])
      refine wq.intro (fun g3 => ?_) (fun g3 => ?_)
      · have hltq : q < ps.length := by omega
        obtain ⟨p, pr, hpd⟩ : ∃ c_ l_, List.drop q ps = c_ :: l_ := ⟨_, _, List.drop_eq_getElem_cons hltq⟩
        have hpm : p ∈ ps := List.mem_of_mem_drop (hpd ▸ List.mem_cons_self)
        (try simp only[↓jr,jw,seval,ji,ext_ext,pid_pid,hpd])
        refine wc.intro (by omega) ?_
        (try simp only[↓jr,jw,seval,ji,ext_ext,pid_pid,hpd])
        refine JCs.ret (s_linked qs (by omega) _ p _) ?_
        (try simp only[↓jr,jw,seval,ji,ext_ext,pid_pid])
        refine wq.intro (fun g4 => ?_) (fun g4 => ?_)
        · (try simp only[↓jr,jw,seval,ji,ext_ext,pid_pid])
          refine wc.intro (by unfold R64; omega) ?_
          (try simp only[↓jr,jw,seval,ji,ext_ext,pid_pid])
          refine JNEXT.of (q + 1) ⟨by omega, by rw [take_snoc hpd, List.all_append, hI]; simp [g4]⟩ (by omega) ?_ (JDropH.next0 (TokExt.refl _) ⟨.inl ⟨rfl, rfl⟩, .inl ⟨rfl, rfl⟩, True.intro⟩)
          (try simp only[↓jr,jw,seval,ji,ext_ext,pid_pid,DL])
          exact ⟨SubB.v, SubB.v, SubB.sl rfl (SubBs.pure (PR.pur _)), SubB.sl rfl (SubBs.pure (PR.pur _))⟩
        · (try simp only[↓jr,jw,seval,ji,ext_ext,pid_pid])
          refine JFIN.rb ?_
          have e0 : (ps.all fun p => decide (p ∈ qs)) = false := by
            rw [Bool.eq_false_iff]; intro h
            rw [List.all_eq_true] at h
            exact g4 (of_decide_eq_true (h p hpm))
          rw [e0]; exact SubB.v
      · (try simp only[↓jr,jw,seval,ji,ext_ext,pid_pid])
        rw [List.take_of_length_le (by omega)] at hI
        refine JFIN.rb ?_
        rw [hI]; exact SubB.v
    · have hdR : b.roles.drop k1 = [] := List.drop_eq_nil_of_le (by omega)
      obtain ⟨k2, hk2⟩ : ∃ k2 : Nat, k1 - b.roles.length = k2 := ⟨_, rfl⟩
      have hsub2 : (k1 : Int) - (b.roles.length : Int) = (k2 : Int) := by omega
      (try simp only[↓jr,jw,seval,ji,ext_ext,pid_pid,hsub2])
      refine wc.intro (by unfold R64; omega) ?_
      (try simp only[↓jr,jw,seval,ji,ext_ext,pid_pid,hsub2])
      refine wq.intro (fun g3 => ?_) (fun g3 => ?_)
      · have hlt : k2 < (b.facts).length := by omega
        obtain ⟨x, r, hd⟩ : ∃ c_ l_, List.drop k2 (b.facts) = c_ :: l_ := ⟨_, _, List.drop_eq_getElem_cons hlt⟩
        have hd1 : List.drop (k2 + 1) (b.facts) = r := by rw [← List.drop_drop, hd]; rfl
        have hmem : x ∈ b.facts := List.mem_of_mem_drop (hd ▸ List.mem_cons_self)
        obtain ⟨x1, x2⟩ := ho.f x hmem
        have hlti : x.ind.toNat < i.inds.length := by omega
        obtain ⟨y, yr, hy⟩ : ∃ c_ l_, List.drop x.ind.toNat i.inds = c_ :: l_ := ⟨_, _, List.drop_eq_getElem_cons hlti⟩
        have hyI : indI i x.ind = y := by unfold indI; rw [← List.head?_drop, hy]; rfl
        have hym : y ∈ i.inds := List.mem_of_mem_drop (hy ▸ List.mem_cons_self)
        have hyb := hii y hym
        obtain ⟨u, rfl⟩ : ∃ u : Nat, y = u := ⟨y.toNat, by omega⟩
        have e : trueI b i k = semC i x.con u := by unfold trueI; rw [hdI]; simp only [hk1, hdR, hk2, hd, hyI, Int.toNat_natCast]
        have ea := bls_at (f := semC i x.con) (n := sz i) (k := u) (by omega)
        rw [e]
        (try simp only[↓jr,jw,seval,ji,ext_ext,pid_pid,hd])
        refine wc.intro (by omega) ?_
        (try simp only[↓jr,jw,seval,ji,ext_ext,pid_pid,hd])
        refine JDC.use (s_Set i hwf hok x.con (shaped_of hit x2) _) ?_
        (try simp only[↓jr,jw,seval,ji,ext_ext,pid_pid,hy])
        refine wc.intro (by omega) ?_
        (try simp only[↓jr,jw,seval,ji,ext_ext,pid_pid,hy,ea])
        refine wc.intro (by omega) ?_
        (try simp only[↓jr,jw,seval,ji,ext_ext,pid_pid,hy,ea])
        refine JDRAW.oc (by (try simp only[↓jr,jw,seval,ji,ext_ext,pid_pid,jq,qe2,qe3,ext_next,ext_tnext,pushTok_next,List.length_cons,List.length_nil]) <;> (repeat' (first | exact trivial | refine And.intro ?_ ?_ | exact Nat.le_refl _ | (refine pr_extp ⟨_, rfl⟩ (some_lt ?_)) | (refine pr_extp ⟨_, rfl⟩ (fun _ q => by cases q)) | omega | (unfold pid; omega) | (simp only [pushTok_next, List.length_cons, List.length_nil]; unfold pid; omega)))) ?_; (try simp only[↓jr,jw,seval,ji,ext_ext,pid_pid])
        refine JFIN.rb ?_
        exact SubB.v
      · have hdF : b.facts.drop k2 = [] := List.drop_eq_nil_of_le (by omega)
        obtain ⟨k3, hk3⟩ : ∃ k3 : Nat, k2 - b.facts.length = k3 := ⟨_, rfl⟩
        have hsub3 : (k2 : Int) - (b.facts.length : Int) = (k3 : Int) := by omega
        have hlt3 : k3 < b.links.length := by omega
        obtain ⟨x, r, hd⟩ : ∃ c_ l_, List.drop k3 b.links = c_ :: l_ := ⟨_, _, List.drop_eq_getElem_cons hlt3⟩
        have hmem : x ∈ b.links := List.mem_of_mem_drop (hd ▸ List.mem_cons_self)
        obtain ⟨x1, x2, x3⟩ := ho.l x hmem
        obtain ⟨y1, yr1, hy1⟩ : ∃ c_ l_, List.drop x.fr.toNat i.inds = c_ :: l_ := ⟨_, _, List.drop_eq_getElem_cons (by omega)⟩
        obtain ⟨y2, yr2, hy2⟩ : ∃ c_ l_, List.drop x.to.toNat i.inds = c_ :: l_ := ⟨_, _, List.drop_eq_getElem_cons (by omega)⟩
        obtain ⟨y3, yr3, hy3⟩ : ∃ c_ l_, List.drop x.role.toNat i.rols = c_ :: l_ := ⟨_, _, List.drop_eq_getElem_cons (by omega)⟩
        have hi1 : indI i x.fr = y1 := by unfold indI; rw [← List.head?_drop, hy1]; rfl
        have hi2 : indI i x.to = y2 := by unfold indI; rw [← List.head?_drop, hy2]; rfl
        have hi3 : rolAt i x.role = y3 := by unfold rolAt; rw [← List.head?_drop, hy3]; rfl
        have hm3 : y3 ∈ i.rols := List.mem_of_mem_drop (hy3 ▸ List.mem_cons_self)
        have hl3 := hL y3 hm3
        have e : trueI b i k = decide ((y1, y2) ∈ y3) := by unfold trueI; rw [hdI]; simp only [hk1, hdR, hk2, hdF, hk3, hd, hi1, hi2, hi3]
        rw [e]
        (try simp only[↓jr,jw,seval,ji,ext_ext,pid_pid,hsub3])
        refine wc.intro (by unfold R64; omega) ?_
        (try simp only[↓jr,jw,seval,ji,ext_ext,pid_pid,hsub3,hd])
        refine wc.intro (by omega) ?_
        (try simp only[↓jr,jw,seval,ji,ext_ext,pid_pid,hd,hy1,hy2,hy3])
        refine wc.intro (by omega) ?_
        (try simp only[↓jr,jw,seval,ji,ext_ext,pid_pid,hd,hy1,hy2,hy3])
        refine wc.intro (by omega) ?_
        (try simp only[↓jr,jw,seval,ji,ext_ext,pid_pid,hd,hy1,hy2,hy3])
        refine wc.intro (by omega) ?_
        (try simp only[↓jr,jw,seval,ji,ext_ext,pid_pid,hd,hy1,hy2,hy3])
        refine JDC.use (s_linked y3 (by omega) _ (y1, y2) _) ?_
        (try simp only[↓jr,jw,seval,ji,ext_ext,pid_pid])
        refine JDRAW.oc (by (try simp only[↓jr,jw,seval,ji,ext_ext,pid_pid,jq,qe2,qe3,ext_next,ext_tnext,pushTok_next,List.length_cons,List.length_nil]) <;> (repeat' (first | exact trivial | refine And.intro ?_ ?_ | exact Nat.le_refl _ | (refine pr_extp ⟨_, rfl⟩ (some_lt ?_)) | (refine pr_extp ⟨_, rfl⟩ (fun _ q => by cases q)) | omega | (unfold pid; omega) | (simp only [pushTok_next, List.length_cons, List.length_nil]; unfold pid; omega)))) ?_; (try simp only[↓jr,jw,seval,ji,ext_ext,pid_pid])
        refine JFIN.rb ?_
        exact SubB.v
end
end Go.Proofs.YtnkkeenclhncmaaGreatDoor.Pg
