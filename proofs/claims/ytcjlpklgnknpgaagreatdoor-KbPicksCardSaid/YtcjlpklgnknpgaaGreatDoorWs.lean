/-
  Names held against names; the line of an axiom; Has.
-/
import Derived.Test.YtcjlpklgnknpgaaGreatDoorWr
import Derived.Test.YtcjlpklgnknpgaaGreatDoorWo
import Derived.Test.YtcjlpklgnknpgaaGreatDoorWj
set_option linter.unusedVariables false
set_option linter.unusedSimpArgs false
set_option maxRecDepth 100000
set_option maxHeartbeats 8000000
namespace Go.Proofs.YtcjlpklgnknpgaaGreatDoor.Pg
open Go
section
open Go
theorem strs_le {l : List ByteArray} : (strs l).length = l.length := by simp [strs]
instance nmsDec : DecidableEq Nms := fun a b => if h : a.cs = b.cs ∧ a.rs = b.rs ∧ a.is = b.is then .isTrue (by cases a; cases b; simp_all) else .isFalse (fun e => h (by rw [e]; exact ⟨rfl, rfl, rfl⟩))
theorem nms_dec (a b : Nms) : decide (a = b) = (decide (a.cs = b.cs) && decide (a.rs = b.rs) && decide (a.is = b.is)) := by
 cases a; cases b; simp [Bool.and_assoc]
section
variable {m : GM} {G : Nat → Option (List AV)}
theorem s_strEq (l r : List ByteArray) (h1 : l.length < 1000000) (h2 : r.length < 1000000) (j : JH) : JC Tryz.prog G 97 [.sl .none l.length (strs l), .sl .none r.length (strs r)] j (RET (BOO (decide (l = r))) j) := by
 refine JC.run hmix c97 (by exact k97) ?_
 (try simp only[↓jr,jw,seval,ir97])
 refine wq.intro (fun q => ?_) (fun q => ?_)
 ·(try simp only[↓jr,jw,seval])
  refine JLOOP.of (σ := Nat) (fun k => k ≤ l.length ∧ decide (l.drop k = r.drop k) = decide (l = r)) (fun k => l.length - k) (fun k => [(13, I64 k), (12, I64 l.length), (0, .sl .none l.length (strs l)), (1, .sl .none r.length (strs r))]) (fun k => ext j []) 0 ⟨by omega, rfl⟩ ?_ (JDropH.refl _) ?_
  ·(try simp only[↓jr,jw,seval,DL])
   exact ⟨SubB.v, SubB.v, SubB.sl rfl (SubBs.pure (strs_pur _)), SubB.sl rfl (SubBs.pure (strs_pur _))⟩
  rintro k ⟨hk, hI⟩
  (try simp only[↓jr,jw,seval])
  refine wq.intro (fun q1 => ?_) (fun q1 => ?_)
  ·have hlt : k < (l).length := by omega
   obtain ⟨x, u, hd⟩ : ∃ c_ l_, List.drop k (l) = c_ :: l_ := ⟨_, _, List.drop_eq_getElem_cons hlt⟩
   have hd1 : List.drop (k + 1) (l) = u := by rw [← List.drop_drop, hd]; rfl
   have hmem : x ∈ l := List.mem_of_mem_drop (hd ▸ List.mem_cons_self)
   obtain ⟨y, v, hr⟩ : ∃ y v, r.drop k = y :: v := ⟨_, _, List.drop_eq_getElem_cons (by omega)⟩
   have hr1 : r.drop (k + 1) = v := by rw [← List.drop_drop, hr]; rfl
   rw [hd, hr] at hI
   (try simp only[↓jr,jw,seval,hd,hr])
   refine wc.intro (by omega) ?_
   (try simp only[↓jr,jw,seval,hd,hr])
   refine wc.intro (by omega) ?_
   (try simp only[↓jr,jw,seval,hd,hr])
   refine JDRAW.oc (by (try simp only[↓jr,jw,seval,jq]) <;> exact orq) ?_; (try simp only[↓jr,jw,seval])
   refine wq.intro (fun q2 => ?_) (fun q2 => ?_)
   ·(try simp only[↓jr,jw,seval])
    refine wc.intro (R64_add hlt (by omega)) ?_
    (try simp only[↓jr,jw,seval])
    subst q2
    refine JNEXT.of (k + 1) ⟨by omega, by rw [hd1, hr1, ← hI]; simp⟩ (by omega) ?_ JDropH.nx
    simp only [Int.natCast_add]
    (try simp only[↓jr,jw,seval,DL])
    exact ⟨SubB.v, SubB.v, SubB.pure (by simp only [AV.pure]; exact strs_pur _), SubB.pure (by simp only [AV.pure]; exact strs_pur _)⟩
   ·(try simp only[↓jr,jw,seval])
    refine JFIN.rb ?_
    have e : decide (l = r) = false := by rw [← hI]; apply decide_eq_false; intro q3; injection q3 with q4 q5; exact q2 (by rw [q4])
    rw [e]; exact SubB.v
  ·(try simp only[↓jr,jw,seval])
   rw [List.drop_eq_nil_of_le (by omega), List.drop_eq_nil_of_le (by omega)] at hI
   refine JFIN.rb ?_
   rw [← hI]; exact SubB.v
 ·(try simp only[↓jr,jw,seval])
  refine JFIN.rb ?_
  have e : decide (l = r) = false := decide_eq_false (fun q3 => q (by rw [q3]))
  rw [e]; exact SubB.v
noncomputable def ir98 : IFn := ⟨26, [⟨4, none⟩], (.seq (.reg [oA 4 (.mov (kB false))]) (.seq (.seq (.reg [oA 6 (kM 0), oT 7 6 (.lenl (.r 6)), oA 8 (kM 1), oT 9 8 (.lenl (.r 8)), oA 10 (.bin .neq (.r 7) (.r 9))]) (.cond (.r 10) (.seq (.reg [oA 4 (.mov (kB false))]) .ret) .skip)) (.seq (.seq (.reg [oA 11 (kM 0), oT 12 11 (.lenl (.r 11)), oA 13 (.mov (kI 0))]) (.block 0 (.loop (.seq (.reg [oA 14 (.bin .lss (.r 13) (.r 12))]) (.seq (.cond (.r 14) .skip (.exit 0)) (.seq (.block 1 (.seq (.reg [oA 15 (kM 13), oA 5 (kM 15)]) (.seq (.draw [oA 16 (kM 0), oA 17 (kM 5), oA 18 (.iasl 1 (.r 16) (.r 17)), oL 19 18 none, oA 20 (kM 1), oA 21 (kM 5), oA 22 (.iasl 1 (.r 20) (.r 21)), oL 23 22 none, oA 24 (.bin .neq (.r 19) (.r 23))] []) (.cond (.r 24) (.seq (.reg [oA 4 (.mov (kB false))]) .ret) .skip)))) (.reg [oA 25 (.bin .add (.r 13) (kI 1)), oA 13 (kM 25)]))))))) (.seq (.reg [oA 4 (.mov (kB true))]) .ret))))⟩
theorem c98 : cfunc Tryz.prog 98 = some ir98 := by kernel_rfl
theorem k98 : okIR (max 2 ir98.n) ir98.ir = true := by decide +kernel
theorem s_strEqK (l r : List ByteArray) (h1 : l.length < 1000000) (h2 : r.length < 1000000) (j : JH) : JC Tryz.prog G 98 [.sl .none l.length (strs l), .sl .none r.length (strs r)] j (RET (BOO (decide (l = r))) j) := by
 refine JC.run hmix c98 (by exact k98) ?_
 (try simp only[↓jr,jw,seval,ir98])
 refine wq.intro (fun q => ?_) (fun q => ?_)
 ·(try simp only[↓jr,jw,seval])
  refine JLOOP.of (σ := Nat) (fun k => k ≤ l.length ∧ decide (l.drop k = r.drop k) = decide (l = r)) (fun k => l.length - k) (fun k => [(13, I64 k), (12, I64 l.length), (0, .sl .none l.length (strs l)), (1, .sl .none r.length (strs r))]) (fun k => ext j []) 0 ⟨by omega, rfl⟩ ?_ (JDropH.refl _) ?_
  ·(try simp only[↓jr,jw,seval,DL])
   exact ⟨SubB.v, SubB.v, SubB.sl rfl (SubBs.pure (strs_pur _)), SubB.sl rfl (SubBs.pure (strs_pur _))⟩
  rintro k ⟨hk, hI⟩
  (try simp only[↓jr,jw,seval])
  refine wq.intro (fun q1 => ?_) (fun q1 => ?_)
  ·have hlt : k < (l).length := by omega
   obtain ⟨x, u, hd⟩ : ∃ c_ l_, List.drop k (l) = c_ :: l_ := ⟨_, _, List.drop_eq_getElem_cons hlt⟩
   have hd1 : List.drop (k + 1) (l) = u := by rw [← List.drop_drop, hd]; rfl
   have hmem : x ∈ l := List.mem_of_mem_drop (hd ▸ List.mem_cons_self)
   obtain ⟨y, v, hr⟩ : ∃ y v, r.drop k = y :: v := ⟨_, _, List.drop_eq_getElem_cons (by omega)⟩
   have hr1 : r.drop (k + 1) = v := by rw [← List.drop_drop, hr]; rfl
   rw [hd, hr] at hI
   (try simp only[↓jr,jw,seval,hd,hr])
   refine wc.intro (by omega) ?_
   (try simp only[↓jr,jw,seval,hd,hr])
   refine wc.intro (by omega) ?_
   (try simp only[↓jr,jw,seval,hd,hr])
   refine JDRAW.oc (by (try simp only[↓jr,jw,seval,jq]) <;> exact orq) ?_; (try simp only[↓jr,jw,seval])
   refine wq.intro (fun q2 => ?_) (fun q2 => ?_)
   ·(try simp only[↓jr,jw,seval])
    refine wc.intro (R64_add hlt (by omega)) ?_
    (try simp only[↓jr,jw,seval])
    subst q2
    refine JNEXT.of (k + 1) ⟨by omega, by rw [hd1, hr1, ← hI]; simp⟩ (by omega) ?_ JDropH.nx
    simp only [Int.natCast_add]
    (try simp only[↓jr,jw,seval,DL])
    exact ⟨SubB.v, SubB.v, SubB.pure (by simp only [AV.pure]; exact strs_pur _), SubB.pure (by simp only [AV.pure]; exact strs_pur _)⟩
   ·(try simp only[↓jr,jw,seval])
    refine JFIN.rb ?_
    have e : decide (l = r) = false := by rw [← hI]; apply decide_eq_false; intro q3; injection q3 with q4 q5; exact q2 (by rw [q4])
    rw [e]; exact SubB.v
  ·(try simp only[↓jr,jw,seval])
   rw [List.drop_eq_nil_of_le (by omega), List.drop_eq_nil_of_le (by omega)] at hI
   refine JFIN.rb ?_
   rw [← hI]; exact SubB.v
 ·(try simp only[↓jr,jw,seval])
  refine JFIN.rb ?_
  have e : decide (l = r) = false := decide_eq_false (fun q3 => q (by rw [q3]))
  rw [e]; exact SubB.v
theorem s_nEq (a b : Nms) (a1 : a.cs.length < 1000000) (a2 : a.rs.length < 1000000) (a3 : a.is.length < 1000000) (b1 : b.cs.length < 1000000) (b2 : b.rs.length < 1000000) (b3 : b.is.length < 1000000) (j : JH) : JC Tryz.prog G 52 [.agg a.enc, .agg b.enc] j (RET (BOO (decide (a = b))) j) := by
 rw [nms_dec]
 refine JC.run hmix c52 (by exact k52) ?_
 (try simp only[↓jr,jw,seval,ir52])
 refine JCs.ret (s_strEq a.cs b.cs a1 b1 _) ?_
 (try simp only[↓jr,jw,seval])
 refine wq.intro (fun e1 => ?_) (fun e1 => ?_)
 ·(try simp only[↓jr,jw,seval])
  refine JCs.ret (s_strEq a.rs b.rs a2 b2 _) ?_
  (try simp only[↓jr,jw,seval])
  refine wq.intro (fun e2 => ?_) (fun e2 => ?_)
  ·(try simp only[↓jr,jw,seval])
   refine JCs.ret (s_strEq a.is b.is a3 b3 _) ?_
   (try simp only[↓jr,jw,seval])
   refine JFIN.rb ?_
   rw [decide_eq_true e1, decide_eq_true e2]; exact SubB.v
  ·(try simp only[↓jr,jw,seval])
   refine JFIN.rb ?_
   rw [decide_eq_true e1, decide_eq_false e2]; exact SubB.v
 ·(try simp only[↓jr,jw,seval])
  refine JFIN.rb ?_
  rw [decide_eq_false e1]; exact SubB.v
noncomputable def ir57 : IFn := ⟨24, [⟨4, none⟩], (.seq (.reg [oA 2 (.box 24 (.r 0)), oA 3 (.box 24 (.r 1)), oA 4 (.mov (kB false))]) (.seq (.reg [oA 5 (.fadr 0 (.r 2)), oL 6 5 none, oA 7 (.fadr 0 (.r 3)), oL 8 7 none, oA 9 (.call 98 [.r 6, .r 8]), oA 10 (kM 9), ⟨(some 11), (some ((10, true))), none, (.fadr 1 (.r 2))⟩, ⟨(some 12), (some ((10, true))), (some (.r 11)), (.load none (.r 11))⟩, ⟨(some 13), (some ((10, true))), none, (.fadr 1 (.r 3))⟩, ⟨(some 14), (some ((10, true))), (some (.r 13)), (.load none (.r 13))⟩, ⟨(some 15), (some ((10, true))), none, (.call 98 [.r 12, .r 14])⟩, oA 16 (.pick (.r 10) (.r 15) (kB false)), oA 17 (kM 16), ⟨(some 18), (some ((17, true))), none, (.fadr 2 (.r 2))⟩, ⟨(some 19), (some ((17, true))), (some (.r 18)), (.load none (.r 18))⟩, ⟨(some 20), (some ((17, true))), none, (.fadr 2 (.r 3))⟩, ⟨(some 21), (some ((17, true))), (some (.r 20)), (.load none (.r 20))⟩, ⟨(some 22), (some ((17, true))), none, (.call 98 [.r 19, .r 21])⟩, oA 23 (.pick (.r 17) (.r 22) (kB false)), oA 4 (kM 23)]) .ret))⟩
theorem c57 : cfunc Tryz.prog 57 = some ir57 := by kernel_rfl
theorem k57 : okIR (max 2 ir57.n) ir57.ir = true := by decide +kernel
theorem s_nEqK (a b : Nms) (a1 : a.cs.length < 1000000) (a2 : a.rs.length < 1000000) (a3 : a.is.length < 1000000) (b1 : b.cs.length < 1000000) (b2 : b.rs.length < 1000000) (b3 : b.is.length < 1000000) (j : JH) : JC Tryz.prog G 57 [.agg a.enc, .agg b.enc] j (RET (BOO (decide (a = b))) j) := by
 rw [nms_dec]
 refine JC.run hmix c57 (by exact k57) ?_
 (try simp only[↓jr,jw,seval,ir57])
 refine JCs.ret (s_strEqK a.cs b.cs a1 b1 _) ?_
 (try simp only[↓jr,jw,seval])
 refine wq.intro (fun e1 => ?_) (fun e1 => ?_)
 ·(try simp only[↓jr,jw,seval])
  refine JCs.ret (s_strEqK a.rs b.rs a2 b2 _) ?_
  (try simp only[↓jr,jw,seval])
  refine wq.intro (fun e2 => ?_) (fun e2 => ?_)
  ·(try simp only[↓jr,jw,seval])
   refine JCs.ret (s_strEqK a.is b.is a3 b3 _) ?_
   (try simp only[↓jr,jw,seval])
   refine JFIN.rb ?_
   rw [decide_eq_true e1, decide_eq_true e2]; exact SubB.v
  ·(try simp only[↓jr,jw,seval])
   refine JFIN.rb ?_
   rw [decide_eq_true e1, decide_eq_false e2]; exact SubB.v
 ·(try simp only[↓jr,jw,seval])
  refine JFIN.rb ?_
  rw [decide_eq_false e1]; exact SubB.v
end
end
section
open Go
def linOK (b : Bas) (k : Int) : Prop := 0 ≤ k ∧ k < b.count
instance {b : Bas} {k : Int} : Decidable (linOK b k) := by unfold linOK; infer_instance
def linE (b : Bas) (k : Int) : Int := if basV b then (if linOK b k then 0 else 1) else 20
def linS (b : Bas) (k : Int) : ByteArray := if basV b then (if linOK b k then nthS (b.axs.map (Ax.str b.nms)) k.toNat else ⟨#[]⟩) else ⟨#[]⟩
section
variable {m : GM} {G : Nat → Option (List AV)}
theorem s_axTextD (n : Nms) (hn : SmallN n) {x : Ax} (hx : AxOK n x) {j : JH} {K : AV → JH → Prop} (k : K (STR (x.str n)) j) :
  jinv Tryz.prog "isagoge/kb.text" x.enc fun g y => @JDC Tryz.prog (GG m) g (y :: [.agg n.enc]) j ⟨K⟩ := by
 cases x with
 | inc x =>
  have e : mtv Tryz.prog 139 "isagoge/kb.text" = some 201 := by kernel_rfl
  simp only [Ax.enc, jinv, e, wv_some]
  exact JDC.use (s_inclText n hn x hx _) k
 | rol x =>
  have e : mtv Tryz.prog 140 "isagoge/kb.text" = some 204 := by kernel_rfl
  simp only [Ax.enc, jinv, e, wv_some]
  exact JDC.use (s_roleText n hn x hx _) k
 | fac x =>
  have e : mtv Tryz.prog 141 "isagoge/kb.text" = some 205 := by kernel_rfl
  simp only [Ax.enc, jinv, e, wv_some]
  exact JDC.use (s_factText n hn x hx _) k
 | lnk x =>
  have e : mtv Tryz.prog 142 "isagoge/kb.text" = some 206 := by kernel_rfl
  simp only [Ax.enc, jinv, e, wv_some]
  exact JDC.use (s_linkText n hn x hx _) k
theorem s_Line (b : Bas) (hb : b.ok) (hf : b.few) (l1 : b.incls.length ≤ 1000000) (l2 : b.roles.length ≤ 1000000) (l3 : b.facts.length ≤ 1000000) (l4 : b.links.length ≤ 1000000) (k : Int) (j : JH) :
  JC Tryz.prog (GG m) 17 [.agg b.enc, I64 k] j (RET (.tup [STR (linS b k), I64 (linE b k)]) j) := by
 refine JC.run hmix c17 (by exact k17) ?_
 (try simp only[↓jr,jw,seval,axs_dr,axs_co,axs_len,ir17])
 refine JCs.ret (s_kbValid b hb hf _) ?_
 (try simp only[↓jr,jw,seval,axs_dr,axs_co,axs_len])
 refine ww.intro (fun hv => ?_) (fun hv => ?_)
 ·(try simp only[↓jr,jw,seval,axs_dr,axs_co,axs_len])
  refine wq.intro (fun q1 => ?_) (fun q1 => ?_)
  ·(try simp only[↓jr,jw,seval,axs_dr,axs_co,axs_len])
   refine JFIN.rb ?_
   unfold linS linE
   rw [if_pos hv, if_neg (by unfold linOK; omega), if_pos hv, if_neg (by unfold linOK; omega)]
   exact SubB.tup ⟨SubB.v, SubB.v, True.intro⟩
  (try simp only[↓jr,jw,seval,axs_dr,axs_co,axs_len])
  refine JCs.ret (s_Count b hb _) ?_
  (try simp only[↓jr,jw,seval,axs_dr,axs_co,axs_len])
  refine wq.intro (fun q2 => ?_) (fun q2 => ?_)
  ·(try simp only[↓jr,jw,seval,axs_dr,axs_co,axs_len])
   refine JFIN.rb ?_
   unfold linS linE
   rw [if_pos hv, if_neg (by unfold linOK; omega), if_pos hv, if_neg (by unfold linOK; omega)]
   exact SubB.tup ⟨SubB.v, SubB.v, True.intro⟩
  (try simp only[↓jr,jw,seval,axs_dr,axs_co,axs_len])
  refine JDC.use (s_kbAll b l1 l2 l3 l4 _) ?_
  obtain ⟨y, v, hda⟩ : ∃ y v, b.axs.drop k.toNat = y :: v := ⟨_, _, List.drop_eq_getElem_cons (by rw [axs_count]; omega)⟩
  have hg : b.axs[k.toNat]? = some y := by rw [← List.head?_drop, hda]; rfl
  have hW := basV_W hv
  (try simp only[↓jr,jw,seval,axs_dr,axs_co,axs_len,hda])
  refine wc.intro ⟨by omega, by rw [axs_count]; omega⟩ ?_
  (try simp only[↓jr,jw,seval,axs_dr,axs_co,axs_len,hda])
  refine s_axTextD b.nms (hW.small hb.nms) (hW.ax hb y (List.mem_of_getElem? hg)) ?_
  (try simp only[↓jr,jw,seval,axs_dr,axs_co,axs_len,hda])
  refine JDRAW.oc (by (try simp only[↓jr,jw,seval,axs_dr,axs_co,axs_len,jq]) <;> exact orq) ?_; (try simp only[↓jr,jw,seval,axs_dr,axs_co,axs_len])
  refine JFIN.rb ?_
  unfold linS linE
  rw [if_pos hv, if_pos (by unfold linOK; omega), if_pos hv, if_pos (by unfold linOK; omega)]
  have e : nthS (b.axs.map (Ax.str b.nms)) k.toNat = y.str b.nms := by unfold nthS; rw [List.getElem?_map, hg]; rfl
  rw [e]
  exact SubB.tup ⟨SubB.v, SubB.v, True.intro⟩
 ·(try simp only[↓jr,jw,seval,axs_dr,axs_co,axs_len])
  refine JFIN.rb ?_
  unfold linS linE
  rw [if_neg (by rw [hv]; decide), if_neg (by rw [hv]; decide)]
  exact SubB.tup ⟨SubB.v, SubB.v, True.intro⟩
noncomputable def ir59 : IFn := ⟨17, [⟨4, none⟩], (.seq (.reg [oA 4 (.mov (kB false))]) (.seq (.seq (.reg [oA 7 (kM 0), oT 8 7 (.lenl (.r 7)), oA 9 (.mov (kI 0))]) (.block 0 (.loop (.seq (.reg [oA 10 (.bin .lss (.r 9) (.r 8))]) (.seq (.cond (.r 10) .skip (.exit 0)) (.seq (.block 1 (.seq (.reg [oA 11 (.iasl 1 (.r 7) (.r 9)), oL 12 11 none, oA 6 (kM 12)]) (.seq (.reg [oA 13 (kM 6), oA 14 (kM 1), oA 15 (.bin .eql (.r 13) (.r 14))]) (.cond (.r 15) (.seq (.reg [oA 4 (.mov (kB true))]) .ret) .skip)))) (.reg [oA 16 (.bin .add (.r 9) (kI 1)), oA 9 (kM 16)]))))))) (.seq (.reg [oA 4 (.mov (kB false))]) .ret)))⟩
theorem c59 : cfunc Tryz.prog 59 = some ir59 := by kernel_rfl
theorem k59 : okIR (max 2 ir59.n) ir59.ir = true := by decide +kernel
theorem s_rHas (l : List Int) (hl : l.length < 1000000) (x : Int) (j : JH) : JC Tryz.prog G 59 [.sl .none l.length (ints l), I64 x] j (RET (BOO (decide (x ∈ l))) j) := by
 refine JC.run hmix c59 (by exact k59) ?_
 (try simp only[↓jr,jw,seval,ints_dr,ints_co,ints_le,ir59])
 refine JLOOP.of (σ := Nat) (fun k => k ≤ l.length ∧ decide (x ∈ l.drop k) = decide (x ∈ l)) (fun k => l.length - k) (fun k => [(9, I64 k), (8, I64 l.length), (7, .sl .none l.length (ints l)), (1, I64 x)]) (fun k => ext j []) 0 ⟨by omega, rfl⟩ ?_ (JDropH.refl _) ?_
 ·(try simp only[↓jr,jw,seval,ints_dr,ints_co,ints_le,DL])
  exact ⟨SubB.v, SubB.v, SubB.sl rfl (SubBs.pure (ints_pur _)), SubB.v⟩
 rintro k ⟨hk, hI⟩
 (try simp only[↓jr,jw,seval,ints_dr,ints_co,ints_le])
 refine wq.intro (fun q1 => ?_) (fun q1 => ?_)
 ·have hlt : k < (l).length := by omega
  obtain ⟨y, u, hd⟩ : ∃ c_ l_, List.drop k (l) = c_ :: l_ := ⟨_, _, List.drop_eq_getElem_cons hlt⟩
  have hd1 : List.drop (k + 1) (l) = u := by rw [← List.drop_drop, hd]; rfl
  have hmem : y ∈ l := List.mem_of_mem_drop (hd ▸ List.mem_cons_self)
  rw [hd] at hI
  (try simp only[↓jr,jw,seval,ints_dr,ints_co,ints_le,hd])
  refine wc.intro (by omega) ?_
  (try simp only[↓jr,jw,seval,ints_dr,ints_co,ints_le,hd])
  refine wq.intro (fun q2 => ?_) (fun q2 => ?_)
  ·(try simp only[↓jr,jw,seval,ints_dr,ints_co,ints_le])
   refine JFIN.rb ?_
   rw [← hI, decide_eq_true (by rw [q2]; exact List.mem_cons_self)]
   exact SubB.v
  ·(try simp only[↓jr,jw,seval,ints_dr,ints_co,ints_le])
   refine wc.intro (R64_add hlt (by omega)) ?_
   (try simp only[↓jr,jw,seval,ints_dr,ints_co,ints_le])
   refine JNEXT.of (k + 1) ⟨by omega, by rw [hd1, ← hI]; exact decide_eq_decide.2 (by rw [List.mem_cons]; constructor; exact .inr; rintro (h | h); exact absurd h.symm q2; exact h)⟩ (by omega) ?_ (JDropH.refl _)
   simp only [Int.natCast_add]
   (try simp only[↓jr,jw,seval,ints_dr,ints_co,ints_le,DL])
   exact ⟨SubB.v, SubB.v, SubB.pure (by simp only [AV.pure]; exact ints_pur _), SubB.v⟩
 ·(try simp only[↓jr,jw,seval,ints_dr,ints_co,ints_le])
  rw [List.drop_eq_nil_of_le (by omega)] at hI
  refine JFIN.rb ?_
  rw [← hI]; exact SubB.v
end
end
end Go.Proofs.YtcjlpklgnknpgaaGreatDoor.Pg
