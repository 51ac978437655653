/-
  The fixed calls: their knowledge bases.
-/
import Derived.Test.YtkcbhebbjpiibaaDoorLw
set_option linter.unusedVariables false
set_option linter.unusedSimpArgs false
set_option linter.defProp false
set_option maxRecDepth 20000
set_option maxHeartbeats 1000000
namespace Go.Proofs.YtkcbhebbjpiibaaDoor.Pg
open Go
section
theorem sbLx {A : Prop} (h : A := by repeat' (first | exact trivial | refine And.intro ?_ ?_ | exact SubB.v | exact SubB.any | ((first | refine SubB.ptr ?_ | refine SubB.arr ?_ | refine SubB.mp ?_) <;> first | assumption | (unfold pid; omega)) | ((first | refine SubB.pure ?_ | refine SubBs.pure ?_) <;> (simp only [AV.pure, AV.pures, pures_append, jpu, rrow_pur, rb_pur, natv_pur, Bool.and_self, Bool.and_true, Bool.true_and]; done)) | refine SubB.fn ?_ ?_ | refine SubB.sl ?_ ?_ | refine SubB.agg ?_ | refine SubB.tup ?_ | rfl)) : A := h
variable {m : Int} {G : Nat → Option (List AV)}
def ir44 : IFn := ⟨5, [⟨2, (some (some 3))⟩], (.seq (.reg [oA 2 (.alloc 43 [.v (.int .i64 0), .v (.int .i64 0), .sl .nil 0 []])]) (.seq (.reg [oA 3 (kM 0), oA 4 (.call 52 [.k (.v (.int .i64 0)), .r 3, .k (.sl .nil 0 [])]), oN (.store 3 (.r 2) (.r 4))]) .ret))⟩
theorem c44 : cfunc Tryd.prog 44 = some ir44 := by kernel_rfl
theorem k44 : okIR (max 1 ir44.n) ir44.ir = true := by decide +kernel
theorem s_RName (n : Int) (j : JH) : JC Tryd.prog G 44 [I64 n] j (RET (.agg (Con.mk 0 n []).enc) j) := by
  refine JC.run hmix c44 (by exact k44) ?_
  (try simp only[↓jr,jw,seval,ir44])
  refine JCs.ret (s_COf 0 n [] .nil _) ?_
  (try simp only[↓jr,jw,seval])
  refine JFIN.rb ?_
  exact SubB.pure (Con.pur _)
def ir76 : IFn := ⟨7, [⟨2, (some (some 3))⟩], (.seq (.reg [oA 2 (.alloc 43 [.v (.int .i64 0), .v (.int .i64 0), .sl .nil 0 []])]) (.seq (.reg [oA 3 (kM 0), oA 4 (.call 52 [.k (.v (.int .i64 1)), .k (.v (.int .i64 0)), .k (.sl .nil 0 [])]), oA 5 (.bsl 1 3 [.v (.int .i64 0), .v (.int .i64 0), .sl .nil 0 []] [(0, (3, .r 4))]), oA 6 (.call 52 [.k (.v (.int .i64 6)), .r 3, .r 5]), oN (.store 3 (.r 2) (.r 6))]) .ret))⟩
theorem c76 : cfunc Tryd.prog 76 = some ir76 := by kernel_rfl
theorem k76 : okIR (max 1 ir76.n) ir76.ir = true := by decide +kernel
theorem s_RFirst (n : Int) (j : JH) : JC Tryd.prog G 76 [I64 n] j (RET (.agg (Con.mk 6 n [.mk 1 0 []]).enc) j) := by
  refine JC.run hmix c76 (by exact k76) ?_
  (try simp only[↓jr,jw,seval,ir76])
  refine JCs.ret (s_COf 1 0 [] .nil _) ?_
  (try simp only[↓jr,jw,seval])
  have h := s_COf (G := G) 6 n [.mk 1 0 []] (.own j.tnext 0 3) (ext (j.pushTok 1) [.cells 43 [I64 0, I64 0, .sl .nil 0 []]])
  rw [encs_cons, encs_nil, List.append_nil] at h
  refine JCs.ret h ?_
  (try simp only[↓jr,jw,seval])
  refine JFIN.rb ?_
  exact SubB.pure (Con.pur _)
theorem natv_drop {l : List Nat} {k : Nat} : (natv l).drop k = natv (l.drop k) := by simp [natv, List.map_drop]
theorem natv_cons {x : Nat} {l : List Nat} : natv (x :: l) = .v (.int .i64 (x : Int)) :: natv l := rfl
def ir30 : IFn := ⟨26, [⟨4, none⟩], (.seq (.reg [oA 4 (.mov (kB false))]) (.seq (.seq (.reg [oA 6 (kM 0), oT 7 6 (.lenl (.r 6)), oA 8 (kM 1), oT 9 8 (.lenl (.r 8)), oA 10 (.bin .neq (.r 7) (.r 9))]) (.cond (.r 10) (.seq (.reg [oA 4 (.mov (kB false))]) .ret) .skip)) (.seq (.seq (.reg [oA 11 (kM 0), oT 12 11 (.lenl (.r 11)), oA 13 (.mov (kI 0))]) (.block 0 (.loop (.seq (.reg [oA 14 (.bin .lss (.r 13) (.r 12))]) (.seq (.cond (.r 14) .skip (.exit 0)) (.seq (.block 1 (.seq (.reg [oA 15 (kM 13), oA 5 (kM 15)]) (.seq (.draw [oA 16 (kM 0), oA 17 (kM 5), oA 18 (.iasl 1 (.r 16) (.r 17)), oL 19 18 none, oA 20 (kM 1), oA 21 (kM 5), oA 22 (.iasl 1 (.r 20) (.r 21)), oL 23 22 none, oA 24 (.bin .neq (.r 19) (.r 23))] []) (.cond (.r 24) (.seq (.reg [oA 4 (.mov (kB false))]) .ret) .skip)))) (.reg [oA 25 (.bin .add (.r 13) (kI 1)), oA 13 (kM 25)]))))))) (.seq (.reg [oA 4 (.mov (kB true))]) .ret))))⟩
theorem c30 : cfunc Tryd.prog 30 = some ir30 := by kernel_rfl
theorem k30 : okIR (max 2 ir30.n) ir30.ir = true := by decide +kernel
theorem s_SameInts (l r : List Nat) (t1 t2 : Tok) (h1 : l.length < 1000000) (h2 : r.length < 1000000) (j : JH) : JC Tryd.prog G 30 [.sl t1 l.length (natv l), .sl t2 r.length (natv r)] j (RET (BOO (decide (l = r))) j) := by
  refine JC.run hmix c30 (by exact k30) ?_
  (try simp only[↓jr,jw,seval,natv_drop,natv_cons,natv_len,ir30])
  refine wq.intro (fun q => ?_) (fun q => ?_)
  · (try simp only[↓jr,jw,seval,natv_drop,natv_cons,natv_len])
    refine JLOOP.of (σ := Nat) (fun k => k ≤ l.length ∧ decide (l.drop k = r.drop k) = decide (l = r)) (fun k => l.length - k) (fun k => [(13, I64 k), (12, I64 l.length), (0, .sl .none l.length (natv l)), (1, .sl .none r.length (natv r))]) (fun k => ext j []) 0 ⟨by omega, rfl⟩ ?_ (JDropH.refl _) ?_
    · (try simp only[↓jr,jw,seval,natv_drop,natv_cons,natv_len,DL])
      exact ⟨SubB.v, SubB.v, SubB.sl rfl (SubBs.pure (natv_pur _)), SubB.sl rfl (SubBs.pure (natv_pur _))⟩
    rintro k ⟨hk, hI⟩
    (try simp only[↓jr,jw,seval,natv_drop,natv_cons,natv_len])
    refine wq.intro (fun q1 => ?_) (fun q1 => ?_)
    · have hlt : k < (l).length := by omega
      obtain ⟨x, u, hd⟩ : ∃ c_ l_, List.drop k (l) = c_ :: l_ := ⟨_, _, List.drop_eq_getElem_cons hlt⟩
      have hd1 : List.drop (k + 1) (l) = u := by rw [← List.drop_drop, hd]; rfl
      have hmem : x ∈ l := List.mem_of_mem_drop (hd ▸ List.mem_cons_self)
      obtain ⟨y, v, hr⟩ : ∃ y v, r.drop k = y :: v := ⟨_, _, List.drop_eq_getElem_cons (by omega)⟩
      have hr1 : r.drop (k + 1) = v := by rw [← List.drop_drop, hr]; rfl
      rw [hd, hr] at hI
      (try simp only[↓jr,jw,seval,natv_drop,natv_cons,natv_len,hd,hr])
      refine wc.intro (by omega) ?_
      (try simp only[↓jr,jw,seval,natv_drop,natv_cons,natv_len,hd,hr])
      refine wc.intro (by omega) ?_
      (try simp only[↓jr,jw,seval,natv_drop,natv_cons,natv_len,hd,hr])
      refine JDRAW.oc (by (try simp only[↓jr,jw,seval,natv_drop,natv_cons,natv_len,jq]) <;> exact orq) ?_; (try simp only[↓jr,jw,seval,natv_drop,natv_cons,natv_len])
      refine wq.intro (fun q2 => ?_) (fun q2 => ?_)
      · (try simp only[↓jr,jw,seval,natv_drop,natv_cons,natv_len])
        refine wc.intro (R64_add hlt (by omega)) ?_
        (try simp only[↓jr,jw,seval,natv_drop,natv_cons,natv_len])
        have q2' : x = y := by omega
        subst q2'
        refine JNEXT.of (k + 1) ⟨by omega, by rw [hd1, hr1, ← hI]; simp⟩ (by omega) ?_ JDropH.nx
        simp only [Int.natCast_add]
        (try simp only[↓jr,jw,seval,natv_drop,natv_cons,natv_len,DL])
        exact ⟨SubB.v, SubB.v, SubB.pure (by simp only [AV.pure]; exact natv_pur _), SubB.pure (by simp only [AV.pure]; exact natv_pur _)⟩
      · (try simp only[↓jr,jw,seval,natv_drop,natv_cons,natv_len])
        refine JFIN.rb ?_
        have e : decide (l = r) = false := by rw [← hI]; apply decide_eq_false; intro q3; injection q3 with q4 q5; exact q2 (by rw [q4])
        rw [e]; exact SubB.v
    · (try simp only[↓jr,jw,seval,natv_drop,natv_cons,natv_len])
      rw [List.drop_eq_nil_of_le (by omega), List.drop_eq_nil_of_le (by omega)] at hI
      refine JFIN.rb ?_
      rw [← hI]; exact SubB.v
  · (try simp only[↓jr,jw,seval,natv_drop,natv_cons,natv_len])
    refine JFIN.rb ?_
    rw [decide_eq_false (fun e => q (by rw [e]))]; exact SubB.v
end

/-! ### The fixed calls. -/
section
variable {m : Int} {G : Nat → Option (List AV)}
def pN0 : Con := .mk 0 0 []
def pN1 : Con := .mk 0 1 []
def pF0 : Con := .mk 6 0 [.mk 1 0 []]
def pF1 : Con := .mk 6 1 [.mk 1 0 []]
def pX : Con := .mk 3 0 [pN1]
def pNms : Nms := ⟨[⟨#[80, 114, 111, 102]⟩, ⟨#[67, 111, 117, 114, 115, 101]⟩], [⟨#[116, 101, 97, 99, 104, 101, 115]⟩], []⟩
def pInc : List Inc := [⟨pN0, pF0⟩, ⟨pF1, pN1⟩, ⟨pN0, pX⟩]
/-- The chapter's example. -/
def pB : Bas := ⟨pNms, pInc, [], [], []⟩
/-- The same with one role inclusion. -/
def pB2 : Bas := ⟨pNms, pInc, [⟨0, 1⟩], [], []⟩
/-- A name that is reserved. -/
def pB3 : Bas := ⟨⟨[⟨#[116, 111, 112]⟩], [], []⟩, [], [], [], []⟩
theorem q_e5 {b : Bool} {x y : JH} : okE ⟨b, none, x, y⟩ = (x.next ≤ y.next ∧ x.tnext ≤ y.tnext) := by simp [okE]
theorem q_t2 {l : L} {x : AV} : jtouch l (some (.k x)) = jtv x := by unfold jtouch jtv; cases x <;> rfl
def ir43 : IFn := ⟨18, [⟨0, (some (some 7))⟩], (.seq (.reg [oA 0 (.alloc 30 [.sl .nil 0 [], .sl .nil 0 [], .sl .nil 0 [], .sl .nil 0 [], .sl .nil 0 [], .sl .nil 0 [], .sl .nil 0 []])]) (.seq (.reg [oA 2 (.bsl 2 1 [.v (.string ⟨#[]⟩)] [(0, (1, .k (.v (.string ⟨#[80, 114, 111, 102]⟩)))), (1, (1, .k (.v (.string ⟨#[67, 111, 117, 114, 115, 101]⟩))))]), oA 3 (.bsl 1 1 [.v (.string ⟨#[]⟩)] [(0, (1, .k (.v (.string ⟨#[116, 101, 97, 99, 104, 101, 115]⟩))))]), oA 4 (.build [.sl .nil 0 [], .sl .nil 0 [], .sl .nil 0 []] [(0, (1, .r 2)), (1, (1, .r 3))]), oA 1 (.alloc 24 [.sl .nil 0 [], .sl .nil 0 [], .sl .nil 0 []]), oN (.store 3 (.r 1) (.r 4))]) (.seq (.draw [oL 5 1 (some 3), ⟨(some 6), none, (some (kI 0)), (.call 44 [.k (.v (.int .i64 0))])⟩, ⟨(some 7), none, (some (kI 0)), (.call 76 [.k (.v (.int .i64 0))])⟩, oA 8 (.build [.v (.int .i64 0), .v (.int .i64 0), .sl .nil 0 [], .v (.int .i64 0), .v (.int .i64 0), .sl .nil 0 []] [(0, (3, .r 6)), (3, (3, .r 7))]), ⟨(some 9), none, (some (kI 1)), (.call 76 [.k (.v (.int .i64 1))])⟩, ⟨(some 10), none, (some (kI 1)), (.call 44 [.k (.v (.int .i64 1))])⟩, oA 11 (.build [.v (.int .i64 0), .v (.int .i64 0), .sl .nil 0 [], .v (.int .i64 0), .v (.int .i64 0), .sl .nil 0 []] [(0, (3, .r 9)), (3, (3, .r 10))]), ⟨(some 12), none, (some (kI 0)), (.call 44 [.k (.v (.int .i64 0))])⟩, ⟨(some 13), none, (some (kI 1)), (.call 44 [.k (.v (.int .i64 1))])⟩, oT 14 13 (.call 17 [.r 13]), oA 15 (.build [.v (.int .i64 0), .v (.int .i64 0), .sl .nil 0 [], .v (.int .i64 0), .v (.int .i64 0), .sl .nil 0 []] [(0, (3, .r 12)), (3, (3, .r 14))]), oA 16 (.bsl 3 6 [.v (.int .i64 0), .v (.int .i64 0), .sl .nil 0 [], .v (.int .i64 0), .v (.int .i64 0), .sl .nil 0 []] [(0, (6, .r 8)), (6, (6, .r 11)), (12, (6, .r 15))]), oA 17 (.build [.sl .nil 0 [], .sl .nil 0 [], .sl .nil 0 [], .sl .nil 0 [], .sl .nil 0 [], .sl .nil 0 [], .sl .nil 0 []] [(0, (3, .r 5)), (3, (1, .r 16))]), oN (.store 7 (.r 0) (.r 17))] [(0, 1), (0, 2), (0, 4), (0, 5), (0, 7), (0, 8), (0, 9)]) .ret)))⟩
theorem c43 : cfunc Tryd.prog 43 = some ir43 := by kernel_rfl
theorem k43 : okIR (max 0 ir43.n) ir43.ir = true := by decide +kernel
theorem s_profs (j : JH) : JC Tryd.prog G 43 [] j (RET (.agg pB.enc) j) := by
  refine JC.run hmix c43 (by exact k43) ?_
  (try simp only[↓jr,jw,seval,rb_ld,rb_len,jq2,Con.enc,Con.encs,q_e5,q_t2,ext_next,ext_tnext,Nat.le_refl,Nat.le_add_right,ir43])
  refine JDC.use (s_RName 0 _) ?_
  (try simp only[↓jr,jw,seval,rb_ld,rb_len,jq2,Con.enc,Con.encs,q_e5,q_t2,ext_next,ext_tnext,Nat.le_refl,Nat.le_add_right])
  refine JDC.use (s_RFirst 0 _) ?_
  (try simp only[↓jr,jw,seval,rb_ld,rb_len,jq2,Con.enc,Con.encs,q_e5,q_t2,ext_next,ext_tnext,Nat.le_refl,Nat.le_add_right])
  refine JDC.use (s_RFirst 1 _) ?_
  (try simp only[↓jr,jw,seval,rb_ld,rb_len,jq2,Con.enc,Con.encs,q_e5,q_t2,ext_next,ext_tnext,Nat.le_refl,Nat.le_add_right])
  refine JDC.use (s_RName 1 _) ?_
  (try simp only[↓jr,jw,seval,rb_ld,rb_len,jq2,Con.enc,Con.encs,q_e5,q_t2,ext_next,ext_tnext,Nat.le_refl,Nat.le_add_right])
  refine JDC.use (s_RName 0 _) ?_
  (try simp only[↓jr,jw,seval,rb_ld,rb_len,jq2,Con.enc,Con.encs,q_e5,q_t2,ext_next,ext_tnext,Nat.le_refl,Nat.le_add_right])
  refine JDC.use (s_RName 1 _) ?_
  (try simp only[↓jr,jw,seval,rb_ld,rb_len,jq2,Con.enc,Con.encs,q_e5,q_t2,ext_next,ext_tnext,Nat.le_refl,Nat.le_add_right])
  refine JDC.use (s_not pN1 _) ?_
  (try simp only[↓jr,jw,seval,rb_ld,rb_len,jq2,Con.enc,Con.encs,q_e5,q_t2,ext_next,ext_tnext,Nat.le_refl,Nat.le_add_right])
  refine JDRAW.oc (by (try simp only[↓jr,jw,seval,rb_ld,rb_len,jq2,Con.enc,Con.encs,q_e5,q_t2,ext_next,ext_tnext,Nat.le_refl,Nat.le_add_right,jq]) <;> exact orq) ?_; (try simp only[↓jr,jw,seval,rb_ld,rb_len,jq2,Con.enc,Con.encs,q_e5,q_t2,ext_next,ext_tnext,Nat.le_refl,Nat.le_add_right])
  refine JFIN.rb ?_
  exact SubB.agg ⟨SubB.sl rfl (SubBs.pure rfl), SubB.sl rfl (SubBs.pure rfl), SubB.sl rfl (SubBs.pure rfl), SubB.sl rfl (SubBs.pure rfl), SubB.sl rfl (SubBs.pure rfl), SubB.sl rfl (SubBs.pure rfl), SubB.sl rfl (SubBs.pure rfl), True.intro⟩
end
/-! ### What is kept, what is said again -/
theorem SubB.eqi {no nt : Nat} {a b : Int} (h : a = b) : SubB no nt (I64 a) (I64 b) := by subst h; exact SubB.v
theorem SubB.boo {no nt : Nat} {a b : Bool} (h : a = b) : SubB no nt (BOO a) (BOO b) := by subst h; exact SubB.v
theorem JDropH.keepT {j j1 : JH} {l n : List AObj} (h : TokExt j j1) (hl : l.length = n.length) (hk : ∀ (k : Nat) (b : AObj), l[k]? = some b → ∃ c, n[k]? = some c ∧ OSub (pid j.next n.length) j.tnext b c) : JDropH (ext j []) (ext j1 l) (ext j n) := by
  refine ⟨?_, ?_, Nat.le_refl _, h.tnext, fun o ob ho e => ?_, fun t ht => (h.tok t ht).symm⟩
  · simp only [ext_next, pid, List.length_nil]; omega
  · simp only [ext_next, pid, h.next]; omega
  · simp only [ext_next, pid] at ho
    by_cases hlt : o < j.next
    · rw [ext_get_old (by rw [h.next]; exact hlt), h.get o hlt] at e
      exact .inl ⟨by rw [ext_next]; unfold pid; simp; omega, by rw [ext_get_old hlt]; exact e, by rw [ext_get_old hlt]; exact e⟩
    · have ek : o = pid j.next (o - j.next) := by unfold pid; omega
      rw [ek, ext_get_new h.next] at e
      obtain ⟨c, hc, hs⟩ := hk _ _ e
      exact .inr ⟨c, by rw [ek, ext_get_new rfl]; exact hc, hs⟩
end Go.Proofs.YtkcbhebbjpiibaaDoor.Pg
