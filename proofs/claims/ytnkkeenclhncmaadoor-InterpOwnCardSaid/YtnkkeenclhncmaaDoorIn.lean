/-
  The fixed calls of the statements about interpretations, walked.
-/
import Derived.Test.YtnkkeenclhncmaaDoorIm
set_option linter.unusedVariables false
set_option linter.unusedSimpArgs false
set_option maxRecDepth 100000
set_option maxHeartbeats 8000000
namespace Go.Proofs.YtnkkeenclhncmaaDoor.Pg
open Go
section
variable {m : GM} {G : Nat → Option (List AV)}
theorem pr8_drop {l : List P8} {k : Nat} : (encs PR8 l).drop (k * 2) = encs PR8 (l.drop k) := encs_drop (e := PR8) (n := 2) (fun _ => rfl) l k
theorem pr8_len {l : List P8} : (encs PR8 l).length = l.length * 2 := encs_length (e := PR8) (n := 2) (fun _ => rfl) l
theorem pr8_cons {p : P8} {r : List P8} : encs PR8 (p :: r) = I64 (p.1.val : Int) :: I64 (p.2.val : Int) :: encs PR8 r := rfl
def ir14 : IFn := ⟨26, [⟨4, none⟩], (.seq (.reg [oA 4 (.mov (kB false))]) (.seq (.seq (.reg [oA 6 (kM 0), oT 7 6 (.lenl (.r 6)), oA 8 (kM 1), oT 9 8 (.lenl (.r 8)), oA 10 (.bin .neq (.r 7) (.r 9))]) (.cond (.r 10) (.seq (.reg [oA 4 (.mov (kB false))]) .ret) .skip)) (.seq (.seq (.reg [oA 11 (kM 0), oT 12 11 (.lenl (.r 11)), oA 13 (.mov (kI 0))]) (.block 0 (.loop (.seq (.reg [oA 14 (.bin .lss (.r 13) (.r 12))]) (.seq (.cond (.r 14) .skip (.exit 0)) (.seq (.block 1 (.seq (.reg [oA 15 (kM 13), oA 5 (kM 15)]) (.seq (.draw [oA 16 (kM 0), oA 17 (kM 5), oA 18 (.iasl 2 (.r 16) (.r 17)), oL 19 18 (some 2), oA 20 (kM 1), oA 21 (kM 5), oA 22 (.iasl 2 (.r 20) (.r 21)), oL 23 22 (some 2), oA 24 (.beqA true (.r 19) (.r 23))] []) (.cond (.r 24) (.seq (.reg [oA 4 (.mov (kB false))]) .ret) .skip)))) (.reg [oA 25 (.bin .add (.r 13) (kI 1)), oA 13 (kM 25)]))))))) (.seq (.reg [oA 4 (.mov (kB true))]) .ret))))⟩
theorem c14 : cfunc Tryd.prog 14 = some ir14 := by kernel_rfl
theorem k14 : okIR (max 2 ir14.n) ir14.ir = true := by decide +kernel
theorem s_SamePairs (l r : List P8) (t1 t2 : Tok) (h1 : l.length ≤ 4000000000) (h2 : r.length ≤ 4000000000) (j : JH) : JC Tryd.prog G 14 [.sl t1 l.length (encs PR8 l), .sl t2 r.length (encs PR8 r)] j (RET (BOO (decide (l = r))) j) := by
  refine JC.run hmix c14 (by exact k14) ?_
  (try simp only[↓jr,jw,seval,pr8_drop,pr8_len,pr8_cons,ir14])
  refine wq.intro (fun q => ?_) (fun q => ?_)
  · (try simp only[↓jr,jw,seval,pr8_drop,pr8_len,pr8_cons])
    refine JLOOP.of (σ := Nat) (fun k => k ≤ l.length ∧ decide (l.drop k = r.drop k) = decide (l = r)) (fun k => l.length - k) (fun k => [(13, I64 k), (12, I64 l.length), (0, .sl .none l.length (encs PR8 l)), (1, .sl .none r.length (encs PR8 r))]) (fun k => ext j []) 0 ⟨by omega, rfl⟩ ?_ (JDropH.refl _) ?_
    · (try simp only[↓jr,jw,seval,pr8_drop,pr8_len,pr8_cons,DL])
      exact ⟨SubB.v, SubB.v, SubB.sl rfl (SubBs.pure (pr8_pur _)), SubB.sl rfl (SubBs.pure (pr8_pur _))⟩
    rintro k ⟨hk, hI⟩
    (try simp only[↓jr,jw,seval,pr8_drop,pr8_len,pr8_cons])
    refine wq.intro (fun q1 => ?_) (fun q1 => ?_)
    · have hlt : k < (l).length := by omega
      obtain ⟨x, u, hd⟩ : ∃ c_ l_, List.drop k (l) = c_ :: l_ := ⟨_, _, List.drop_eq_getElem_cons hlt⟩
      have hd1 : List.drop (k + 1) (l) = u := by rw [← List.drop_drop, hd]; rfl
      have hmem : x ∈ l := List.mem_of_mem_drop (hd ▸ List.mem_cons_self)
      obtain ⟨y, v, hr⟩ : ∃ y v, r.drop k = y :: v := ⟨_, _, List.drop_eq_getElem_cons (by omega)⟩
      have hr1 : r.drop (k + 1) = v := by rw [← List.drop_drop, hr]; rfl
      rw [hd, hr] at hI
      (try simp only[↓jr,jw,seval,pr8_drop,pr8_len,pr8_cons,hd,hr])
      refine wc.intro (by omega) ?_
      (try simp only[↓jr,jw,seval,pr8_drop,pr8_len,pr8_cons,hd,hr])
      refine wc.intro (by omega) ?_
      (try simp only[↓jr,jw,seval,pr8_drop,pr8_len,pr8_cons,hd,hr])
      refine JDRAW.oc (by (try simp only[↓jr,jw,seval,pr8_drop,pr8_len,pr8_cons,jq]) <;> exact orq) ?_; (try simp only[↓jr,jw,seval,pr8_drop,pr8_len,pr8_cons])
      have exy : (((x.1.val : Int) == (y.1.val : Int)) && ((x.2.val : Int) == (y.2.val : Int))) = decide (x = y) := by
        obtain ⟨⟨a, ha⟩, ⟨b, hb⟩⟩ := x
        obtain ⟨⟨c, hc⟩, ⟨d, hd⟩⟩ := y
        rw [Bool.eq_iff_iff]
        simp
        omega
      rw [exy]
      refine ww.intro (fun q2 => ?_) (fun q2 => ?_)
      · (try simp only[↓jr,jw,seval,pr8_drop,pr8_len,pr8_cons])
        have q2' : x = y := of_decide_eq_true q2
        subst q2'
        refine wc.intro (by unfold R64; omega) ?_
        (try simp only[↓jr,jw,seval,pr8_drop,pr8_len,pr8_cons])
        refine JNEXT.of (k + 1) ⟨by omega, by rw [hd1, hr1, ← hI]; simp⟩ (by omega) ?_ JDropH.nx
        (try simp only[↓jr,jw,seval,pr8_drop,pr8_len,pr8_cons,DL])
        exact ⟨SubB.v, SubB.v, SubB.sl rfl (SubBs.pure (pr8_pur _)), SubB.sl rfl (SubBs.pure (pr8_pur _))⟩
      · (try simp only[↓jr,jw,seval,pr8_drop,pr8_len,pr8_cons])
        refine JFIN.rb ?_
        have q3 : ¬ x = y := of_decide_eq_false q2
        have e : decide (l = r) = false := by rw [← hI]; apply decide_eq_false; intro q4; injection q4 with q5 q6; exact q3 q5
        rw [e]; exact SubB.v
    · (try simp only[↓jr,jw,seval,pr8_drop,pr8_len,pr8_cons])
      rw [List.drop_eq_nil_of_le (by omega), List.drop_eq_nil_of_le (by omega)] at hI
      refine JFIN.rb ?_
      rw [← hI]; exact SubB.v
  · (try simp only[↓jr,jw,seval,pr8_drop,pr8_len,pr8_cons])
    refine JFIN.rb ?_
    rw [decide_eq_false (fun e => q (by rw [e]))]; exact SubB.v
def ir23 : IFn := ⟨11, [⟨6, (some (some 3))⟩], (.seq (.reg [oA 6 (.alloc 44 [.v (.int .i64 0), .v (.int .i64 0), .sl .nil 0 []])]) (.seq (.reg [oA 7 (kM 0), oA 8 (kM 1), oA 9 (kM 2), oA 10 (.build [.v (.int .i64 0), .v (.int .i64 0), .sl .nil 0 []] [(0, (1, .r 7)), (1, (1, .r 8)), (2, (1, .r 9))]), oN (.store 3 (.r 6) (.r 10))]) .ret))⟩
theorem c23 : cfunc Tryd.prog 23 = some ir23 := by kernel_rfl
theorem k23 : okIR (max 3 ir23.n) ir23.ir = true := by decide +kernel
theorem s_iCOf (o n : Int) (l : List Con) (tok : Tok) (j : JH) : JC Tryd.prog G 23 [I64 o, I64 n, .sl tok l.length (encs Con.enc l)] j (RET (.agg (Con.mk o n l).enc) j) := by
  refine JC.run hmix c23 (by exact k23) ?_
  (try simp only[↓jr,jw,seval,ir23])
  refine JFIN.rb ?_
  (repeat' (first | exact trivial | refine And.intro ?_ ?_ | exact SubB.v | exact SubB.any | ((first | refine SubB.ptr ?_ | refine SubB.arr ?_ | refine SubB.mp ?_) <;> first | assumption | (unfold pid; omega)) | ((first | refine SubB.pure ?_ | refine SubBs.pure ?_) <;> (simp only [AV.pure, AV.pures, pures_append, jpu, Bool.and_self, Bool.and_true, Bool.true_and]; done)) | refine SubB.fn ?_ ?_ | refine SubB.sl ?_ ?_ | refine SubB.agg ?_ | refine SubB.tup ?_ | rfl))
  rw [Con.encs_eq]; exact SubBs.pure (encs_pur Con.pur _)
def aN : Nms := ⟨[⟨#[65]⟩], [⟨#[114]⟩], []⟩
def aI : Itp := ⟨2, [[0]], [[(0, 1), (1, 1)]], []⟩
def aA : Con := .mk 0 0 []
def aC : Con := .mk 7 1 [.mk 3 0 [aA]]
def aS : Con := .mk 6 0 [aA]
theorem aI_ok : aI.ok := by
  refine ⟨⟨by decide, by decide⟩, by decide, fun l hl => ?_, by decide, fun l hl => ?_, by decide, fun x hx => by cases hx⟩
  · obtain rfl : l = [0] := by simpa [aI] using hl
    exact ⟨by decide, fun x hx => by obtain rfl : x = 0 := by simpa using hx
                                     exact ⟨by decide, by decide⟩⟩
  · obtain rfl : l = [(0, 1), (1, 1)] := by simpa [aI] using hl
    refine ⟨by decide, fun p hp => ?_⟩
    simp only [List.mem_cons, List.not_mem_nil, or_false] at hp
    rcases hp with rfl | rfl <;> exact ⟨⟨by decide, by decide⟩, ⟨by decide, by decide⟩⟩
theorem aN_ok : aN.ok ∧ aN.short := by
  refine ⟨⟨by decide, by decide, by decide⟩, ?_⟩
  intro l hl s hs
  simp only [Nms.lists, aN, List.mem_cons, List.not_mem_nil, or_false] at hl
  rcases hl with rfl | rfl | rfl
  · obtain rfl : s = ⟨#[65]⟩ := by simpa using hs
    decide
  · obtain rfl : s = ⟨#[114]⟩ := by simpa using hs
    decide
  · cases hs
theorem JC.weakS {P : Program} {G : Nat → Option (List AV)} {f : FuncId} {xs ys : List AV} {j : JH} {Q : AOut → JH → Prop} (h : JC P G f ys j Q) (s : SubBs j.next j.tnext xs ys) : JC P G f xs j Q := fun hh e B0 μ w vs r hv => by
  have e1 : hh.next = j.next := congrArg JH.next e
  have e2 : hh.tnext = j.tnext := congrArg JH.tnext e
  refine h hh e B0 μ w vs r (SubBs.Vs s ⟨fun o => ?_, fun t => ?_, fun _ _ => Iff.rfl⟩ hv)
  · split
    · rfl
    · exact r.next o (by omega)
  · split
    · rfl
    · exact r.tnext t (by omega)
theorem aC_ok : aC.ok ∧ aS.ok := by
  simp [aC, aS, aA, Con.ok, Con.oks, R64]
theorem a_fine : fineI aN aI [aC] = 0 ∧ fineI aN aI [aS] = 0 ∧ fineI aN aI [] = 0 := by decide +kernel
theorem a_el : elemsI aN aC aI = [0] ∧ elemsI aN aS aI = [] := by decide +kernel
theorem a_rel {l : List P8} (h : RelOK aI 1 l) : l = [(1, 0), (1, 1)] := by
  obtain ⟨h1, h2⟩ := h
  have e : ((rolI aI 1).map toP8).map swap8 = [(1, 0), (1, 1)] := by decide +kernel
  rw [e] at h1
  have hl := h1.length_eq
  match l, hl with
  | [x, y], _ =>
    have hx : x ∈ ([(1, 0), (1, 1)] : List P8) := h1.mem_iff.1 (by simp)
    have hy : y ∈ ([(1, 0), (1, 1)] : List P8) := h1.mem_iff.1 (by simp)
    have hp := List.pairwise_cons.1 h2
    have := hp.1 y (by simp)
    simp only [List.mem_cons, List.not_mem_nil, or_false] at hx hy
    rcases hx with rfl | rfl <;> rcases hy with rfl | rfl
    · exact absurd h1 (by decide)
    · rfl
    · exact absurd this (by decide)
    · exact absurd h1 (by decide)
theorem s_Pairs0 (n : Nms) (hn : n.ok) (hs : n.short) (i : Itp) (hok : i.ok) (r : Int) (hf : fineI n i [] = 0) (h1 : 2 * (i.rols.length : Int) ≤ r) (j : JH) :
    JC Tryd.prog (GG m) 9 [.agg n.enc, .agg i.enc, I64 r] j (RET (.tup [.sl .nil 0 [], I64 1]) j) := by
  have hk1 := hok.r1
  obtain ⟨_, _, h3⟩ := fineI_zero hf
  have hrl := (Itp.wf_of h3).2.2.1
  refine JC.run hmix c9 (by exact k9) ?_
  (try simp only[↓jr,jw,seval,ji,ir9])
  have hf0 := s_ifine (m := m) i hok n hn hs [] .nil trivial (by simp) (by simp) (ext j [.cells 24 n.enc, .cells 29 i.enc])
  rw [encs_nil, hf] at hf0
  refine JCs.ret hf0 ?_
  (try simp only[↓jr,jw,seval,ji])
  refine wq.intro (fun q => absurd q (by omega)) (fun _ => ?_)
  (try simp only[↓jr,jw,seval,ji])
  refine wr.in (by unfold R64; omega) ?_
  (try simp only[↓jr,jw,seval,ji])
  refine wq.intro (fun _ => ?_) (fun q => absurd q (by omega))
  (try simp only[↓jr,jw,seval,ji])
  refine JFIN.rb ?_
  exact SubB.tup ⟨SubB.pure rfl, SubB.v, True.intro⟩
theorem s_iOf1 (o n : Int) (c : Con) (tok : Tok) (j : JH) : JC Tryd.prog G 23 [I64 o, I64 n, .sl tok 1 c.enc] j (RET (.agg (Con.mk o n [c]).enc) j) := by
  have h := s_iCOf (G := G) o n [c] tok j
  rwa [encs_cons, encs_nil, List.append_nil] at h
theorem sub_aN {no nt : Nat} (t1 t2 : Tok) : SubB no nt (.agg [.sl t1 1 [STR ⟨#[65]⟩], .sl t2 1 [STR ⟨#[114]⟩], .sl .nil 0 []]) (.agg aN.enc) :=
  SubB.agg ⟨SubB.sl rfl ⟨SubB.v, trivial⟩, SubB.sl rfl ⟨SubB.v, trivial⟩, SubB.sl rfl trivial, trivial⟩
theorem sub_aI {no nt : Nat} (t1 t2 t3 t4 : Tok) : SubB no nt (.agg [I64 2, .sl t1 1 [.sl t2 1 [I64 0]], .sl t3 1 [.sl t4 2 [I64 0, I64 1, I64 1, I64 1]], .sl .nil 0 []]) (.agg aI.enc) :=
  SubB.agg ⟨SubB.v, SubB.sl rfl ⟨SubB.sl rfl ⟨SubB.v, trivial⟩, trivial⟩, SubB.sl rfl ⟨SubB.sl rfl ⟨SubB.v, SubB.v, SubB.v, SubB.v, trivial⟩, trivial⟩, SubB.sl rfl trivial, trivial⟩
def ir8 : IFn := ⟨86, [⟨0, none⟩], (.seq (.reg [oA 0 (.mov (kB false))]) (.seq (.reg [oA 12 (.bsl 1 1 [.v (.string ⟨#[]⟩)] [(0, (1, .k (.v (.string ⟨#[65]⟩))))]), oA 13 (.bsl 1 1 [.v (.string ⟨#[]⟩)] [(0, (1, .k (.v (.string ⟨#[114]⟩))))]), oA 14 (.build [.sl .nil 0 [], .sl .nil 0 [], .sl .nil 0 []] [(0, (1, .r 12)), (1, (1, .r 13))]), oA 1 (.alloc 24 [.sl .nil 0 [], .sl .nil 0 [], .sl .nil 0 []]), oN (.store 3 (.r 1) (.r 14))]) (.seq (.reg [oA 15 (.bsl 1 1 [.v (.int .i64 0)] [(0, (1, .k (.v (.int .i64 0))))]), oA 16 (.bsl 1 1 [.sl .nil 0 []] [(0, (1, .r 15))]), oA 17 (.build [.v (.int .i64 0), .v (.int .i64 0)] [(0, (1, .k (.v (.int .i64 0)))), (1, (1, .k (.v (.int .i64 1))))]), oA 18 (.build [.v (.int .i64 0), .v (.int .i64 0)] [(0, (1, .k (.v (.int .i64 1)))), (1, (1, .k (.v (.int .i64 1))))]), oA 19 (.bsl 2 2 [.v (.int .i64 0), .v (.int .i64 0)] [(0, (2, .r 17)), (2, (2, .r 18))]), oA 20 (.bsl 1 1 [.sl .nil 0 []] [(0, (1, .r 19))]), oA 21 (.build [.v (.int .i64 0), .sl .nil 0 [], .sl .nil 0 [], .sl .nil 0 []] [(0, (1, .k (.v (.int .i64 2)))), (1, (1, .r 16)), (2, (1, .r 20))]), oA 2 (.alloc 29 [.v (.int .i64 0), .sl .nil 0 [], .sl .nil 0 [], .sl .nil 0 []]), oN (.store 4 (.r 2) (.r 21))]) (.seq (.reg [oA 22 (.call 23 [.k (.v (.int .i64 0)), .k (.v (.int .i64 0)), .k (.sl .nil 0 [])]), oA 23 (.bsl 1 3 [.v (.int .i64 0), .v (.int .i64 0), .sl .nil 0 []] [(0, (3, .r 22))]), oA 24 (.call 23 [.k (.v (.int .i64 3)), .k (.v (.int .i64 0)), .r 23]), oA 25 (.bsl 1 3 [.v (.int .i64 0), .v (.int .i64 0), .sl .nil 0 []] [(0, (3, .r 24))]), oA 26 (.call 23 [.k (.v (.int .i64 7)), .k (.v (.int .i64 1)), .r 25]), oA 3 (.alloc 44 [.v (.int .i64 0), .v (.int .i64 0), .sl .nil 0 []]), oN (.store 3 (.r 3) (.r 26))]) (.seq (.reg [oL 28 1 (some 3), oL 29 3 (some 3), oL 30 2 (some 4), oA 31 (.call 15 [.r 28, .r 29, .r 30]), oA 27 (kM 31), oA 32 (.ext (.r 27) 0), oA 33 (.ext (.r 27) 1), oA 4 (kM 32), oA 5 (kM 33)]) (.seq (.reg [oL 35 1 (some 3), oL 36 2 (some 4), oA 37 (.call 9 [.r 35, .r 36, .k (.v (.int .i64 1))]), oA 34 (kM 37), oA 38 (.ext (.r 34) 0), oA 39 (.ext (.r 34) 1), oA 6 (kM 38), oA 7 (kM 39)]) (.seq (.reg [oL 41 1 (some 3), oL 42 2 (some 4), oA 43 (.call 9 [.r 41, .r 42, .k (.v (.int .i64 2))]), oA 40 (kM 43), oA 44 (.ext (.r 40) 0), oA 45 (.ext (.r 40) 1), oA 8 (kM 44), oA 9 (kM 45)]) (.seq (.draw [oL 47 1 (some 3), oA 48 (.call 23 [.k (.v (.int .i64 0)), .k (.v (.int .i64 0)), .k (.sl .nil 0 [])]), oA 49 (.bsl 1 3 [.v (.int .i64 0), .v (.int .i64 0), .sl .nil 0 []] [(0, (3, .r 48))]), oA 50 (.call 23 [.k (.v (.int .i64 6)), .k (.v (.int .i64 0)), .r 49]), oL 51 2 (some 4), oA 52 (.call 15 [.r 47, .r 50, .r 51]), oA 46 (kM 52), oA 53 (.ext (.r 46) 0), oA 54 (.ext (.r 46) 1), oA 10 (kM 53), oA 11 (kM 54)] [(0, 1), (0, 3), (4, 1), (4, 3)]) (.seq (.reg [oA 55 (kM 5), oA 56 (.bin .eql (.r 55) (kI 0)), oA 57 (kM 56), ⟨(some 58), (some ((57, true))), none, (kM 4)⟩, ⟨(some 59), (some ((57, true))), none, (.bsl 1 1 [.v (.int .i64 0)] [(0, (1, .k (.v (.int .i64 0))))])⟩, ⟨(some 60), (some ((57, true))), none, (.call 19 [.r 58, .r 59])⟩, oA 61 (.pick (.r 57) (.r 60) (kB false)), oA 62 (kM 61), ⟨(some 63), (some ((62, true))), none, (kM 7)⟩, ⟨(some 64), (some ((62, true))), none, (.bin .eql (.r 63) (kI 0))⟩, oA 65 (.pick (.r 62) (.r 64) (kB false)), oA 66 (kM 65), ⟨(some 67), (some ((66, true))), none, (kM 6)⟩, ⟨(some 68), (some ((66, true))), none, (.build [.v (.int .i64 0), .v (.int .i64 0)] [(0, (1, .k (.v (.int .i64 1)))), (1, (1, .k (.v (.int .i64 0))))])⟩, ⟨(some 69), (some ((66, true))), none, (.build [.v (.int .i64 0), .v (.int .i64 0)] [(0, (1, .k (.v (.int .i64 1)))), (1, (1, .k (.v (.int .i64 1))))])⟩, ⟨(some 70), (some ((66, true))), none, (.bsl 2 2 [.v (.int .i64 0), .v (.int .i64 0)] [(0, (2, .r 68)), (2, (2, .r 69))])⟩, ⟨(some 71), (some ((66, true))), none, (.call 14 [.r 67, .r 70])⟩, oA 72 (.pick (.r 66) (.r 71) (kB false)), oA 73 (kM 72), ⟨(some 74), (some ((73, true))), none, (kM 9)⟩, ⟨(some 75), (some ((73, true))), none, (.bin .eql (.r 74) (kI 1))⟩, oA 76 (.pick (.r 73) (.r 75) (kB false)), oA 77 (kM 76), ⟨(some 78), (some ((77, true))), none, (kM 11)⟩, ⟨(some 79), (some ((77, true))), none, (.bin .eql (.r 78) (kI 0))⟩, oA 80 (.pick (.r 77) (.r 79) (kB false)), oA 81 (kM 80), ⟨(some 82), (some ((81, true))), none, (kM 10)⟩, ⟨(some 83), (some ((81, true))), (some (.r 82)), (.lenl (.r 82))⟩, ⟨(some 84), (some ((81, true))), none, (.bin .eql (.r 83) (kI 0))⟩, oA 85 (.pick (.r 81) (.r 84) (kB false)), oA 0 (kM 85)]) .ret)))))))))⟩
theorem c8 : cfunc Tryd.prog 8 = some ir8 := by kernel_rfl
theorem k8 : okIR (max 0 ir8.n) ir8.ir = true := by decide +kernel
theorem s_awake3 (j : JH) : JC Tryd.prog (GG m) 8 [] j (RET (BOO true) j) := by
  refine JC.run hmix c8 (by exact k8) ?_
  (try simp only[↓jr,jw,seval,ji,ir8])
  refine JCs.ret (s_iCOf 0 0 [] .nil _) ?_
  (try simp only[↓jr,jw,seval,ji])
  refine JCs.ret (s_iOf1 3 0 aA _ _) ?_
  (try simp only[↓jr,jw,seval,ji])
  refine JCs.ret (s_iOf1 7 1 (.mk 3 0 [aA]) _ _) ?_
  (try simp only[↓jr,jw,seval,ji])
  refine JCs.ret (JC.weakS (s_Elements' aN aN_ok.1 aN_ok.2 aI aI_ok aC aC_ok.1 (by decide) _) ⟨sub_aN _ _, SubB.pure (Con.pur _), sub_aI _ _ _ _, trivial⟩) ?_
  rw [a_fine.1, a_el.1]
  (try simp only[↓jr,jw,seval,ji])
  refine JCs.use (JC.weakS (s_Pairs1 aN aN_ok.1 aN_ok.2 aI aI_ok 1 a_fine.2.2 (by decide) (by decide) (by decide) (by decide) _) ⟨sub_aN _ _, sub_aI _ _ _ _, SubB.v, trivial⟩) ?_
  rintro o1 j1 ⟨l1, hl1, rfl, rfl⟩
  obtain rfl := a_rel hl1
  (try simp only[↓jr,jw,seval,ji])
  refine JCs.ret (JC.weakS (s_Pairs0 aN aN_ok.1 aN_ok.2 aI aI_ok 2 a_fine.2.2 (by decide) _) ⟨sub_aN _ _, sub_aI _ _ _ _, SubB.v, trivial⟩) ?_
  (try simp only[↓jr,jw,seval,ji])
  refine JDC.use (s_iCOf 0 0 [] .nil _) ?_
  (try simp only[↓jr,jw,seval,ji])
  refine JDC.use (s_iOf1 6 0 aA _ _) ?_
  (try simp only[↓jr,jw,seval,ji])
  refine JDC.use (JC.weakS (s_Elements' aN aN_ok.1 aN_ok.2 aI aI_ok aS aC_ok.2 (by decide) _) ⟨sub_aN _ _, SubB.pure (Con.pur _), sub_aI _ _ _ _, trivial⟩) ?_
  rw [a_fine.2.1, a_el.2]
  (try simp only[↓jr,jw,seval,ji])
  refine JDRAW.oc (by (try simp only[↓jr,jw,seval,ji,jq,qe2,qe3,ext_next,ext_tnext,pushTok_next,List.length_cons,List.length_nil]) <;> (repeat' (first | exact trivial | refine And.intro ?_ ?_ | exact Nat.le_refl _ | (refine pr_extp ⟨_, rfl⟩ (some_lt ?_)) | (refine pr_extp ⟨_, rfl⟩ (fun _ q => by cases q)) | omega | (unfold pid; omega) | (simp only [pushTok_next, List.length_cons, List.length_nil]; unfold pid; omega)))) ?_; (try simp only[↓jr,jw,seval,ji])
  refine JCs.ret (s_SameIntsI [0] [0] _ _ (by decide) (by decide) _) ?_
  rw [decide_eq_true rfl]
  (try simp only[↓jr,jw,seval,ji])
  refine JCs.ret (s_SamePairs [(1, 0), (1, 1)] [(1, 0), (1, 1)] _ _ (by decide) (by decide) _) ?_
  rw [decide_eq_true rfl]
  (try simp only[↓jr,jw,seval,ji])
  refine JFIN.rb ?_
  exact SubB.v
end
end Go.Proofs.YtnkkeenclhncmaaDoor.Pg
