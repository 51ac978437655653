/-
  The reference's Only.
-/
import Derived.Test.YtcjlpklgnknpgaaGreatDoorWu
set_option linter.unusedVariables false
set_option linter.unusedSimpArgs false
set_option maxRecDepth 100000
set_option maxHeartbeats 8000000
namespace Go.Proofs.YtcjlpklgnknpgaaGreatDoor.Pg
open Go
def selO {α : Type} (l : List Int) : Nat → List α → List α
 | _, [] => []
 | i, x :: r => if (i : Int) ∈ l then x :: selO l (i + 1) r else selO l (i + 1) r
theorem RIn.one (x : RIn) : x.enc.all AV.one = true := rfl
theorem Lnk.one (x : Lnk) : x.enc.all AV.one = true := rfl
theorem selO_len {α : Type} (l : List Int) : ∀ (i : Nat) (r : List α), (selO l i r).length ≤ r.length
 | _, [] => Nat.le_refl _
 | i, x :: r => by
  have := selO_len l (i + 1) r
  unfold selO; split <;> simp only [List.length_cons] <;> omega
def rOnly (b : Bas) (l : List Int) : Bas := ⟨b.nms, selO l 0 b.incls, selO l b.incls.length b.roles, selO l (b.incls.length + b.roles.length) b.facts, selO l (b.incls.length + b.roles.length + b.facts.length) b.links⟩
section
variable {m : GM} {G : Nat → Option (List AV)}
noncomputable def ir21 : IFn := ⟨95, [⟨4, (some (some 7))⟩], (.seq (.reg [oA 2 (.box 30 (.r 0)), oA 4 (.alloc 30 [.sl .nil 0 [], .sl .nil 0 [], .sl .nil 0 [], .sl .nil 0 [], .sl .nil 0 [], .sl .nil 0 [], .sl .nil 0 []])]) (.seq (.reg [oA 15 (.fadr 0 (.r 2)), oL 16 15 (some 3), oA 17 (.build [.sl .nil 0 [], .sl .nil 0 [], .sl .nil 0 [], .sl .nil 0 [], .sl .nil 0 [], .sl .nil 0 [], .sl .nil 0 []] [(0, (3, .r 16))]), oA 5 (.alloc 30 [.sl .nil 0 [], .sl .nil 0 [], .sl .nil 0 [], .sl .nil 0 [], .sl .nil 0 [], .sl .nil 0 [], .sl .nil 0 []]), oN (.store 7 (.r 5) (.r 17))]) (.seq (.reg [oA 6 (.mov (kI 0))]) (.seq (.seq (.reg [oA 18 (.fadr 3 (.r 2)), oL 19 18 none, oT 20 19 (.lenl (.r 19)), oA 21 (.mov (kI 0))]) (.block 0 (.loop (.seq (.reg [oA 22 (.bin .lss (.r 21) (.r 20))]) (.seq (.cond (.r 22) .skip (.exit 0)) (.seq (.block 1 (.seq (.reg [oA 23 (.iasl 6 (.r 19) (.r 21)), oL 24 23 (some 6), oA 8 (.alloc 113 [.v (.int .i64 0), .v (.int .i64 0), .sl .nil 0 [], .v (.int .i64 0), .v (.int .i64 0), .sl .nil 0 []]), oN (.store 6 (.r 8) (.r 24))]) (.seq (.seq (.reg [oA 25 (kM 1), oA 26 (kM 6), oA 27 (.call 59 [.r 25, .r 26])]) (.cond (.r 27) (.reg [oA 28 (.fadr 3 (.r 5)), oL 29 28 none, oL 30 8 (some 6), oA 31 (.bsl 1 6 [.v (.int .i64 0), .v (.int .i64 0), .sl .nil 0 [], .v (.int .i64 0), .v (.int .i64 0), .sl .nil 0 []] [(0, (6, .r 30))]), oA 32 (.app 6 80 (.r 29) (.r 31)), oA 33 (.fadr 3 (.r 5)), oN (.store 1 (.r 33) (.r 32))]) .skip)) (.reg [oA 34 (kM 6), oA 35 (.bin .add (.r 34) (kI 1)), oA 6 (kM 35)])))) (.reg [oA 36 (.bin .add (.r 21) (kI 1)), oA 21 (kM 36)]))))))) (.seq (.seq (.reg [oA 37 (.fadr 4 (.r 2)), oL 38 37 none, oT 39 38 (.lenl (.r 38)), oA 40 (.mov (kI 0))]) (.block 2 (.loop (.seq (.reg [oA 41 (.bin .lss (.r 40) (.r 39))]) (.seq (.cond (.r 41) .skip (.exit 2)) (.seq (.block 3 (.seq (.reg [oA 42 (.iasl 2 (.r 38) (.r 40)), oL 43 42 (some 2), oA 10 (.alloc 116 [.v (.int .i64 0), .v (.int .i64 0)]), oN (.store 2 (.r 10) (.r 43))]) (.seq (.seq (.reg [oA 44 (kM 1), oA 45 (kM 6), oA 46 (.call 59 [.r 44, .r 45])]) (.cond (.r 46) (.reg [oA 47 (.fadr 4 (.r 5)), oL 48 47 none, oL 49 10 (some 2), oA 50 (.bsl 1 2 [.v (.int .i64 0), .v (.int .i64 0)] [(0, (2, .r 49))]), oA 51 (.app 2 16 (.r 48) (.r 50)), oA 52 (.fadr 4 (.r 5)), oN (.store 1 (.r 52) (.r 51))]) .skip)) (.reg [oA 53 (kM 6), oA 54 (.bin .add (.r 53) (kI 1)), oA 6 (kM 54)])))) (.reg [oA 55 (.bin .add (.r 40) (kI 1)), oA 40 (kM 55)]))))))) (.seq (.seq (.reg [oA 56 (.fadr 5 (.r 2)), oL 57 56 none, oT 58 57 (.lenl (.r 57)), oA 59 (.mov (kI 0))]) (.block 4 (.loop (.seq (.reg [oA 60 (.bin .lss (.r 59) (.r 58))]) (.seq (.cond (.r 60) .skip (.exit 4)) (.seq (.block 5 (.seq (.reg [oA 61 (.iasl 4 (.r 57) (.r 59)), oL 62 61 (some 4), oA 12 (.alloc 118 [.v (.int .i64 0), .v (.int .i64 0), .v (.int .i64 0), .sl .nil 0 []]), oN (.store 4 (.r 12) (.r 62))]) (.seq (.seq (.reg [oA 63 (kM 1), oA 64 (kM 6), oA 65 (.call 59 [.r 63, .r 64])]) (.cond (.r 65) (.reg [oA 66 (.fadr 5 (.r 5)), oL 67 66 none, oL 68 12 (some 4), oA 69 (.bsl 1 4 [.v (.int .i64 0), .v (.int .i64 0), .v (.int .i64 0), .sl .nil 0 []] [(0, (4, .r 68))]), oA 70 (.app 4 48 (.r 67) (.r 69)), oA 71 (.fadr 5 (.r 5)), oN (.store 1 (.r 71) (.r 70))]) .skip)) (.reg [oA 72 (kM 6), oA 73 (.bin .add (.r 72) (kI 1)), oA 6 (kM 73)])))) (.reg [oA 74 (.bin .add (.r 59) (kI 1)), oA 59 (kM 74)]))))))) (.seq (.seq (.reg [oA 75 (.fadr 6 (.r 2)), oL 76 75 none, oT 77 76 (.lenl (.r 76)), oA 78 (.mov (kI 0))]) (.block 6 (.loop (.seq (.reg [oA 79 (.bin .lss (.r 78) (.r 77))]) (.seq (.cond (.r 79) .skip (.exit 6)) (.seq (.block 7 (.seq (.reg [oA 80 (.iasl 3 (.r 76) (.r 78)), oL 81 80 (some 3), oA 14 (.alloc 120 [.v (.int .i64 0), .v (.int .i64 0), .v (.int .i64 0)]), oN (.store 3 (.r 14) (.r 81))]) (.seq (.seq (.reg [oA 82 (kM 1), oA 83 (kM 6), oA 84 (.call 59 [.r 82, .r 83])]) (.cond (.r 84) (.reg [oA 85 (.fadr 6 (.r 5)), oL 86 85 none, oL 87 14 (some 3), oA 88 (.bsl 1 3 [.v (.int .i64 0), .v (.int .i64 0), .v (.int .i64 0)] [(0, (3, .r 87))]), oA 89 (.app 3 24 (.r 86) (.r 88)), oA 90 (.fadr 6 (.r 5)), oN (.store 1 (.r 90) (.r 89))]) .skip)) (.reg [oA 91 (kM 6), oA 92 (.bin .add (.r 91) (kI 1)), oA 6 (kM 92)])))) (.reg [oA 93 (.bin .add (.r 78) (kI 1)), oA 78 (kM 93)]))))))) (.seq (.reg [oL 94 5 (some 7), oN (.store 7 (.r 4) (.r 94))]) .ret))))))))⟩
theorem c21 : cfunc Tryz.prog 21 = some ir21 := by kernel_rfl
theorem k21 : okIR (max 2 ir21.n) ir21.ir = true := by decide +kernel
theorem s_rOnly (b : Bas) (l1 : b.incls.length ≤ 1000000) (l2 : b.roles.length ≤ 1000000) (l3 : b.facts.length ≤ 1000000) (l4 : b.links.length ≤ 1000000) (l : List Int) (hl : l.length < 1000000) (j : JH) :
  JC Tryz.prog G 21 [.agg b.enc, .sl .none l.length (ints l)] j (RET (.agg (rOnly b l).enc) j) := by
 refine JC.run hmix c21 (by exact k21) ?_
 (try simp only[↓jr,jw,seval,ir21])
 have hS0 : ∀ t, (fun t => t < j.tnext) t → t < j.tnext := fun t h => h
 refine wc.intro rfl ?_
 (try simp only[↓jr,jw,seval])
 refine JLOOP.of (σ := Nat × List Inc × Tok × JH) (fun s => s.1 ≤ b.incls.length ∧ TokP (fun t => t < j.tnext) j s.2.2.2 ∧ Rws (fun t => t < j.tnext) s.2.2.2 [(s.2.2.1, 6, s.2.1.length), (.nil, 2, 0), (.nil, 4, 0), (.nil, 3, 0)] ∧ s.2.1 ++ selO l (0 + s.1) (b.incls.drop s.1) = selO l 0 b.incls) (fun s => b.incls.length - s.1)
  (fun s => [(21, I64 s.1), (20, I64 b.incls.length), (19, .sl .none b.incls.length (encs Inc.enc b.incls)), (1, .sl .none l.length (ints l)), (6, I64 ((0 + s.1 : Nat) : Int)), (2, .ptr (pid j.next 0) 0), (4, .ptr (pid j.next 1) 0), (5, .ptr (pid j.next 2) 0)])
  (fun s => Pg.ext s.2.2.2 [.cells 30 b.enc, .cells 30 ZB, .cells 30 [.sl .none b.nms.cs.length (strs b.nms.cs), .sl .none b.nms.rs.length (strs b.nms.rs), .sl .none b.nms.is.length (strs b.nms.is), .sl s.2.2.1 s.2.1.length (encs Inc.enc s.2.1), .sl .nil 0 [], .sl .nil 0 [], .sl .nil 0 []]]) (0, [], .nil, j) ⟨Nat.zero_le _, TokP.refl hS0, Rws.nil (by simp), rfl⟩ ?_ (JDropH.refl _) ?_
 ·(try simp only[↓jr,jw,seval,DL])
  exact ⟨SubB.v, SubB.v, SubB.sl rfl (SubBs.pure (encs_pur Inc.pur _)), SubB.sl rfl (SubBs.pure (ints_pur _)), SubB.v, SubB.ptr (by unfold pid; omega), SubB.ptr (by unfold pid; omega), SubB.ptr (by unfold pid; omega)⟩
 rintro ⟨k, ac0, tk0, jx0⟩ ⟨hk, hP0, hR0, hI0⟩
 simp only at hk hP0 hR0 hI0
 have hnx0 := hP0.next
 (try simp only[↓jr,jw,seval,hnx0])
 refine wq.intro (fun h1 => ?_) (fun h1 => ?_)
 ·have hlt : k < (b.incls).length := by omega
  obtain ⟨x, r, hd⟩ : ∃ c_ l_, List.drop k (b.incls) = c_ :: l_ := ⟨_, _, List.drop_eq_getElem_cons hlt⟩
  have hd1 : List.drop (k + 1) (b.incls) = r := by rw [← List.drop_drop, hd]; rfl
  have hmem : x ∈ b.incls := List.mem_of_mem_drop (hd ▸ List.mem_cons_self)
  have e2 : ac0.length ≤ 1000000 := by
   have := congrArg List.length hI0; rw [List.length_append] at this
   have := selO_len l 0 b.incls
   omega
  rw [hd] at hI0
  have hS : ∀ t, (fun t => t < j.tnext) t → t < jx0.tnext := fun t q => Nat.lt_of_lt_of_le q hP0.tnext
  (try simp only[↓jr,jw,seval,hd,hnx0])
  refine wc.intro (by omega) ?_
  (try simp only[↓jr,jw,seval,hd,hnx0])
  refine JCs.ret (s_rHas l hl _ _) ?_
  (try simp only[↓jr,jw,seval,hd,hnx0])
  refine wq.intro (fun hm => ?_) (fun hm => ?_)
  ·have hm' : ((0 + k : Nat) : Int) ∈ l := by first | exact hm | (rw [Int.natCast_add]; exact hm) | simpa using hm
   obtain ⟨g1, g2, g3⟩ := hR0.grow hS (i := 0) rfl
   obtain ⟨tok1, j1, f1, f2, kk⟩ := JAPP.ex (j := jx0.pushTok 1) g1.push (fun t q => Nat.lt_succ_of_lt (g2 t q)) 1
   have f2' : TokP _ jx0 j1 := (TokP.push (TokP.refl g2) 1).trans ⟨f2.next, f2.get, f2.tnext, f2.tok, f2.lo⟩
   obtain ⟨g4, g5⟩ := g3 f1 f2'
   have g6 := hP0.trans g5
   have hn2 : j1.next = j.next := g6.next
   (try simp only[↓jr,jw,seval,hnx0])
   refine kk (by rw [encs_length Inc.len]) (Inc.len x) (Inc.one x) (by omega) (by omega) ?_
   (try simp only[↓jr,jw,seval,hn2])
   refine wc.intro (by unfold R64; omega) ?_
   (try simp only[↓jr,jw,seval,hn2])
   refine wc.intro (by unfold R64; omega) ?_
   (try simp only[↓jr,jw,seval,hn2])
   have hl1 : (ac0 ++ [x]).length = ac0.length + 1 := by simp
   have he1 : encs Inc.enc (ac0 ++ [x]) = encs Inc.enc ac0 ++ x.enc := by rw [encs_app, encs_sing]
   refine JNEXT.of (k + 1, ac0 ++ [x], tok1, j1) ⟨by simp only; omega, g6, by simp only [hl1]; exact g4, by simp only [hd1]; rw [← hI0, selO, if_pos hm', List.append_assoc]; first | rfl | (rw [Nat.zero_add]; done) | (rw [Nat.zero_add]; rfl)⟩ (by simp only; omega) ?_ ?_
   ·(try simp only[↓jr,jw,seval,DL])
    exact ⟨SubB.v, SubB.v, SubB.sl rfl (SubBs.pure (encs_pur Inc.pur _)), SubB.sl rfl (SubBs.pure (ints_pur _)), SubB.v, SubB.ptr (by rw [hn2]; unfold pid; omega), SubB.ptr (by rw [hn2]; unfold pid; omega), SubB.ptr (by rw [hn2]; unfold pid; omega)⟩
   ·simp only [hl1, he1]
    refine JDropH.next (TokExt.refl _) g5.next g5.tnext (fun o ob ho q => .inl (by rw [← g5.get o ho]; exact q)) ⟨.inl ⟨rfl, rfl⟩, .inl ⟨rfl, rfl⟩, .inr ⟨rfl, SubB.sl rfl (SubBs.pure (strs_pur _)), SubB.sl rfl (SubBs.pure (strs_pur _)), SubB.sl rfl (SubBs.pure (strs_pur _)), SubB.grown (g4.1 0 _ rfl) (Nat.le_refl _) (by rw [pures_append, encs_pur Inc.pur, Inc.pur]; rfl), SubB.pure rfl, SubB.pure rfl, SubB.pure rfl, True.intro⟩, True.intro⟩
  ·have hm' : ¬ ((0 + k : Nat) : Int) ∈ l := by first | exact hm | (rw [Int.natCast_add]; exact hm) | simpa using hm
   (try simp only[↓jr,jw,seval,hnx0])
   refine wc.intro (by unfold R64; omega) ?_
   (try simp only[↓jr,jw,seval,hnx0])
   refine wc.intro (by unfold R64; omega) ?_
   (try simp only[↓jr,jw,seval,hnx0])
   refine JNEXT.of (k + 1, ac0, tk0, jx0) ⟨by simp only; omega, hP0, hR0, by simp only [hd1]; rw [← hI0, selO, if_neg hm']; try (first | rfl | (rw [Nat.zero_add]; done) | (rw [Nat.zero_add]; rfl))⟩ (by simp only; omega) ?_ ?_
   ·(try simp only[↓jr,jw,seval,DL])
    exact ⟨SubB.v, SubB.v, SubB.sl rfl (SubBs.pure (encs_pur Inc.pur _)), SubB.sl rfl (SubBs.pure (ints_pur _)), SubB.v, SubB.ptr (by rw [hnx0]; unfold pid; omega), SubB.ptr (by rw [hnx0]; unfold pid; omega), SubB.ptr (by rw [hnx0]; unfold pid; omega)⟩
   ·refine JDropH.next (TokExt.refl _) rfl (Nat.le_refl _) (fun o ob ho q => .inl q) ⟨.inl ⟨rfl, rfl⟩, .inl ⟨rfl, rfl⟩, .inl ⟨rfl, rfl⟩, True.intro⟩
 (try simp only[↓jr,jw,seval,hnx0])
 rw [List.drop_eq_nil_of_le (by omega), selO, List.append_nil] at hI0
 have ek0 : k = b.incls.length := by omega
 subst ek0
 clear h1 hk
 refine JLOOP.of (σ := Nat × List RIn × Tok × JH) (fun s => s.1 ≤ b.roles.length ∧ TokP (fun t => t < j.tnext) j s.2.2.2 ∧ Rws (fun t => t < j.tnext) s.2.2.2 [(tk0, 6, ac0.length), (s.2.2.1, 2, s.2.1.length), (.nil, 4, 0), (.nil, 3, 0)] ∧ s.2.1 ++ selO l (b.incls.length + s.1) (b.roles.drop s.1) = selO l b.incls.length b.roles) (fun s => b.roles.length - s.1)
  (fun s => [(40, I64 s.1), (39, I64 b.roles.length), (38, .sl .none b.roles.length (encs RIn.enc b.roles)), (1, .sl .none l.length (ints l)), (6, I64 ((b.incls.length + s.1 : Nat) : Int)), (2, .ptr (pid j.next 0) 0), (4, .ptr (pid j.next 1) 0), (5, .ptr (pid j.next 2) 0)])
  (fun s => Pg.ext s.2.2.2 [.cells 30 b.enc, .cells 30 ZB, .cells 30 [.sl .none b.nms.cs.length (strs b.nms.cs), .sl .none b.nms.rs.length (strs b.nms.rs), .sl .none b.nms.is.length (strs b.nms.is), .sl tk0 ac0.length (encs Inc.enc ac0), .sl s.2.2.1 s.2.1.length (encs RIn.enc s.2.1), .sl .nil 0 [], .sl .nil 0 []]]) (0, [], .nil, jx0) ⟨Nat.zero_le _, hP0, hR0, rfl⟩ ?_ (JDropH.refl _) ?_
 ·(try simp only[↓jr,jw,seval,DL])
  exact ⟨SubB.v, SubB.v, SubB.sl rfl (SubBs.pure (encs_pur RIn.pur _)), SubB.sl rfl (SubBs.pure (ints_pur _)), SubB.v, SubB.ptr (by have := hP0.next; unfold pid; omega), SubB.ptr (by have := hP0.next; unfold pid; omega), SubB.ptr (by have := hP0.next; unfold pid; omega)⟩
 rintro ⟨k, ac1, tk1, jx1⟩ ⟨hk, hP1, hR1, hI1⟩
 simp only at hk hP1 hR1 hI1
 have hnx1 := hP1.next
 (try simp only[↓jr,jw,seval,hnx1])
 refine wq.intro (fun h1 => ?_) (fun h1 => ?_)
 ·have hlt : k < (b.roles).length := by omega
  obtain ⟨x, r, hd⟩ : ∃ c_ l_, List.drop k (b.roles) = c_ :: l_ := ⟨_, _, List.drop_eq_getElem_cons hlt⟩
  have hd1 : List.drop (k + 1) (b.roles) = r := by rw [← List.drop_drop, hd]; rfl
  have hmem : x ∈ b.roles := List.mem_of_mem_drop (hd ▸ List.mem_cons_self)
  have e2 : ac1.length ≤ 1000000 := by
   have := congrArg List.length hI1; rw [List.length_append] at this
   have := selO_len l b.incls.length b.roles
   omega
  rw [hd] at hI1
  have hS : ∀ t, (fun t => t < j.tnext) t → t < jx1.tnext := fun t q => Nat.lt_of_lt_of_le q hP1.tnext
  (try simp only[↓jr,jw,seval,hd,hnx1])
  refine wc.intro (by omega) ?_
  (try simp only[↓jr,jw,seval,hd,hnx1])
  refine JCs.ret (s_rHas l hl _ _) ?_
  (try simp only[↓jr,jw,seval,hd,hnx1])
  refine wq.intro (fun hm => ?_) (fun hm => ?_)
  ·have hm' : ((b.incls.length + k : Nat) : Int) ∈ l := by first | exact hm | (rw [Int.natCast_add]; exact hm) | simpa using hm
   obtain ⟨g1, g2, g3⟩ := hR1.grow hS (i := 1) rfl
   obtain ⟨tok1, j1, f1, f2, kk⟩ := JAPP.ex (j := jx1.pushTok 1) g1.push (fun t q => Nat.lt_succ_of_lt (g2 t q)) 1
   have f2' : TokP _ jx1 j1 := (TokP.push (TokP.refl g2) 1).trans ⟨f2.next, f2.get, f2.tnext, f2.tok, f2.lo⟩
   obtain ⟨g4, g5⟩ := g3 f1 f2'
   have g6 := hP1.trans g5
   have hn2 : j1.next = j.next := g6.next
   (try simp only[↓jr,jw,seval,hnx1])
   refine kk (by rw [encs_length RIn.len]) (RIn.len x) (RIn.one x) (by omega) (by omega) ?_
   (try simp only[↓jr,jw,seval,hn2])
   refine wc.intro (by unfold R64; omega) ?_
   (try simp only[↓jr,jw,seval,hn2])
   refine wc.intro (by unfold R64; omega) ?_
   (try simp only[↓jr,jw,seval,hn2])
   have hl1 : (ac1 ++ [x]).length = ac1.length + 1 := by simp
   have he1 : encs RIn.enc (ac1 ++ [x]) = encs RIn.enc ac1 ++ x.enc := by rw [encs_app, encs_sing]
   refine JNEXT.of (k + 1, ac1 ++ [x], tok1, j1) ⟨by simp only; omega, g6, by simp only [hl1]; exact g4, by simp only [hd1]; rw [← hI1, selO, if_pos hm', List.append_assoc]; first | rfl | (rw [Nat.zero_add]; done) | (rw [Nat.zero_add]; rfl)⟩ (by simp only; omega) ?_ ?_
   ·(try simp only[↓jr,jw,seval,DL])
    exact ⟨SubB.v, SubB.v, SubB.sl rfl (SubBs.pure (encs_pur RIn.pur _)), SubB.sl rfl (SubBs.pure (ints_pur _)), SubB.v, SubB.ptr (by rw [hn2]; unfold pid; omega), SubB.ptr (by rw [hn2]; unfold pid; omega), SubB.ptr (by rw [hn2]; unfold pid; omega)⟩
   ·simp only [hl1, he1]
    refine JDropH.next (TokExt.refl _) g5.next g5.tnext (fun o ob ho q => .inl (by rw [← g5.get o ho]; exact q)) ⟨.inl ⟨rfl, rfl⟩, .inl ⟨rfl, rfl⟩, .inr ⟨rfl, SubB.sl rfl (SubBs.pure (strs_pur _)), SubB.sl rfl (SubBs.pure (strs_pur _)), SubB.sl rfl (SubBs.pure (strs_pur _)), SubB.grown (g4.1 0 _ rfl) (Nat.le_refl _) (encs_pur Inc.pur _), SubB.grown (g4.1 1 _ rfl) (Nat.le_refl _) (by rw [pures_append, encs_pur RIn.pur, RIn.pur]; rfl), SubB.pure rfl, SubB.pure rfl, True.intro⟩, True.intro⟩
  ·have hm' : ¬ ((b.incls.length + k : Nat) : Int) ∈ l := by first | exact hm | (rw [Int.natCast_add]; exact hm) | simpa using hm
   (try simp only[↓jr,jw,seval,hnx1])
   refine wc.intro (by unfold R64; omega) ?_
   (try simp only[↓jr,jw,seval,hnx1])
   refine wc.intro (by unfold R64; omega) ?_
   (try simp only[↓jr,jw,seval,hnx1])
   refine JNEXT.of (k + 1, ac1, tk1, jx1) ⟨by simp only; omega, hP1, hR1, by simp only [hd1]; rw [← hI1, selO, if_neg hm']; try (first | rfl | (rw [Nat.zero_add]; done) | (rw [Nat.zero_add]; rfl))⟩ (by simp only; omega) ?_ ?_
   ·(try simp only[↓jr,jw,seval,DL])
    exact ⟨SubB.v, SubB.v, SubB.sl rfl (SubBs.pure (encs_pur RIn.pur _)), SubB.sl rfl (SubBs.pure (ints_pur _)), SubB.v, SubB.ptr (by rw [hnx1]; unfold pid; omega), SubB.ptr (by rw [hnx1]; unfold pid; omega), SubB.ptr (by rw [hnx1]; unfold pid; omega)⟩
   ·refine JDropH.next (TokExt.refl _) rfl (Nat.le_refl _) (fun o ob ho q => .inl q) ⟨.inl ⟨rfl, rfl⟩, .inl ⟨rfl, rfl⟩, .inl ⟨rfl, rfl⟩, True.intro⟩
 (try simp only[↓jr,jw,seval,hnx1])
 rw [List.drop_eq_nil_of_le (by omega), selO, List.append_nil] at hI1
 have ek1 : k = b.roles.length := by omega
 subst ek1
 clear h1 hk
 refine JLOOP.of (σ := Nat × List Fac × Tok × JH) (fun s => s.1 ≤ b.facts.length ∧ TokP (fun t => t < j.tnext) j s.2.2.2 ∧ Rws (fun t => t < j.tnext) s.2.2.2 [(tk0, 6, ac0.length), (tk1, 2, ac1.length), (s.2.2.1, 4, s.2.1.length), (.nil, 3, 0)] ∧ s.2.1 ++ selO l ((b.incls.length + b.roles.length) + s.1) (b.facts.drop s.1) = selO l (b.incls.length + b.roles.length) b.facts) (fun s => b.facts.length - s.1)
  (fun s => [(59, I64 s.1), (58, I64 b.facts.length), (57, .sl .none b.facts.length (encs Fac.enc b.facts)), (1, .sl .none l.length (ints l)), (6, I64 (((b.incls.length + b.roles.length) + s.1 : Nat) : Int)), (2, .ptr (pid j.next 0) 0), (4, .ptr (pid j.next 1) 0), (5, .ptr (pid j.next 2) 0)])
  (fun s => Pg.ext s.2.2.2 [.cells 30 b.enc, .cells 30 ZB, .cells 30 [.sl .none b.nms.cs.length (strs b.nms.cs), .sl .none b.nms.rs.length (strs b.nms.rs), .sl .none b.nms.is.length (strs b.nms.is), .sl tk0 ac0.length (encs Inc.enc ac0), .sl tk1 ac1.length (encs RIn.enc ac1), .sl s.2.2.1 s.2.1.length (encs Fac.enc s.2.1), .sl .nil 0 []]]) (0, [], .nil, jx1) ⟨Nat.zero_le _, hP1, hR1, rfl⟩ ?_ (JDropH.refl _) ?_
 ·(try simp only[↓jr,jw,seval,DL])
  exact ⟨SubB.v, SubB.v, SubB.sl rfl (SubBs.pure (encs_pur Fac.pur _)), SubB.sl rfl (SubBs.pure (ints_pur _)), SubB.v, SubB.ptr (by have := hP1.next; unfold pid; omega), SubB.ptr (by have := hP1.next; unfold pid; omega), SubB.ptr (by have := hP1.next; unfold pid; omega)⟩
 rintro ⟨k, ac2, tk2, jx2⟩ ⟨hk, hP2, hR2, hI2⟩
 simp only at hk hP2 hR2 hI2
 have hnx2 := hP2.next
 (try simp only[↓jr,jw,seval,hnx2])
 refine wq.intro (fun h1 => ?_) (fun h1 => ?_)
 ·have hlt : k < (b.facts).length := by omega
  obtain ⟨x, r, hd⟩ : ∃ c_ l_, List.drop k (b.facts) = c_ :: l_ := ⟨_, _, List.drop_eq_getElem_cons hlt⟩
  have hd1 : List.drop (k + 1) (b.facts) = r := by rw [← List.drop_drop, hd]; rfl
  have hmem : x ∈ b.facts := List.mem_of_mem_drop (hd ▸ List.mem_cons_self)
  have e2 : ac2.length ≤ 1000000 := by
   have := congrArg List.length hI2; rw [List.length_append] at this
   have := selO_len l (b.incls.length + b.roles.length) b.facts
   omega
  rw [hd] at hI2
  have hS : ∀ t, (fun t => t < j.tnext) t → t < jx2.tnext := fun t q => Nat.lt_of_lt_of_le q hP2.tnext
  (try simp only[↓jr,jw,seval,hd,hnx2])
  refine wc.intro (by omega) ?_
  (try simp only[↓jr,jw,seval,hd,hnx2])
  refine JCs.ret (s_rHas l hl _ _) ?_
  (try simp only[↓jr,jw,seval,hd,hnx2])
  refine wq.intro (fun hm => ?_) (fun hm => ?_)
  ·have hm' : (((b.incls.length + b.roles.length) + k : Nat) : Int) ∈ l := by first | exact hm | (rw [Int.natCast_add]; exact hm) | simpa using hm
   obtain ⟨g1, g2, g3⟩ := hR2.grow hS (i := 2) rfl
   obtain ⟨tok1, j1, f1, f2, kk⟩ := JAPP.ex (j := jx2.pushTok 1) g1.push (fun t q => Nat.lt_succ_of_lt (g2 t q)) 1
   have f2' : TokP _ jx2 j1 := (TokP.push (TokP.refl g2) 1).trans ⟨f2.next, f2.get, f2.tnext, f2.tok, f2.lo⟩
   obtain ⟨g4, g5⟩ := g3 f1 f2'
   have g6 := hP2.trans g5
   have hn2 : j1.next = j.next := g6.next
   (try simp only[↓jr,jw,seval,hnx2])
   refine kk (by rw [encs_length Fac.len]) (Fac.len x) (Fac.one x) (by omega) (by omega) ?_
   (try simp only[↓jr,jw,seval,hn2])
   refine wc.intro (by unfold R64; omega) ?_
   (try simp only[↓jr,jw,seval,hn2])
   refine wc.intro (by unfold R64; omega) ?_
   (try simp only[↓jr,jw,seval,hn2])
   have hl1 : (ac2 ++ [x]).length = ac2.length + 1 := by simp
   have he1 : encs Fac.enc (ac2 ++ [x]) = encs Fac.enc ac2 ++ x.enc := by rw [encs_app, encs_sing]
   refine JNEXT.of (k + 1, ac2 ++ [x], tok1, j1) ⟨by simp only; omega, g6, by simp only [hl1]; exact g4, by simp only [hd1]; rw [← hI2, selO, if_pos hm', List.append_assoc]; first | rfl | (rw [Nat.zero_add]; done) | (rw [Nat.zero_add]; rfl)⟩ (by simp only; omega) ?_ ?_
   ·(try simp only[↓jr,jw,seval,DL])
    exact ⟨SubB.v, SubB.v, SubB.sl rfl (SubBs.pure (encs_pur Fac.pur _)), SubB.sl rfl (SubBs.pure (ints_pur _)), SubB.v, SubB.ptr (by rw [hn2]; unfold pid; omega), SubB.ptr (by rw [hn2]; unfold pid; omega), SubB.ptr (by rw [hn2]; unfold pid; omega)⟩
   ·simp only [hl1, he1]
    refine JDropH.next (TokExt.refl _) g5.next g5.tnext (fun o ob ho q => .inl (by rw [← g5.get o ho]; exact q)) ⟨.inl ⟨rfl, rfl⟩, .inl ⟨rfl, rfl⟩, .inr ⟨rfl, SubB.sl rfl (SubBs.pure (strs_pur _)), SubB.sl rfl (SubBs.pure (strs_pur _)), SubB.sl rfl (SubBs.pure (strs_pur _)), SubB.grown (g4.1 0 _ rfl) (Nat.le_refl _) (encs_pur Inc.pur _), SubB.grown (g4.1 1 _ rfl) (Nat.le_refl _) (encs_pur RIn.pur _), SubB.grown (g4.1 2 _ rfl) (Nat.le_refl _) (by rw [pures_append, encs_pur Fac.pur, Fac.pur]; rfl), SubB.pure rfl, True.intro⟩, True.intro⟩
  ·have hm' : ¬ (((b.incls.length + b.roles.length) + k : Nat) : Int) ∈ l := by first | exact hm | (rw [Int.natCast_add]; exact hm) | simpa using hm
   (try simp only[↓jr,jw,seval,hnx2])
   refine wc.intro (by unfold R64; omega) ?_
   (try simp only[↓jr,jw,seval,hnx2])
   refine wc.intro (by unfold R64; omega) ?_
   (try simp only[↓jr,jw,seval,hnx2])
   refine JNEXT.of (k + 1, ac2, tk2, jx2) ⟨by simp only; omega, hP2, hR2, by simp only [hd1]; rw [← hI2, selO, if_neg hm']; try (first | rfl | (rw [Nat.zero_add]; done) | (rw [Nat.zero_add]; rfl))⟩ (by simp only; omega) ?_ ?_
   ·(try simp only[↓jr,jw,seval,DL])
    exact ⟨SubB.v, SubB.v, SubB.sl rfl (SubBs.pure (encs_pur Fac.pur _)), SubB.sl rfl (SubBs.pure (ints_pur _)), SubB.v, SubB.ptr (by rw [hnx2]; unfold pid; omega), SubB.ptr (by rw [hnx2]; unfold pid; omega), SubB.ptr (by rw [hnx2]; unfold pid; omega)⟩
   ·refine JDropH.next (TokExt.refl _) rfl (Nat.le_refl _) (fun o ob ho q => .inl q) ⟨.inl ⟨rfl, rfl⟩, .inl ⟨rfl, rfl⟩, .inl ⟨rfl, rfl⟩, True.intro⟩
 (try simp only[↓jr,jw,seval,hnx2])
 rw [List.drop_eq_nil_of_le (by omega), selO, List.append_nil] at hI2
 have ek2 : k = b.facts.length := by omega
 subst ek2
 clear h1 hk
 refine JLOOP.of (σ := Nat × List Lnk × Tok × JH) (fun s => s.1 ≤ b.links.length ∧ TokP (fun t => t < j.tnext) j s.2.2.2 ∧ Rws (fun t => t < j.tnext) s.2.2.2 [(tk0, 6, ac0.length), (tk1, 2, ac1.length), (tk2, 4, ac2.length), (s.2.2.1, 3, s.2.1.length)] ∧ s.2.1 ++ selO l ((b.incls.length + b.roles.length + b.facts.length) + s.1) (b.links.drop s.1) = selO l (b.incls.length + b.roles.length + b.facts.length) b.links) (fun s => b.links.length - s.1)
  (fun s => [(78, I64 s.1), (77, I64 b.links.length), (76, .sl .none b.links.length (encs Lnk.enc b.links)), (1, .sl .none l.length (ints l)), (6, I64 (((b.incls.length + b.roles.length + b.facts.length) + s.1 : Nat) : Int)), (2, .ptr (pid j.next 0) 0), (4, .ptr (pid j.next 1) 0), (5, .ptr (pid j.next 2) 0)])
  (fun s => Pg.ext s.2.2.2 [.cells 30 b.enc, .cells 30 ZB, .cells 30 [.sl .none b.nms.cs.length (strs b.nms.cs), .sl .none b.nms.rs.length (strs b.nms.rs), .sl .none b.nms.is.length (strs b.nms.is), .sl tk0 ac0.length (encs Inc.enc ac0), .sl tk1 ac1.length (encs RIn.enc ac1), .sl tk2 ac2.length (encs Fac.enc ac2), .sl s.2.2.1 s.2.1.length (encs Lnk.enc s.2.1)]]) (0, [], .nil, jx2) ⟨Nat.zero_le _, hP2, hR2, rfl⟩ ?_ (JDropH.refl _) ?_
 ·(try simp only[↓jr,jw,seval,DL])
  exact ⟨SubB.v, SubB.v, SubB.sl rfl (SubBs.pure (encs_pur Lnk.pur _)), SubB.sl rfl (SubBs.pure (ints_pur _)), SubB.v, SubB.ptr (by have := hP2.next; unfold pid; omega), SubB.ptr (by have := hP2.next; unfold pid; omega), SubB.ptr (by have := hP2.next; unfold pid; omega)⟩
 rintro ⟨k, ac3, tk3, jx3⟩ ⟨hk, hP3, hR3, hI3⟩
 simp only at hk hP3 hR3 hI3
 have hnx3 := hP3.next
 (try simp only[↓jr,jw,seval,hnx3])
 refine wq.intro (fun h1 => ?_) (fun h1 => ?_)
 ·have hlt : k < (b.links).length := by omega
  obtain ⟨x, r, hd⟩ : ∃ c_ l_, List.drop k (b.links) = c_ :: l_ := ⟨_, _, List.drop_eq_getElem_cons hlt⟩
  have hd1 : List.drop (k + 1) (b.links) = r := by rw [← List.drop_drop, hd]; rfl
  have hmem : x ∈ b.links := List.mem_of_mem_drop (hd ▸ List.mem_cons_self)
  have e2 : ac3.length ≤ 1000000 := by
   have := congrArg List.length hI3; rw [List.length_append] at this
   have := selO_len l (b.incls.length + b.roles.length + b.facts.length) b.links
   omega
  rw [hd] at hI3
  have hS : ∀ t, (fun t => t < j.tnext) t → t < jx3.tnext := fun t q => Nat.lt_of_lt_of_le q hP3.tnext
  (try simp only[↓jr,jw,seval,hd,hnx3])
  refine wc.intro (by omega) ?_
  (try simp only[↓jr,jw,seval,hd,hnx3])
  refine JCs.ret (s_rHas l hl _ _) ?_
  (try simp only[↓jr,jw,seval,hd,hnx3])
  refine wq.intro (fun hm => ?_) (fun hm => ?_)
  ·have hm' : (((b.incls.length + b.roles.length + b.facts.length) + k : Nat) : Int) ∈ l := by first | exact hm | (rw [Int.natCast_add]; exact hm) | simpa using hm
   obtain ⟨g1, g2, g3⟩ := hR3.grow hS (i := 3) rfl
   obtain ⟨tok1, j1, f1, f2, kk⟩ := JAPP.ex (j := jx3.pushTok 1) g1.push (fun t q => Nat.lt_succ_of_lt (g2 t q)) 1
   have f2' : TokP _ jx3 j1 := (TokP.push (TokP.refl g2) 1).trans ⟨f2.next, f2.get, f2.tnext, f2.tok, f2.lo⟩
   obtain ⟨g4, g5⟩ := g3 f1 f2'
   have g6 := hP3.trans g5
   have hn2 : j1.next = j.next := g6.next
   (try simp only[↓jr,jw,seval,hnx3])
   refine kk (by rw [encs_length Lnk.len]) (Lnk.len x) (Lnk.one x) (by omega) (by omega) ?_
   (try simp only[↓jr,jw,seval,hn2])
   refine wc.intro (by unfold R64; omega) ?_
   (try simp only[↓jr,jw,seval,hn2])
   refine wc.intro (by unfold R64; omega) ?_
   (try simp only[↓jr,jw,seval,hn2])
   have hl1 : (ac3 ++ [x]).length = ac3.length + 1 := by simp
   have he1 : encs Lnk.enc (ac3 ++ [x]) = encs Lnk.enc ac3 ++ x.enc := by rw [encs_app, encs_sing]
   refine JNEXT.of (k + 1, ac3 ++ [x], tok1, j1) ⟨by simp only; omega, g6, by simp only [hl1]; exact g4, by simp only [hd1]; rw [← hI3, selO, if_pos hm', List.append_assoc]; first | rfl | (rw [Nat.zero_add]; done) | (rw [Nat.zero_add]; rfl)⟩ (by simp only; omega) ?_ ?_
   ·(try simp only[↓jr,jw,seval,DL])
    exact ⟨SubB.v, SubB.v, SubB.sl rfl (SubBs.pure (encs_pur Lnk.pur _)), SubB.sl rfl (SubBs.pure (ints_pur _)), SubB.v, SubB.ptr (by rw [hn2]; unfold pid; omega), SubB.ptr (by rw [hn2]; unfold pid; omega), SubB.ptr (by rw [hn2]; unfold pid; omega)⟩
   ·simp only [hl1, he1]
    refine JDropH.next (TokExt.refl _) g5.next g5.tnext (fun o ob ho q => .inl (by rw [← g5.get o ho]; exact q)) ⟨.inl ⟨rfl, rfl⟩, .inl ⟨rfl, rfl⟩, .inr ⟨rfl, SubB.sl rfl (SubBs.pure (strs_pur _)), SubB.sl rfl (SubBs.pure (strs_pur _)), SubB.sl rfl (SubBs.pure (strs_pur _)), SubB.grown (g4.1 0 _ rfl) (Nat.le_refl _) (encs_pur Inc.pur _), SubB.grown (g4.1 1 _ rfl) (Nat.le_refl _) (encs_pur RIn.pur _), SubB.grown (g4.1 2 _ rfl) (Nat.le_refl _) (encs_pur Fac.pur _), SubB.grown (g4.1 3 _ rfl) (Nat.le_refl _) (by rw [pures_append, encs_pur Lnk.pur, Lnk.pur]; rfl), True.intro⟩, True.intro⟩
  ·have hm' : ¬ (((b.incls.length + b.roles.length + b.facts.length) + k : Nat) : Int) ∈ l := by first | exact hm | (rw [Int.natCast_add]; exact hm) | simpa using hm
   (try simp only[↓jr,jw,seval,hnx3])
   refine wc.intro (by unfold R64; omega) ?_
   (try simp only[↓jr,jw,seval,hnx3])
   refine wc.intro (by unfold R64; omega) ?_
   (try simp only[↓jr,jw,seval,hnx3])
   refine JNEXT.of (k + 1, ac3, tk3, jx3) ⟨by simp only; omega, hP3, hR3, by simp only [hd1]; rw [← hI3, selO, if_neg hm']; try (first | rfl | (rw [Nat.zero_add]; done) | (rw [Nat.zero_add]; rfl))⟩ (by simp only; omega) ?_ ?_
   ·(try simp only[↓jr,jw,seval,DL])
    exact ⟨SubB.v, SubB.v, SubB.sl rfl (SubBs.pure (encs_pur Lnk.pur _)), SubB.sl rfl (SubBs.pure (ints_pur _)), SubB.v, SubB.ptr (by rw [hnx3]; unfold pid; omega), SubB.ptr (by rw [hnx3]; unfold pid; omega), SubB.ptr (by rw [hnx3]; unfold pid; omega)⟩
   ·refine JDropH.next (TokExt.refl _) rfl (Nat.le_refl _) (fun o ob ho q => .inl q) ⟨.inl ⟨rfl, rfl⟩, .inl ⟨rfl, rfl⟩, .inl ⟨rfl, rfl⟩, True.intro⟩
 (try simp only[↓jr,jw,seval,hnx3])
 rw [List.drop_eq_nil_of_le (by omega), selO, List.append_nil] at hI3
 have ek3 : k = b.links.length := by omega
 subst ek3
 clear h1 hk
 have hT : TokExt j jx3 := ⟨hP3.next, hP3.get, hP3.tnext, fun t ht => hP3.tok t ht⟩
 subst hI0 hI1 hI2 hI3
 refine JFIN.rb ?_ hT
 exact SubB.agg ⟨SubB.pure (by simp only [AV.pure]; exact strs_pur _), SubB.pure (by simp only [AV.pure]; exact strs_pur _), SubB.pure (by simp only [AV.pure]; exact strs_pur _), SubB.sl rfl (SubBs.pure (encs_pur Inc.pur _)), SubB.sl rfl (SubBs.pure (encs_pur RIn.pur _)), SubB.sl rfl (SubBs.pure (encs_pur Fac.pur _)), SubB.sl rfl (SubBs.pure (encs_pur Lnk.pur _)), True.intro⟩
end
end Go.Proofs.YtcjlpklgnknpgaaGreatDoor.Pg
