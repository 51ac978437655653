/-
  The reference's lines.
-/
import Derived.Test.YtcjlpklgnknpgaaGreatDoorWs
set_option linter.unusedVariables false
set_option linter.unusedSimpArgs false
set_option maxRecDepth 100000
set_option maxHeartbeats 8000000
namespace Go.Proofs.YtcjlpklgnknpgaaGreatDoor.Pg
open Go
section
variable {m : GM} {G : Nat → Option (List AV)}
noncomputable def ir22 : IFn := ⟨116, [⟨2, none⟩], (.seq (.reg [oA 1 (.box 30 (.r 0)), oA 2 (.mov (.k (.sl .nil 0 [])))]) (.seq (.reg [oA 13 (.fadr 0 (.r 1)), oL 14 13 (some 3), oA 3 (.alloc 24 [.sl .nil 0 [], .sl .nil 0 [], .sl .nil 0 []]), oN (.store 3 (.r 3) (.r 14))]) (.seq (.reg [oA 4 (.mov (.k (.sl .nil 0 [])))]) (.seq (.seq (.reg [oA 15 (.fadr 3 (.r 1)), oL 16 15 none, oT 17 16 (.lenl (.r 16)), oA 18 (.mov (kI 0))]) (.block 0 (.loop (.seq (.reg [oA 19 (.bin .lss (.r 18) (.r 17))]) (.seq (.cond (.r 19) .skip (.exit 0)) (.seq (.block 1 (.seq (.reg [oA 20 (.iasl 6 (.r 16) (.r 18)), oL 21 20 (some 6), oA 6 (.alloc 113 [.v (.int .i64 0), .v (.int .i64 0), .sl .nil 0 [], .v (.int .i64 0), .v (.int .i64 0), .sl .nil 0 []]), oN (.store 6 (.r 6) (.r 21))]) (.draw [oA 22 (kM 4), oL 23 3 (some 3), oA 24 (.fadr 0 (.r 6)), oL 25 24 (some 3), oA 26 (.call 60 [.r 23, .r 25]), oA 27 (.bin .add (.r 26) (.k (.v (.string ⟨#[32, 60, 32]⟩)))), oL 28 3 (some 3), oA 29 (.fadr 3 (.r 6)), oL 30 29 (some 3), oA 31 (.call 60 [.r 28, .r 30]), oA 32 (.bin .add (.r 27) (.r 31)), oA 33 (.bsl 1 1 [.v (.string ⟨#[]⟩)] [(0, (1, .r 32))]), oA 34 (.app 1 16 (.r 22) (.r 33)), oA 4 (kM 34)] [(6, 4), (8, 4)]))) (.reg [oA 35 (.bin .add (.r 18) (kI 1)), oA 18 (kM 35)]))))))) (.seq (.seq (.reg [oA 36 (.fadr 4 (.r 1)), oL 37 36 none, oT 38 37 (.lenl (.r 37)), oA 39 (.mov (kI 0))]) (.block 2 (.loop (.seq (.reg [oA 40 (.bin .lss (.r 39) (.r 38))]) (.seq (.cond (.r 40) .skip (.exit 2)) (.seq (.block 3 (.seq (.reg [oA 41 (.iasl 2 (.r 37) (.r 39)), oL 42 41 (some 2), oA 8 (.alloc 116 [.v (.int .i64 0), .v (.int .i64 0)]), oN (.store 2 (.r 8) (.r 42))]) (.draw [oA 43 (kM 4), oL 44 3 (some 3), oA 45 (.fadr 0 (.r 8)), oL 46 45 none, oA 47 (.call 61 [.r 44, .r 46]), oA 48 (.bin .add (.k (.v (.string ⟨#[114, 111, 108, 101, 32]⟩))) (.r 47)), oA 49 (.bin .add (.r 48) (.k (.v (.string ⟨#[32, 60, 32]⟩)))), oL 50 3 (some 3), oA 51 (.fadr 1 (.r 8)), oL 52 51 none, oA 53 (.call 61 [.r 50, .r 52]), oA 54 (.bin .add (.r 49) (.r 53)), oA 55 (.bsl 1 1 [.v (.string ⟨#[]⟩)] [(0, (1, .r 54))]), oA 56 (.app 1 16 (.r 43) (.r 55)), oA 4 (kM 56)] [(7, 4), (9, 4)]))) (.reg [oA 57 (.bin .add (.r 39) (kI 1)), oA 39 (kM 57)]))))))) (.seq (.seq (.reg [oA 58 (.fadr 5 (.r 1)), oL 59 58 none, oT 60 59 (.lenl (.r 59)), oA 61 (.mov (kI 0))]) (.block 4 (.loop (.seq (.reg [oA 62 (.bin .lss (.r 61) (.r 60))]) (.seq (.cond (.r 62) .skip (.exit 4)) (.seq (.block 5 (.seq (.reg [oA 63 (.iasl 4 (.r 59) (.r 61)), oL 64 63 (some 4), oA 10 (.alloc 118 [.v (.int .i64 0), .v (.int .i64 0), .v (.int .i64 0), .sl .nil 0 []]), oN (.store 4 (.r 10) (.r 64))]) (.draw [oA 65 (kM 4), oA 66 (.fadr 2 (.r 3)), oL 67 66 none, oA 68 (.fadr 0 (.r 10)), oL 69 68 none, oA 70 (.iasl 1 (.r 67) (.r 69)), oL 71 70 none, oA 72 (.bin .add (.r 71) (.k (.v (.string ⟨#[32, 58, 32]⟩)))), oL 73 3 (some 3), oA 74 (.fadr 1 (.r 10)), oL 75 74 (some 3), oA 76 (.call 60 [.r 73, .r 75]), oA 77 (.bin .add (.r 72) (.r 76)), oA 78 (.bsl 1 1 [.v (.string ⟨#[]⟩)] [(0, (1, .r 77))]), oA 79 (.app 1 16 (.r 65) (.r 78)), oA 4 (kM 79)] [(2, 11), (4, 11), (6, 11)]))) (.reg [oA 80 (.bin .add (.r 61) (kI 1)), oA 61 (kM 80)]))))))) (.seq (.seq (.reg [oA 81 (.fadr 6 (.r 1)), oL 82 81 none, oT 83 82 (.lenl (.r 82)), oA 84 (.mov (kI 0))]) (.block 6 (.loop (.seq (.reg [oA 85 (.bin .lss (.r 84) (.r 83))]) (.seq (.cond (.r 85) .skip (.exit 6)) (.seq (.block 7 (.seq (.reg [oA 86 (.iasl 3 (.r 82) (.r 84)), oL 87 86 (some 3), oA 12 (.alloc 120 [.v (.int .i64 0), .v (.int .i64 0), .v (.int .i64 0)]), oN (.store 3 (.r 12) (.r 87))]) (.draw [oA 88 (kM 4), oA 89 (.fadr 2 (.r 3)), oL 90 89 none, oA 91 (.fadr 1 (.r 12)), oL 92 91 none, oA 93 (.iasl 1 (.r 90) (.r 92)), oL 94 93 none, oA 95 (.bin .add (.k (.v (.string ⟨#[40]⟩))) (.r 94)), oA 96 (.bin .add (.r 95) (.k (.v (.string ⟨#[44, 32]⟩)))), oA 97 (.fadr 2 (.r 3)), oL 98 97 none, oA 99 (.fadr 2 (.r 12)), oL 100 99 none, oA 101 (.iasl 1 (.r 98) (.r 100)), oL 102 101 none, oA 103 (.bin .add (.r 96) (.r 102)), oA 104 (.bin .add (.r 103) (.k (.v (.string ⟨#[41, 32, 58, 32]⟩)))), oA 105 (.fadr 1 (.r 3)), oL 106 105 none, oA 107 (.fadr 0 (.r 12)), oL 108 107 none, oA 109 (.iasl 1 (.r 106) (.r 108)), oL 110 109 none, oA 111 (.bin .add (.r 104) (.r 110)), oA 112 (.bsl 1 1 [.v (.string ⟨#[]⟩)] [(0, (1, .r 111))]), oA 113 (.app 1 16 (.r 88) (.r 112)), oA 4 (kM 113)] []))) (.reg [oA 114 (.bin .add (.r 84) (kI 1)), oA 84 (kM 114)]))))))) (.seq (.reg [oA 115 (kM 4), oA 2 (kM 115)]) .ret))))))))⟩
theorem c22 : cfunc Tryz.prog 22 = some ir22 := by kernel_rfl
theorem k22 : okIR (max 1 ir22.n) ir22.ir = true := by decide +kernel
theorem s_rLines (b : Bas) (hn : SmallN b.nms) (hx : ∀ x ∈ b.axs, AxOK b.nms x) (l1 : b.incls.length ≤ 1000000) (l2 : b.roles.length ≤ 1000000) (l3 : b.facts.length ≤ 1000000) (l4 : b.links.length ≤ 1000000) (j : JH) :
  JC Tryz.prog G 22 [.agg b.enc] j (RET (.sl .none b.axs.length (strs (b.axs.map (Ax.str b.nms)))) j) := by
 have q3 : (⟨#[32, 60, 32]⟩ : ByteArray).size = 3 := rfl
 have q3' : (⟨#[32, 58, 32]⟩ : ByteArray).size = 3 := rfl
 have q5 : (⟨#[114, 111, 108, 101, 32]⟩ : ByteArray).size = 5 := rfl
 have q1' : (⟨#[40]⟩ : ByteArray).size = 1 := rfl
 have q2' : (⟨#[44, 32]⟩ : ByteArray).size = 2 := rfl
 have q4 : (⟨#[41, 32, 58, 32]⟩ : ByteArray).size = 4 := rfl
 have hl := hn.ok.2.2
 have hl2 := hn.ok.2.1
 refine JC.run hmix c22 (by exact k22) ?_
 (try simp only[↓jr,jw,seval,ir22])
 obtain ⟨T0, hT0⟩ : ∃ T, T = b.incls.map Ax.inc := ⟨_, rfl⟩
 obtain ⟨T1, hT1⟩ : ∃ T, T = T0 ++ b.roles.map Ax.rol := ⟨_, rfl⟩
 obtain ⟨T2, hT2⟩ : ∃ T, T = T1 ++ b.facts.map Ax.fac := ⟨_, rfl⟩
 obtain ⟨T3, hT3⟩ : ∃ T, T = T2 ++ b.links.map Ax.lnk := ⟨_, rfl⟩
 have hL0 : T0.length = b.incls.length := by rw [hT0]; simp
 have hL1 : T1.length = T0.length + b.roles.length := by rw [hT1]; simp
 have hL2 : T2.length = T1.length + b.facts.length := by rw [hT2]; simp
 have hL3 : T3.length = T2.length + b.links.length := by rw [hT3]; simp
 have hTT : T3 = b.axs := by rw [hT3, hT2, hT1, hT0]; simp [Bas.axs]
 refine JLOOP.of (σ := Nat × List Ax × Tok × JH) (fun s => s.1 ≤ b.incls.length ∧ TokExt j s.2.2.2 ∧ CanApp j s.2.2.2 s.2.2.1 1 s.2.1.length ∧ s.2.1 ++ (b.incls.drop s.1).map Ax.inc = T0) (fun s => b.incls.length - s.1)
  (fun s => [(18, I64 s.1), (17, I64 b.incls.length), (16, .sl .none b.incls.length (encs Inc.enc b.incls)), (1, .ptr (pid j.next 0) 0), (3, .ptr (pid j.next 1) 0), (4, .sl s.2.2.1 s.2.1.length (strs (s.2.1.map (Ax.str b.nms))))])
  (fun s => Pg.ext s.2.2.2 [.cells 30 b.enc, .cells 24 b.nms.enc]) (0, [], .nil, j) ⟨Nat.zero_le _, TokExt.refl _, CanApp.nil, hT0.symm⟩ ?_ (JDropH.refl _) ?_
 ·(try simp only[↓jr,jw,seval,DL])
  exact ⟨SubB.v, SubB.v, SubB.sl rfl (SubBs.pure (encs_pur Inc.pur _)), SubB.ptr (by unfold pid; omega), SubB.ptr (by unfold pid; omega), SubB.pure rfl⟩
 rintro ⟨k, ac0, tk0, jx0⟩ ⟨hk, ht0, hc0, hI0⟩
 simp only at hk ht0 hc0 hI0
 have hnx0 := ht0.next
 (try simp only[↓jr,jw,seval,hnx0])
 refine wq.intro (fun h1 => ?_) (fun h1 => ?_)
 ·have hlt : k < (b.incls).length := by omega
  obtain ⟨x, r, hd⟩ : ∃ c_ l_, List.drop k (b.incls) = c_ :: l_ := ⟨_, _, List.drop_eq_getElem_cons hlt⟩
  have hd1 : List.drop (k + 1) (b.incls) = r := by rw [← List.drop_drop, hd]; rfl
  have hmem : x ∈ b.incls := List.mem_of_mem_drop (hd ▸ List.mem_cons_self)
  have e2 : ac0.length ≤ 4000000 := by have := congrArg List.length hI0; rw [List.length_append] at this; omega
  rw [hd] at hI0
  have hax := hx (.inc x) (by unfold Bas.axs; simp [hmem])
  obtain ⟨⟨o1, o2, o3⟩, o4, o5, o6⟩ := hax
  have z1 := strC_size hn.c hn.r x.sub
  have z2 := strC_size hn.c hn.r x.sup
  (try simp only[↓jr,jw,seval,hd,hnx0])
  refine wc.intro (by omega) ?_
  (try simp only[↓jr,jw,seval,hd,hnx0])
  refine JDC.use (s_rString b.nms.cs.length b.nms.rs.length b.nms rfl rfl hn.c hn.r hn.ok.1 hn.ok.2.1 x.sub _ o1 o2 o3) ?_
  (try simp only[↓jr,jw,seval,hd,hnx0])
  refine wc.intro (by omega) ?_
  (try simp only[↓jr,jw,seval,hd,hnx0])
  refine JDC.use (s_rString b.nms.cs.length b.nms.rs.length b.nms rfl rfl hn.c hn.r hn.ok.1 hn.ok.2.1 x.sup _ o4 o5 o6) ?_
  (try simp only[↓jr,jw,seval,hd,hnx0])
  refine wc.intro (by rw [ba_size_append]; omega) ?_
  (try simp only[↓jr,jw,seval,hd,hnx0])
  refine JAPP.can' hc0.push (ht0.push 1) (by rw [strs_le, List.length_map, Nat.mul_one]) rfl rfl (by omega) (by omega) ?_
  intro tok1 j1 hcan htx hle
  have hle' : jx0.tnext ≤ j1.tnext := Nat.le_trans (Nat.le_succ _) hle
  have hn3 := htx.next
  have hle2 : jx0.tnext + 1 ≤ j1.tnext := hle
  (try simp only[↓jr,jw,seval,hn3])
  refine JDRAW.oc (by (try simp only[↓jr,jw,seval,jq,qe2,qe3,ext_next,ext_tnext,pushTok_next,List.length_cons,List.length_nil]) <;> (repeat' (first | exact trivial | refine And.intro ?_ ?_ | exact Nat.le_refl _ | omega | (unfold pid; omega)))) ?_
  (try simp only[↓jr,jw,seval,hn3])
  refine wc.intro (by unfold R64; omega) ?_
  (try simp only[↓jr,jw,seval,hn3])
  have e1 : (ac0 ++ [Ax.inc x]).length = ac0.length + 1 := by simp
  have e3 : strs ((ac0 ++ [Ax.inc x]).map (Ax.str b.nms)) = strs (ac0.map (Ax.str b.nms)) ++ [STR (Ax.str b.nms (.inc x))] := by rw [List.map_append]; simp [strs]
  refine JNEXT.of (k + 1, ac0 ++ [Ax.inc x], tok1, j1) ⟨by simp only; omega, htx, by rw [e1]; exact hcan, by simp only [hd1]; rw [← hI0]; simp⟩ (by simp only; omega) ?_ (JDropH.nextT ht0 htx (TokExt.refl _) hle' ⟨.inl ⟨rfl, rfl⟩, .inl ⟨rfl, rfl⟩, True.intro⟩)
  (try simp only[↓jr,jw,seval,DL,e1,e3])
  have e4 := SubB.can (no := pid j1.next 2) hcan (cs := strs (ac0.map (Ax.str b.nms)) ++ [STR (Ax.str b.nms (.inc x))]) (by rw [pures_append, strs_pur]; rfl)
  simp only [Ax.str] at e4 ⊢
  exact ⟨SubB.v, SubB.v, SubB.sl rfl (SubBs.pure (encs_pur Inc.pur _)), SubB.ptr (by have := htx.next; unfold pid; omega), SubB.ptr (by have := htx.next; unfold pid; omega), e4⟩
 (try simp only[↓jr,jw,seval,hnx0])
 rw [List.drop_eq_nil_of_le (by omega), List.map_nil, List.append_nil] at hI0
 clear h1 hk
 refine JLOOP.of (σ := Nat × List Ax × Tok × JH) (fun s => s.1 ≤ b.roles.length ∧ TokExt j s.2.2.2 ∧ CanApp j s.2.2.2 s.2.2.1 1 s.2.1.length ∧ s.2.1 ++ (b.roles.drop s.1).map Ax.rol = T1) (fun s => b.roles.length - s.1)
  (fun s => [(39, I64 s.1), (38, I64 b.roles.length), (37, .sl .none b.roles.length (encs RIn.enc b.roles)), (1, .ptr (pid j.next 0) 0), (3, .ptr (pid j.next 1) 0), (4, .sl s.2.2.1 s.2.1.length (strs (s.2.1.map (Ax.str b.nms))))])
  (fun s => Pg.ext s.2.2.2 [.cells 30 b.enc, .cells 24 b.nms.enc]) (0, ac0, tk0, jx0) ⟨Nat.zero_le _, ht0, hc0, by rw [hI0]; exact hT1.symm⟩ ?_ (JDropH.refl _) ?_
 ·(try simp only[↓jr,jw,seval,DL])
  exact ⟨SubB.v, SubB.v, SubB.sl rfl (SubBs.pure (encs_pur RIn.pur _)), SubB.ptr (by have := ht0.next; unfold pid; omega), SubB.ptr (by have := ht0.next; unfold pid; omega), SubB.can hc0 (strs_pur _)⟩
 rintro ⟨k, ac1, tk1, jx1⟩ ⟨hk, ht1, hc1, hI1⟩
 simp only at hk ht1 hc1 hI1
 have hnx1 := ht1.next
 (try simp only[↓jr,jw,seval,hnx1])
 refine wq.intro (fun h1 => ?_) (fun h1 => ?_)
 ·have hlt : k < (b.roles).length := by omega
  obtain ⟨x, r, hd⟩ : ∃ c_ l_, List.drop k (b.roles) = c_ :: l_ := ⟨_, _, List.drop_eq_getElem_cons hlt⟩
  have hd1 : List.drop (k + 1) (b.roles) = r := by rw [← List.drop_drop, hd]; rfl
  have hmem : x ∈ b.roles := List.mem_of_mem_drop (hd ▸ List.mem_cons_self)
  have e2 : ac1.length ≤ 4000000 := by have := congrArg List.length hI1; rw [List.length_append] at this; omega
  rw [hd] at hI1
  have hax := hx (.rol x) (by unfold Bas.axs; simp [hmem])
  obtain ⟨⟨o1, o2⟩, o3, o4⟩ := hax
  have z1 := roleS_size (m := b.nms) (r := x.sub) hn.r
  have z2 := roleS_size (m := b.nms) (r := x.sup) hn.r
  (try simp only[↓jr,jw,seval,hd,hnx1])
  refine wc.intro (by omega) ?_
  (try simp only[↓jr,jw,seval,hd,hnx1])
  refine JDC.use (s_rRole b.nms hn.r x.sub o1 o2 hn.ok.2.1 _) ?_
  (try simp only[↓jr,jw,seval,hd,hnx1])
  refine wc.intro (by omega) ?_
  (try simp only[↓jr,jw,seval,hd,hnx1])
  refine wc.intro (by rw [ba_size_append]; omega) ?_
  (try simp only[↓jr,jw,seval,hd,hnx1])
  refine JDC.use (s_rRole b.nms hn.r x.sup o3 o4 hn.ok.2.1 _) ?_
  (try simp only[↓jr,jw,seval,hd,hnx1])
  refine wc.intro (by simp only [ba_size_append]; omega) ?_
  (try simp only[↓jr,jw,seval,hd,hnx1])
  refine JAPP.can' hc1.push (ht1.push 1) (by rw [strs_le, List.length_map, Nat.mul_one]) rfl rfl (by omega) (by omega) ?_
  intro tok1 j1 hcan htx hle
  have hle' : jx1.tnext ≤ j1.tnext := Nat.le_trans (Nat.le_succ _) hle
  have hn3 := htx.next
  have hle2 : jx1.tnext + 1 ≤ j1.tnext := hle
  (try simp only[↓jr,jw,seval,hn3])
  refine JDRAW.oc (by (try simp only[↓jr,jw,seval,jq,qe2,qe3,ext_next,ext_tnext,pushTok_next,List.length_cons,List.length_nil]) <;> (repeat' (first | exact trivial | refine And.intro ?_ ?_ | exact Nat.le_refl _ | omega | (unfold pid; omega)))) ?_
  (try simp only[↓jr,jw,seval,hn3])
  refine wc.intro (by unfold R64; omega) ?_
  (try simp only[↓jr,jw,seval,hn3])
  have e1 : (ac1 ++ [Ax.rol x]).length = ac1.length + 1 := by simp
  have e3 : strs ((ac1 ++ [Ax.rol x]).map (Ax.str b.nms)) = strs (ac1.map (Ax.str b.nms)) ++ [STR (Ax.str b.nms (.rol x))] := by rw [List.map_append]; simp [strs]
  refine JNEXT.of (k + 1, ac1 ++ [Ax.rol x], tok1, j1) ⟨by simp only; omega, htx, by rw [e1]; exact hcan, by simp only [hd1]; rw [← hI1]; simp⟩ (by simp only; omega) ?_ (JDropH.nextT ht1 htx (TokExt.refl _) hle' ⟨.inl ⟨rfl, rfl⟩, .inl ⟨rfl, rfl⟩, True.intro⟩)
  (try simp only[↓jr,jw,seval,DL,e1,e3])
  have e4 := SubB.can (no := pid j1.next 2) hcan (cs := strs (ac1.map (Ax.str b.nms)) ++ [STR (Ax.str b.nms (.rol x))]) (by rw [pures_append, strs_pur]; rfl)
  simp only [Ax.str] at e4 ⊢
  exact ⟨SubB.v, SubB.v, SubB.sl rfl (SubBs.pure (encs_pur RIn.pur _)), SubB.ptr (by have := htx.next; unfold pid; omega), SubB.ptr (by have := htx.next; unfold pid; omega), e4⟩
 (try simp only[↓jr,jw,seval,hnx1])
 rw [List.drop_eq_nil_of_le (by omega), List.map_nil, List.append_nil] at hI1
 clear h1 hk
 refine JLOOP.of (σ := Nat × List Ax × Tok × JH) (fun s => s.1 ≤ b.facts.length ∧ TokExt j s.2.2.2 ∧ CanApp j s.2.2.2 s.2.2.1 1 s.2.1.length ∧ s.2.1 ++ (b.facts.drop s.1).map Ax.fac = T2) (fun s => b.facts.length - s.1)
  (fun s => [(61, I64 s.1), (60, I64 b.facts.length), (59, .sl .none b.facts.length (encs Fac.enc b.facts)), (1, .ptr (pid j.next 0) 0), (3, .ptr (pid j.next 1) 0), (4, .sl s.2.2.1 s.2.1.length (strs (s.2.1.map (Ax.str b.nms))))])
  (fun s => Pg.ext s.2.2.2 [.cells 30 b.enc, .cells 24 b.nms.enc]) (0, ac1, tk1, jx1) ⟨Nat.zero_le _, ht1, hc1, by rw [hI1]; exact hT2.symm⟩ ?_ (JDropH.refl _) ?_
 ·(try simp only[↓jr,jw,seval,DL])
  exact ⟨SubB.v, SubB.v, SubB.sl rfl (SubBs.pure (encs_pur Fac.pur _)), SubB.ptr (by have := ht1.next; unfold pid; omega), SubB.ptr (by have := ht1.next; unfold pid; omega), SubB.can hc1 (strs_pur _)⟩
 rintro ⟨k, ac2, tk2, jx2⟩ ⟨hk, ht2, hc2, hI2⟩
 simp only at hk ht2 hc2 hI2
 have hnx2 := ht2.next
 (try simp only[↓jr,jw,seval,hnx2])
 refine wq.intro (fun h1 => ?_) (fun h1 => ?_)
 ·have hlt : k < (b.facts).length := by omega
  obtain ⟨x, r, hd⟩ : ∃ c_ l_, List.drop k (b.facts) = c_ :: l_ := ⟨_, _, List.drop_eq_getElem_cons hlt⟩
  have hd1 : List.drop (k + 1) (b.facts) = r := by rw [← List.drop_drop, hd]; rfl
  have hmem : x ∈ b.facts := List.mem_of_mem_drop (hd ▸ List.mem_cons_self)
  have e2 : ac2.length ≤ 4000000 := by have := congrArg List.length hI2; rw [List.length_append] at this; omega
  rw [hd] at hI2
  have hax := hx (.fac x) (by unfold Bas.axs; simp [hmem])
  obtain ⟨⟨o1, o2⟩, o4, o5, o6⟩ := hax
  have z1 := strC_size hn.c hn.r x.con
  obtain ⟨s0, r0, hd0, hs0, hm0⟩ := nth_hd o1 o2
  have z2 := hn.i s0 hm0
  (try simp only[↓jr,jw,seval,hd,hd0,hnx2])
  refine wc.intro (by omega) ?_
  (try simp only[↓jr,jw,seval,hd,hd0,hnx2])
  refine wc.intro (by omega) ?_
  (try simp only[↓jr,jw,seval,hd,hd0,hnx2])
  refine wc.intro (by omega) ?_
  (try simp only[↓jr,jw,seval,hd,hd0,hnx2])
  refine JDC.use (s_rString b.nms.cs.length b.nms.rs.length b.nms rfl rfl hn.c hn.r hn.ok.1 hn.ok.2.1 x.con _ o4 o5 o6) ?_
  (try simp only[↓jr,jw,seval,hd,hd0,hnx2])
  refine wc.intro (by rw [ba_size_append]; omega) ?_
  (try simp only[↓jr,jw,seval,hd,hd0,hnx2])
  refine JAPP.can' hc2.push (ht2.push 1) (by rw [strs_le, List.length_map, Nat.mul_one]) rfl rfl (by omega) (by omega) ?_
  intro tok1 j1 hcan htx hle
  have hle' : jx2.tnext ≤ j1.tnext := Nat.le_trans (Nat.le_succ _) hle
  have hn3 := htx.next
  have hle2 : jx2.tnext + 1 ≤ j1.tnext := hle
  (try simp only[↓jr,jw,seval,hn3])
  refine JDRAW.oc (by (try simp only[↓jr,jw,seval,jq,qe2,qe3,ext_next,ext_tnext,pushTok_next,List.length_cons,List.length_nil]) <;> (repeat' (first | exact trivial | refine And.intro ?_ ?_ | exact Nat.le_refl _ | omega | (unfold pid; omega)))) ?_
  (try simp only[↓jr,jw,seval,hn3])
  refine wc.intro (by unfold R64; omega) ?_
  (try simp only[↓jr,jw,seval,hn3])
  have e1 : (ac2 ++ [Ax.fac x]).length = ac2.length + 1 := by simp
  have e3 : strs ((ac2 ++ [Ax.fac x]).map (Ax.str b.nms)) = strs (ac2.map (Ax.str b.nms)) ++ [STR (Ax.str b.nms (.fac x))] := by rw [List.map_append]; simp [strs]
  refine JNEXT.of (k + 1, ac2 ++ [Ax.fac x], tok1, j1) ⟨by simp only; omega, htx, by rw [e1]; exact hcan, by simp only [hd1]; rw [← hI2]; simp⟩ (by simp only; omega) ?_ (JDropH.nextT ht2 htx (TokExt.refl _) hle' ⟨.inl ⟨rfl, rfl⟩, .inl ⟨rfl, rfl⟩, True.intro⟩)
  (try simp only[↓jr,jw,seval,DL,e1,e3])
  have e4 := SubB.can (no := pid j1.next 2) hcan (cs := strs (ac2.map (Ax.str b.nms)) ++ [STR (Ax.str b.nms (.fac x))]) (by rw [pures_append, strs_pur]; rfl)
  simp only [Ax.str, hs0] at e4 ⊢
  exact ⟨SubB.v, SubB.v, SubB.sl rfl (SubBs.pure (encs_pur Fac.pur _)), SubB.ptr (by have := htx.next; unfold pid; omega), SubB.ptr (by have := htx.next; unfold pid; omega), e4⟩
 (try simp only[↓jr,jw,seval,hnx2])
 rw [List.drop_eq_nil_of_le (by omega), List.map_nil, List.append_nil] at hI2
 clear h1 hk
 refine JLOOP.of (σ := Nat × List Ax × Tok × JH) (fun s => s.1 ≤ b.links.length ∧ TokExt j s.2.2.2 ∧ CanApp j s.2.2.2 s.2.2.1 1 s.2.1.length ∧ s.2.1 ++ (b.links.drop s.1).map Ax.lnk = T3) (fun s => b.links.length - s.1)
  (fun s => [(84, I64 s.1), (83, I64 b.links.length), (82, .sl .none b.links.length (encs Lnk.enc b.links)), (1, .ptr (pid j.next 0) 0), (3, .ptr (pid j.next 1) 0), (4, .sl s.2.2.1 s.2.1.length (strs (s.2.1.map (Ax.str b.nms))))])
  (fun s => Pg.ext s.2.2.2 [.cells 30 b.enc, .cells 24 b.nms.enc]) (0, ac2, tk2, jx2) ⟨Nat.zero_le _, ht2, hc2, by rw [hI2]; exact hT3.symm⟩ ?_ (JDropH.refl _) ?_
 ·(try simp only[↓jr,jw,seval,DL])
  exact ⟨SubB.v, SubB.v, SubB.sl rfl (SubBs.pure (encs_pur Lnk.pur _)), SubB.ptr (by have := ht2.next; unfold pid; omega), SubB.ptr (by have := ht2.next; unfold pid; omega), SubB.can hc2 (strs_pur _)⟩
 rintro ⟨k, ac3, tk3, jx3⟩ ⟨hk, ht3, hc3, hI3⟩
 simp only at hk ht3 hc3 hI3
 have hnx3 := ht3.next
 (try simp only[↓jr,jw,seval,hnx3])
 refine wq.intro (fun h1 => ?_) (fun h1 => ?_)
 ·have hlt : k < (b.links).length := by omega
  obtain ⟨x, r, hd⟩ : ∃ c_ l_, List.drop k (b.links) = c_ :: l_ := ⟨_, _, List.drop_eq_getElem_cons hlt⟩
  have hd1 : List.drop (k + 1) (b.links) = r := by rw [← List.drop_drop, hd]; rfl
  have hmem : x ∈ b.links := List.mem_of_mem_drop (hd ▸ List.mem_cons_self)
  have e2 : ac3.length ≤ 4000000 := by have := congrArg List.length hI3; rw [List.length_append] at this; omega
  rw [hd] at hI3
  have hax := hx (.lnk x) (by unfold Bas.axs; simp [hmem])
  obtain ⟨⟨o1, o2⟩, ⟨o3, o4⟩, o5, o6⟩ := hax
  obtain ⟨s0, r0, hd0, hs0, hm0⟩ := nth_hd o1 o2
  obtain ⟨s1, r1, hd1', hs1, hm1⟩ := nth_hd o3 o4
  obtain ⟨s2, r2, hd2, hs2, hm2⟩ := nth_hd o5 o6
  have z1 := hn.r s0 hm0
  have z2 := hn.i s1 hm1
  have z3 := hn.i s2 hm2
  (try simp only[↓jr,jw,seval,hd,hd0,hd1',hd2,hnx3])
  refine wc.intro (by omega) ?_
  (try simp only[↓jr,jw,seval,hd,hd0,hd1',hd2,hnx3])
  refine wc.intro (by omega) ?_
  (try simp only[↓jr,jw,seval,hd,hd0,hd1',hd2,hnx3])
  refine wc.intro (by omega) ?_
  (try simp only[↓jr,jw,seval,hd,hd0,hd1',hd2,hnx3])
  refine wc.intro (by rw [ba_size_append]; omega) ?_
  (try simp only[↓jr,jw,seval,hd,hd0,hd1',hd2,hnx3])
  refine wc.intro (by omega) ?_
  (try simp only[↓jr,jw,seval,hd,hd0,hd1',hd2,hnx3])
  refine wc.intro (by simp only [ba_size_append]; omega) ?_
  (try simp only[↓jr,jw,seval,hd,hd0,hd1',hd2,hnx3])
  refine wc.intro (by simp only [ba_size_append]; omega) ?_
  (try simp only[↓jr,jw,seval,hd,hd0,hd1',hd2,hnx3])
  refine wc.intro (by omega) ?_
  (try simp only[↓jr,jw,seval,hd,hd0,hd1',hd2,hnx3])
  refine wc.intro (by simp only [ba_size_append]; omega) ?_
  (try simp only[↓jr,jw,seval,hd,hd0,hd1',hd2,hnx3])
  refine JAPP.can' hc3.push (ht3.push 1) (by rw [strs_le, List.length_map, Nat.mul_one]) rfl rfl (by omega) (by omega) ?_
  intro tok1 j1 hcan htx hle
  have hle' : jx3.tnext ≤ j1.tnext := Nat.le_trans (Nat.le_succ _) hle
  have hn3 := htx.next
  have hle2 : jx3.tnext + 1 ≤ j1.tnext := hle
  (try simp only[↓jr,jw,seval,hn3])
  refine JDRAW.oc (by (try simp only[↓jr,jw,seval,jq,qe2,qe3,ext_next,ext_tnext,pushTok_next,List.length_cons,List.length_nil]) <;> (repeat' (first | exact trivial | refine And.intro ?_ ?_ | exact Nat.le_refl _ | omega | (unfold pid; omega)))) ?_
  (try simp only[↓jr,jw,seval,hn3])
  refine wc.intro (by unfold R64; omega) ?_
  (try simp only[↓jr,jw,seval,hn3])
  have e1 : (ac3 ++ [Ax.lnk x]).length = ac3.length + 1 := by simp
  have e3 : strs ((ac3 ++ [Ax.lnk x]).map (Ax.str b.nms)) = strs (ac3.map (Ax.str b.nms)) ++ [STR (Ax.str b.nms (.lnk x))] := by rw [List.map_append]; simp [strs]
  refine JNEXT.of (k + 1, ac3 ++ [Ax.lnk x], tok1, j1) ⟨by simp only; omega, htx, by rw [e1]; exact hcan, by simp only [hd1]; rw [← hI3]; simp⟩ (by simp only; omega) ?_ (JDropH.nextT ht3 htx (TokExt.refl _) hle' ⟨.inl ⟨rfl, rfl⟩, .inl ⟨rfl, rfl⟩, True.intro⟩)
  (try simp only[↓jr,jw,seval,DL,e1,e3])
  have e4 := SubB.can (no := pid j1.next 2) hcan (cs := strs (ac3.map (Ax.str b.nms)) ++ [STR (Ax.str b.nms (.lnk x))]) (by rw [pures_append, strs_pur]; rfl)
  simp only [Ax.str, hs0, hs1, hs2] at e4 ⊢
  exact ⟨SubB.v, SubB.v, SubB.sl rfl (SubBs.pure (encs_pur Lnk.pur _)), SubB.ptr (by have := htx.next; unfold pid; omega), SubB.ptr (by have := htx.next; unfold pid; omega), e4⟩
 (try simp only[↓jr,jw,seval,hnx3])
 rw [List.drop_eq_nil_of_le (by omega), List.map_nil, List.append_nil] at hI3
 clear h1 hk
 subst hI3
 rw [hTT] at *
 refine JFIN.rb ?_ ht3
 exact SubB.sl rfl (SubBs.pure (strs_pur _))
end
end Go.Proofs.YtcjlpklgnknpgaaGreatDoor.Pg
