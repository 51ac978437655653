/-
  Copies of names, concepts and knowledge bases (the reference).
-/
import Derived.Test.YtcjlpklgnknpgaaGreatDoorWn
set_option linter.unusedVariables false
set_option linter.unusedSimpArgs false
set_option maxRecDepth 100000
set_option maxHeartbeats 8000000
namespace Go.Proofs.YtcjlpklgnknpgaaGreatDoor.Pg
open Go
section
open Go
theorem one_strs (l : List ByteArray) : (strs l).all AV.one = true := by unfold strs; rw [List.all_map]; exact List.all_eq_true.2 fun _ _ => rfl
theorem ext_get_tok {j j0 : JH} {l : List AObj} (ht : TokExt j j0) (o : Nat) : (Pg.ext j l).get o = (Pg.ext j0 l).get o := by
 have hn := ht.next
 unfold Pg.ext
 simp only [hn]
 split
 ·exact (ht.get o ‹_›).symm
 ·rfl
theorem pr_tokx {x y : Bool} {t u : Option Nat} {h h' j j0 : JH} {l : List AObj} (ht : TokExt j j0) (e : h'.tnext = h.tnext) : pair2 ⟨x, t, h, h'⟩ ⟨y, u, Pg.ext j l, Pg.ext j0 l⟩ :=
 fun _ _ => ⟨fun ob _ => ext_get_tok ht ob, fun _ => ext_get_tok ht _, fun q => absurd e q⟩
section
variable {m : GM} {G : Nat → Option (List AV)}
noncomputable def ir67 : IFn := ⟨13, [⟨2, (some (some 3))⟩], (.seq (.reg [oA 1 (.box 24 (.r 0)), oA 2 (.alloc 24 [.sl .nil 0 [], .sl .nil 0 [], .sl .nil 0 []])]) (.seq (.draw [oA 3 (.fadr 0 (.r 1)), oL 4 3 none, oA 5 (.app 1 16 (.k (.sl .nil 0 [])) (.r 4)), oA 6 (.fadr 1 (.r 1)), oL 7 6 none, oA 8 (.app 1 16 (.k (.sl .nil 0 [])) (.r 7)), oA 9 (.fadr 2 (.r 1)), oL 10 9 none, oA 11 (.app 1 16 (.k (.sl .nil 0 [])) (.r 10)), oA 12 (.build [.sl .nil 0 [], .sl .nil 0 [], .sl .nil 0 []] [(0, (1, .r 5)), (1, (1, .r 8)), (2, (1, .r 11))]), oN (.store 3 (.r 2) (.r 12))] [(4, 2), (7, 2), (7, 5)]) .ret))⟩
theorem c67 : cfunc Tryz.prog 67 = some ir67 := by kernel_rfl
theorem k67 : okIR (max 1 ir67.n) ir67.ir = true := by decide +kernel
theorem s_nCopy (n : Nms) (b1 : n.cs.length ≤ 100000) (b2 : n.rs.length ≤ 100000) (b3 : n.is.length ≤ 100000) (j : JH) : JC Tryz.prog G 67 [.agg n.enc] j (RET (.agg n.enc) j) := by
 refine JC.run hmix c67 (by exact k67) ?_
 (try simp only[↓jr,jw,seval,ext_ext,pid_pid,ir67])
 refine JAPP.can0 CanApp.nil (TokExt.refl j) rfl (by simp [strs]) (one_strs _) (by omega) (by omega) ?_
 intro tk1 j1 hc1 ht1 hl1
 (try simp only[↓jr,jw,seval,ext_ext,pid_pid,ht1.next])
 refine JAPP.can' CanApp.nil (TokExt.refl j1) rfl (by simp [strs]) (one_strs _) (by omega) (by omega) ?_
 intro tk2 j2 hc2 ht2 hl2
 have ht12 := ht1.trans ht2
 (try simp only[↓jr,jw,seval,ext_ext,pid_pid,ht12.next])
 refine JAPP.can' CanApp.nil (TokExt.refl j2) rfl (by simp [strs]) (one_strs _) (by omega) (by omega) ?_
 intro tk3 j3 hc3 ht3 hl3
 have ht13 := ht12.trans ht3
 (try simp only[↓jr,jw,seval,ext_ext,pid_pid,ht13.next])
 refine JDRAW.oc (by (try simp only[↓jr,jw,seval,ext_ext,pid_pid,jq,qe2,qe3,ext_next,ext_tnext,pushTok_next,List.length_cons,List.length_nil,ht1.next,ht12.next,ht13.next]) <;> (repeat' (first | exact trivial | refine And.intro ?_ ?_ | exact Nat.le_refl _ | (refine pr_tokx ?_ rfl <;> assumption) | omega | (unfold pid; omega) ))) ?_
 (try simp only[↓jr,jw,seval,ext_ext,pid_pid,ht13.next])
 refine JFIN.ret (JDropH.back ht13).of_ext ?_
 exact SubB.agg ⟨SubB.sl rfl (SubBs.pure (strs_pur _)), SubB.sl rfl (SubBs.pure (strs_pur _)), SubB.sl rfl (SubBs.pure (strs_pur _)), True.intro⟩
end
abbrev BC (n : Nms) (a b c d : AV) : List AV := [.sl .none n.cs.length (strs n.cs), .sl .none n.rs.length (strs n.rs), .sl .none n.is.length (strs n.is), a, b, c, d]
theorem one_rin (l : List RIn) : (encs RIn.enc l).all AV.one = true := by unfold encs; rw [List.all_flatMap]; exact List.all_eq_true.2 fun _ _ => rfl
theorem one_lnk (l : List Lnk) : (encs Lnk.enc l).all AV.one = true := by unfold encs; rw [List.all_flatMap]; exact List.all_eq_true.2 fun _ _ => rfl
theorem inc_pur (x : Inc) : AV.pures x.enc = true := by unfold Inc.enc; rw [pures_append, Con.pur, Con.pur]; rfl
theorem fac_pur (x : Fac) : AV.pures x.enc = true := by unfold Fac.enc; simp only [AV.pures, Con.pur]; rfl
section
variable {m : GM} {G : Nat → Option (List AV)}
noncomputable def ir29 : IFn := ⟨58, [⟨2, (some (some 7))⟩], (.seq (.reg [oA 1 (.box 30 (.r 0)), oA 2 (.alloc 30 [.sl .nil 0 [], .sl .nil 0 [], .sl .nil 0 [], .sl .nil 0 [], .sl .nil 0 [], .sl .nil 0 [], .sl .nil 0 []])]) (.seq (.draw [oA 8 (.fadr 0 (.r 1)), oL 9 8 (some 3), oA 11 (.fadr 4 (.r 1)), oL 12 11 none, oA 14 (.fadr 6 (.r 1)), oL 15 14 none, oA 3 (.alloc 30 [.sl .nil 0 [], .sl .nil 0 [], .sl .nil 0 [], .sl .nil 0 [], .sl .nil 0 [], .sl .nil 0 [], .sl .nil 0 []]), oT 10 9 (.call 67 [.r 9]), oA 13 (.app 2 16 (.k (.sl .nil 0 [])) (.r 12)), oA 16 (.app 3 24 (.k (.sl .nil 0 [])) (.r 15)), oA 17 (.build [.sl .nil 0 [], .sl .nil 0 [], .sl .nil 0 [], .sl .nil 0 [], .sl .nil 0 [], .sl .nil 0 [], .sl .nil 0 []] [(0, (3, .r 10)), (4, (1, .r 13)), (6, (1, .r 16))]), oN (.store 7 (.r 3) (.r 17))] [(3, 7), (5, 7), (5, 8), (6, 7), (6, 8), (6, 9)]) (.seq (.seq (.reg [oA 18 (.fadr 3 (.r 1)), oL 19 18 none, oT 20 19 (.lenl (.r 19)), oA 21 (.mov (kI 0))]) (.block 0 (.loop (.seq (.reg [oA 22 (.bin .lss (.r 21) (.r 20))]) (.seq (.cond (.r 22) .skip (.exit 0)) (.seq (.block 1 (.seq (.reg [oA 23 (.iasl 6 (.r 19) (.r 21)), oL 24 23 (some 6), oA 5 (.alloc 113 [.v (.int .i64 0), .v (.int .i64 0), .sl .nil 0 [], .v (.int .i64 0), .v (.int .i64 0), .sl .nil 0 []]), oN (.store 6 (.r 5) (.r 24))]) (.draw [oA 25 (.fadr 3 (.r 3)), oL 26 25 none, oA 27 (.fadr 0 (.r 5)), oL 28 27 (some 3), oT 29 28 (.call 68 [.r 28]), oA 30 (.fadr 3 (.r 5)), oL 31 30 (some 3), oT 32 31 (.call 68 [.r 31]), oA 33 (.build [.v (.int .i64 0), .v (.int .i64 0), .sl .nil 0 [], .v (.int .i64 0), .v (.int .i64 0), .sl .nil 0 []] [(0, (3, .r 29)), (3, (3, .r 32))]), oA 34 (.bsl 1 6 [.v (.int .i64 0), .v (.int .i64 0), .sl .nil 0 [], .v (.int .i64 0), .v (.int .i64 0), .sl .nil 0 []] [(0, (6, .r 33))]), oA 35 (.app 6 80 (.r 26) (.r 34)), oA 36 (.fadr 3 (.r 3)), oN (.store 1 (.r 36) (.r 35))] [(1, 4), (1, 7), (6, 4)]))) (.reg [oA 37 (.bin .add (.r 21) (kI 1)), oA 21 (kM 37)]))))))) (.seq (.seq (.reg [oA 38 (.fadr 5 (.r 1)), oL 39 38 none, oT 40 39 (.lenl (.r 39)), oA 41 (.mov (kI 0))]) (.block 2 (.loop (.seq (.reg [oA 42 (.bin .lss (.r 41) (.r 40))]) (.seq (.cond (.r 42) .skip (.exit 2)) (.seq (.block 3 (.seq (.reg [oA 43 (.iasl 4 (.r 39) (.r 41)), oL 44 43 (some 4), oA 7 (.alloc 118 [.v (.int .i64 0), .v (.int .i64 0), .v (.int .i64 0), .sl .nil 0 []]), oN (.store 4 (.r 7) (.r 44))]) (.draw [oA 45 (.fadr 5 (.r 3)), oL 46 45 none, oA 47 (.fadr 0 (.r 7)), oL 48 47 none, oA 49 (.fadr 1 (.r 7)), oL 50 49 (some 3), oT 51 50 (.call 68 [.r 50]), oA 52 (.build [.v (.int .i64 0), .v (.int .i64 0), .v (.int .i64 0), .sl .nil 0 []] [(0, (1, .r 48)), (1, (3, .r 51))]), oA 53 (.bsl 1 4 [.v (.int .i64 0), .v (.int .i64 0), .v (.int .i64 0), .sl .nil 0 []] [(0, (4, .r 52))]), oA 54 (.app 4 48 (.r 46) (.r 53)), oA 55 (.fadr 5 (.r 3)), oN (.store 1 (.r 55) (.r 54))] [(1, 6), (3, 6)]))) (.reg [oA 56 (.bin .add (.r 41) (kI 1)), oA 41 (kM 56)]))))))) (.seq (.reg [oL 57 3 (some 7), oN (.store 7 (.r 2) (.r 57))]) .ret)))))⟩
theorem c29 : cfunc Tryz.prog 29 = some ir29 := by kernel_rfl
theorem k29 : okIR (max 1 ir29.n) ir29.ir = true := by decide +kernel
end
end
section
open Go
def stOK (P : Program) (t : TypeId) (n : Nat) : Bool := !(P.eqGuardType P.depth t) && !(P.stoodInHeld t) && match P.underlying t with
 | some (.struct fs) => fs.toList.all fun f => (match P.underlying f.type with | some (.int _) => true | _ => false) && (pureRun P (isAgg f.type) == some false) && decide (f.offset < n)
 | _ => false
theorem pure_loop {P : Program} {α β : Type} {b : β} {body : α → β → Sem (ForInStep β)} : ∀ {l : List α}, (∀ x ∈ l, pureRun P (body x b) = some (.yield b)) → pureRun P (forIn l b body) = some b
 | [], _ => by rw [List.forIn_nil]; rfl
 | x :: l, h => by
  rw [List.forIn_cons, pureRun_bind, h x List.mem_cons_self]
  exact pure_loop fun y hy => h y (List.mem_cons_of_mem _ hy)
abbrev ivs (us : List Int) : Array Value := (us.map fun x => Value.int .i64 x).toArray
theorem eq_st {P : Program} {t : TypeId} {us : List Int} (h : stOK P t us.length = true) : pureRun P (Op.equal t (.agg (ivs us)) (.agg (ivs us))) = some true := by
 unfold stOK at h
 simp only [Bool.and_eq_true, Bool.not_eq_true'] at h
 obtain ⟨⟨_, hs⟩, h⟩ := h
 split at h
 rotate_left
 ·cases h
 rename_i fs hu
 have hpr : pureRun P program = some P := rfl
 show pureRun P (Op.equalIn (9998 + 1 + 1) t _ _) = _
 rw [Op.equalIn, pureRun_bind, pureRun_underlying hu]
 simp only [Option.bind_some]
 rw [pureRun_bind, hpr]
 simp only [Option.bind_some, hs, Bool.false_eq_true, if_false]
 rw [pureRun_bind, ← Array.forIn_toList, pure_loop (b := (none, ())) ?_]
 ·rfl
 intro f hf
 have hq := List.all_eq_true.1 h f hf
 simp only [Bool.and_eq_true, beq_iff_eq, decide_eq_true_eq] at hq
 obtain ⟨⟨h1, h2⟩, h3⟩ := hq
 split at h1
 rotate_left
 ·cases h1
 rename_i k hk
 have hp : pureRun P (part f.type (ivs us) f.offset) = some (.int .i64 us[f.offset]) := by
  unfold part
  rw [pureRun_bind, h2]
  simp only [Option.bind_some, Bool.false_eq_true, if_false]
  have : (ivs us)[f.offset]? = some (.int .i64 us[f.offset]) := by simp [h3]
  rw [this]; rfl
 have he : pureRun P (Op.equalIn (9998 + 1) f.type (.int .i64 us[f.offset]) (.int .i64 us[f.offset])) = some true := by
  rw [Op.equalIn, pureRun_bind, pureRun_underlying hk]
  simp [pureRun_pure]
 split
 ·rw [pureRun_bind, hp]
  simp only [Option.bind_some]
  rw [pureRun_bind, hp]
  simp only [Option.bind_some]
  rw [pureRun_bind, he]
  rfl
 ·rfl
theorem lit_ints : ∀ us : List Int, lits (ints us) = some (us.map fun x => Value.int .i64 x)
 | [] => rfl
 | x :: us => by
  show (match lit (I64 x), lits (ints us) with | some a, some b => some (a :: b) | _, _ => none) = _
  rw [lit_ints us]; rfl
section
variable {P : Program} {G : Nat → Option (List AV)}
theorem st_step {o : Oper} {t yt : TypeId} {a b : Nat} {us : List Int} {l : L} {fr : Fr} {h : AH} (ho : o.op = .binOp .neq t (.tmp a) (.tmp b) yt) (hok : stOK P t us.length = true) (ha : lk l a = .agg (ints us)) (hb : lk l b = .agg (ints us)) (hf : ∀ i, fr.get i = lk l i) : astep P G (fun _ _ _ => none) fr h o = some (.ret (BOO false), h) := by
 have hu : ∃ fs, P.underlying t = some (.struct fs) := by
  unfold stOK at hok
  split at hok
  ·exact ⟨_, ‹_›⟩
  ·simp at hok
 obtain ⟨fs, hu⟩ := hu
 have hgd : P.eqGuardType P.depth t = false := by
  unfold stOK at hok
  simp only [Bool.and_eq_true, Bool.not_eq_true'] at hok
  exact hok.1.1
 have hq := eq_st hok
 have hl : lit (.agg (ints us)) = some (.agg (ivs us)) := by
  show (lits (ints us)).map _ = _
  rw [lit_ints]; rfl
 have hea : (aev G fr (.tmp a)).bind lit = some (.agg (ivs us)) := by
  show (some (fr.get a)).bind lit = _
  rw [hf a, ha]; exact hl
 have heb : (aev G fr (.tmp b)).bind lit = some (.agg (ivs us)) := by
  show (some (fr.get b)).bind lit = _
  rw [hf b, hb]; exact hl
 have hr : pureRun P (do eqGuard .neq t (.tmp a) (.tmp b) (.agg (ivs us)) (.agg (ivs us)); binOp .neq t (.agg (ivs us)) (.agg (ivs us))) = some (.bool false) := by
  have hg : pureRun P (eqGuard .neq t (.tmp a) (.tmp b) (.agg (ivs us)) (.agg (ivs us))) = some () := by
   have hpr : pureRun P program = some P := rfl
   unfold eqGuard
   simp [pureRun_bind, hpr, hgd, pureRun_pure]
  rw [pureRun_bind, hg]
  show pureRun P (binOp .neq t _ _) = _
  simp only [binOp, pureRun_bind, hq, Option.bind_some, pureRun_pure]; rfl
 have hk : kindOf o = .p := by simp [kindOf, ho]
 have hz : pop P G fr o = some (BOO false) := by
  simp only [pop, ho]
  rw [inilv_none (fun m e => by rw [hu] at e; cases e), alit_binL ho hea heb hr rfl]
 unfold astep
 rw [hk]
 simp only [hz, Option.map_some]
theorem JDGEN.same {o : Oper} {t yt : TypeId} {a b : Nat} {us : List Int} {l : L} {j : JH} {K : AV → JH → Prop} (ho : o.op = .binOp .neq t (.tmp a) (.tmp b) yt) (hok : stOK P t us.length = true) (ha : lk l a = .agg (ints us)) (hb : lk l b = .agg (ints us)) (k : K (BOO false) j) : @JDGEN P G o l j ⟨K⟩ :=
 ⟨BOO false, fun _ _ hf _ => st_step ho hok ha hb hf, k⟩
end
open Go
section
variable {m : GM} {G : Nat → Option (List AV)}
theorem s_rSame1 (c : Con) (hc : c.ok) (j : JH) : JC Tryz.prog G 53 [.agg c.enc, .agg c.enc] j (RET (BOO true) j) := by
 have := s_rSame (G := G) c c j hc hc
 rwa [ceq_refl] at this
noncomputable def ir97 : IFn := ⟨26, [⟨4, none⟩], (.seq (.reg [oA 4 (.mov (kB false))]) (.seq (.seq (.reg [oA 6 (kM 0), oT 7 6 (.lenl (.r 6)), oA 8 (kM 1), oT 9 8 (.lenl (.r 8)), oA 10 (.bin .neq (.r 7) (.r 9))]) (.cond (.r 10) (.seq (.reg [oA 4 (.mov (kB false))]) .ret) .skip)) (.seq (.seq (.reg [oA 11 (kM 0), oT 12 11 (.lenl (.r 11)), oA 13 (.mov (kI 0))]) (.block 0 (.loop (.seq (.reg [oA 14 (.bin .lss (.r 13) (.r 12))]) (.seq (.cond (.r 14) .skip (.exit 0)) (.seq (.block 1 (.seq (.reg [oA 15 (kM 13), oA 5 (kM 15)]) (.seq (.draw [oA 16 (kM 0), oA 17 (kM 5), oA 18 (.iasl 1 (.r 16) (.r 17)), oL 19 18 none, oA 20 (kM 1), oA 21 (kM 5), oA 22 (.iasl 1 (.r 20) (.r 21)), oL 23 22 none, oA 24 (.bin .neq (.r 19) (.r 23))] []) (.cond (.r 24) (.seq (.reg [oA 4 (.mov (kB false))]) .ret) .skip)))) (.reg [oA 25 (.bin .add (.r 13) (kI 1)), oA 13 (kM 25)]))))))) (.seq (.reg [oA 4 (.mov (kB true))]) .ret))))⟩
theorem c97 : cfunc Tryz.prog 97 = some ir97 := by kernel_rfl
theorem k97 : okIR (max 2 ir97.n) ir97.ir = true := by decide +kernel
theorem s_strSame (l : List ByteArray) (hl : l.length ≤ 100000) (j : JH) : JC Tryz.prog G 97 [.sl .none l.length (strs l), .sl .none l.length (strs l)] j (RET (BOO true) j) := by
 refine JC.run hmix c97 (by exact k97) ?_
 (try simp only[↓jr,jw,seval,ir97])
 refine JLOOP.of (σ := Nat) (fun k => k ≤ l.length) (fun k => l.length - k) (fun k => [(13, I64 k), (12, I64 l.length), (0, .sl .none l.length (strs l)), (1, .sl .none l.length (strs l))]) (fun k => ext j []) 0 (Nat.zero_le _) ?_ (JDropH.refl _) ?_
 ·(try simp only[↓jr,jw,seval,DL])
  exact ⟨SubB.v, SubB.v, SubB.sl rfl (SubBs.pure (strs_pur _))⟩
 intro k hk
 (try simp only[↓jr,jw,seval])
 refine wq.intro (fun q1 => ?_) (fun q1 => ?_)
 ·have hlt : k < (l).length := by omega
  obtain ⟨x, u, hd⟩ : ∃ c_ l_, List.drop k (l) = c_ :: l_ := ⟨_, _, List.drop_eq_getElem_cons hlt⟩
  have hd1 : List.drop (k + 1) (l) = u := by rw [← List.drop_drop, hd]; rfl
  have hmem : x ∈ l := List.mem_of_mem_drop (hd ▸ List.mem_cons_self)
  (try simp only[↓jr,jw,seval,hd])
  refine wc.intro (by omega) ?_
  (try simp only[↓jr,jw,seval,hd])
  refine wc.intro (by omega) ?_
  (try simp only[↓jr,jw,seval,hd])
  refine JDRAW.oc (by (try simp only[↓jr,jw,seval,jq]) <;> exact orq) ?_; (try simp only[↓jr,jw,seval])
  refine wc.intro (R64_add hlt (by omega)) ?_
  (try simp only[↓jr,jw,seval])
  refine JNEXT.of (k + 1) (by omega) (by omega) ?_ JDropH.nx
  (try simp only[↓jr,jw,seval,DL])
  exact ⟨SubB.v, SubB.v, SubB.sl rfl (SubBs.pure (strs_pur _))⟩
 ·(try simp only[↓jr,jw,seval])
  refine JFIN.rb ?_
  exact SubB.v
noncomputable def ir52 : IFn := ⟨24, [⟨4, none⟩], (.seq (.reg [oA 2 (.box 24 (.r 0)), oA 3 (.box 24 (.r 1)), oA 4 (.mov (kB false))]) (.seq (.reg [oA 5 (.fadr 0 (.r 2)), oL 6 5 none, oA 7 (.fadr 0 (.r 3)), oL 8 7 none, oA 9 (.call 97 [.r 6, .r 8]), oA 10 (kM 9), ⟨(some 11), (some ((10, true))), none, (.fadr 1 (.r 2))⟩, ⟨(some 12), (some ((10, true))), (some (.r 11)), (.load none (.r 11))⟩, ⟨(some 13), (some ((10, true))), none, (.fadr 1 (.r 3))⟩, ⟨(some 14), (some ((10, true))), (some (.r 13)), (.load none (.r 13))⟩, ⟨(some 15), (some ((10, true))), none, (.call 97 [.r 12, .r 14])⟩, oA 16 (.pick (.r 10) (.r 15) (kB false)), oA 17 (kM 16), ⟨(some 18), (some ((17, true))), none, (.fadr 2 (.r 2))⟩, ⟨(some 19), (some ((17, true))), (some (.r 18)), (.load none (.r 18))⟩, ⟨(some 20), (some ((17, true))), none, (.fadr 2 (.r 3))⟩, ⟨(some 21), (some ((17, true))), (some (.r 20)), (.load none (.r 20))⟩, ⟨(some 22), (some ((17, true))), none, (.call 97 [.r 19, .r 21])⟩, oA 23 (.pick (.r 17) (.r 22) (kB false)), oA 4 (kM 23)]) .ret))⟩
theorem c52 : cfunc Tryz.prog 52 = some ir52 := by kernel_rfl
theorem k52 : okIR (max 2 ir52.n) ir52.ir = true := by decide +kernel
theorem s_nSame (n : Nms) (b1 : n.cs.length ≤ 100000) (b2 : n.rs.length ≤ 100000) (b3 : n.is.length ≤ 100000) (j : JH) : JC Tryz.prog G 52 [.agg n.enc, .agg n.enc] j (RET (BOO true) j) := by
 refine JC.run hmix c52 (by exact k52) ?_
 (try simp only[↓jr,jw,seval,ext_ext,pid_pid,ir52])
 refine JCs.ret (s_strSame n.cs b1 _) ?_
 (try simp only[↓jr,jw,seval,ext_ext,pid_pid])
 refine JCs.ret (s_strSame n.rs b2 _) ?_
 (try simp only[↓jr,jw,seval,ext_ext,pid_pid])
 refine JCs.ret (s_strSame n.is b3 _) ?_
 (try simp only[↓jr,jw,seval,ext_ext,pid_pid])
 refine JFIN.rb ?_
 exact SubB.v
noncomputable def ir15 : IFn := ⟨148, [⟨4, none⟩], (.seq (.reg [oA 2 (.box 30 (.r 0)), oA 3 (.box 30 (.r 1)), oA 4 (.mov (kB false))]) (.seq (.seq (.reg [oA 13 (.fadr 0 (.r 2)), oL 14 13 (some 3), oA 15 (.fadr 0 (.r 3)), oL 16 15 (some 3), oA 17 (.call 52 [.r 14, .r 16]), oA 18 (.not (.r 17)), oA 19 (kM 18), ⟨(some 20), (some ((19, false))), none, (.fadr 3 (.r 2))⟩, ⟨(some 21), (some ((19, false))), (some (.r 20)), (.load none (.r 20))⟩, ⟨(some 22), (some ((19, false))), (some (.r 21)), (.lenl (.r 21))⟩, ⟨(some 23), (some ((19, false))), none, (.fadr 3 (.r 3))⟩, ⟨(some 24), (some ((19, false))), (some (.r 23)), (.load none (.r 23))⟩, ⟨(some 25), (some ((19, false))), (some (.r 24)), (.lenl (.r 24))⟩, ⟨(some 26), (some ((19, false))), none, (.bin .neq (.r 22) (.r 25))⟩, oA 27 (.pick (.r 19) (kB true) (.r 26)), oA 28 (kM 27), ⟨(some 29), (some ((28, false))), none, (.fadr 4 (.r 2))⟩, ⟨(some 30), (some ((28, false))), (some (.r 29)), (.load none (.r 29))⟩, ⟨(some 31), (some ((28, false))), (some (.r 30)), (.lenl (.r 30))⟩, ⟨(some 32), (some ((28, false))), none, (.fadr 4 (.r 3))⟩, ⟨(some 33), (some ((28, false))), (some (.r 32)), (.load none (.r 32))⟩, ⟨(some 34), (some ((28, false))), (some (.r 33)), (.lenl (.r 33))⟩, ⟨(some 35), (some ((28, false))), none, (.bin .neq (.r 31) (.r 34))⟩, oA 36 (.pick (.r 28) (kB true) (.r 35)), oA 37 (kM 36), ⟨(some 38), (some ((37, false))), none, (.fadr 5 (.r 2))⟩, ⟨(some 39), (some ((37, false))), (some (.r 38)), (.load none (.r 38))⟩, ⟨(some 40), (some ((37, false))), (some (.r 39)), (.lenl (.r 39))⟩, ⟨(some 41), (some ((37, false))), none, (.fadr 5 (.r 3))⟩, ⟨(some 42), (some ((37, false))), (some (.r 41)), (.load none (.r 41))⟩, ⟨(some 43), (some ((37, false))), (some (.r 42)), (.lenl (.r 42))⟩, ⟨(some 44), (some ((37, false))), none, (.bin .neq (.r 40) (.r 43))⟩, oA 45 (.pick (.r 37) (kB true) (.r 44)), oA 46 (kM 45), ⟨(some 47), (some ((46, false))), none, (.fadr 6 (.r 2))⟩, ⟨(some 48), (some ((46, false))), (some (.r 47)), (.load none (.r 47))⟩, ⟨(some 49), (some ((46, false))), (some (.r 48)), (.lenl (.r 48))⟩, ⟨(some 50), (some ((46, false))), none, (.fadr 6 (.r 3))⟩, ⟨(some 51), (some ((46, false))), (some (.r 50)), (.load none (.r 50))⟩, ⟨(some 52), (some ((46, false))), (some (.r 51)), (.lenl (.r 51))⟩, ⟨(some 53), (some ((46, false))), none, (.bin .neq (.r 49) (.r 52))⟩, oA 54 (.pick (.r 46) (kB true) (.r 53))]) (.cond (.r 54) (.seq (.reg [oA 4 (.mov (kB false))]) .ret) .skip)) (.seq (.seq (.reg [oA 55 (.fadr 3 (.r 2)), oL 56 55 none, oT 57 56 (.lenl (.r 56)), oA 58 (.mov (kI 0))]) (.block 0 (.loop (.seq (.reg [oA 59 (.bin .lss (.r 58) (.r 57))]) (.seq (.cond (.r 59) .skip (.exit 0)) (.seq (.block 1 (.seq (.reg [oA 60 (kM 58), oA 61 (.iasl 6 (.r 56) (.r 58)), oL 62 61 (some 6), oA 6 (.alloc 113 [.v (.int .i64 0), .v (.int .i64 0), .sl .nil 0 [], .v (.int .i64 0), .v (.int .i64 0), .sl .nil 0 []]), oA 5 (kM 60), oN (.store 6 (.r 6) (.r 62))]) (.seq (.draw [oA 63 (.fadr 0 (.r 6)), oL 64 63 (some 3), oA 65 (.fadr 3 (.r 3)), oL 66 65 none, oA 67 (kM 5), oA 68 (.iasl 6 (.r 66) (.r 67)), oA 69 (.fadr 0 (.r 68)), oL 70 69 (some 3), oA 71 (.call 53 [.r 64, .r 70]), oA 72 (.not (.r 71)), oA 73 (kM 72), ⟨(some 74), (some ((73, false))), none, (.fadr 3 (.r 6))⟩, ⟨(some 75), (some ((73, false))), (some (.r 74)), (.load (some 3) (.r 74))⟩, ⟨(some 76), (some ((73, false))), none, (.fadr 3 (.r 3))⟩, ⟨(some 77), (some ((73, false))), (some (.r 76)), (.load none (.r 76))⟩, ⟨(some 78), (some ((73, false))), none, (kM 5)⟩, ⟨(some 79), (some ((73, false))), none, (.iasl 6 (.r 77) (.r 78))⟩, ⟨(some 80), (some ((73, false))), none, (.fadr 3 (.r 79))⟩, ⟨(some 81), (some ((73, false))), (some (.r 80)), (.load (some 3) (.r 80))⟩, ⟨(some 82), (some ((73, false))), none, (.call 53 [.r 75, .r 81])⟩, ⟨(some 83), (some ((73, false))), none, (.not (.r 82))⟩, oA 84 (.pick (.r 73) (kB true) (.r 83))] []) (.cond (.r 84) (.seq (.reg [oA 4 (.mov (kB false))]) .ret) .skip)))) (.reg [oA 85 (.bin .add (.r 58) (kI 1)), oA 58 (kM 85)]))))))) (.seq (.seq (.reg [oA 86 (.fadr 4 (.r 2)), oL 87 86 none, oT 88 87 (.lenl (.r 87)), oA 89 (.mov (kI 0))]) (.block 2 (.loop (.seq (.reg [oA 90 (.bin .lss (.r 89) (.r 88))]) (.seq (.cond (.r 90) .skip (.exit 2)) (.seq (.block 3 (.seq (.reg [oA 91 (kM 89), oA 92 (.iasl 2 (.r 87) (.r 89)), oL 93 92 (some 2), oA 8 (.alloc 116 [.v (.int .i64 0), .v (.int .i64 0)]), oA 7 (kM 91), oN (.store 2 (.r 8) (.r 93))]) (.seq (.draw [oL 94 8 (some 2), oA 95 (.fadr 4 (.r 3)), oL 96 95 none, oA 97 (kM 7), oA 98 (.iasl 2 (.r 96) (.r 97)), oL 99 98 (some 2), oA 100 (.gen ⟨(some 100), (.binOp .neq 116 (.tmp 94) (.tmp 99) 116), 4, "ref.go:90", #[⟨0, .data⟩, ⟨5, .data⟩], none⟩)] []) (.cond (.r 100) (.seq (.reg [oA 4 (.mov (kB false))]) .ret) .skip)))) (.reg [oA 101 (.bin .add (.r 89) (kI 1)), oA 89 (kM 101)]))))))) (.seq (.seq (.reg [oA 102 (.fadr 5 (.r 2)), oL 103 102 none, oT 104 103 (.lenl (.r 103)), oA 105 (.mov (kI 0))]) (.block 4 (.loop (.seq (.reg [oA 106 (.bin .lss (.r 105) (.r 104))]) (.seq (.cond (.r 106) .skip (.exit 4)) (.seq (.block 5 (.seq (.reg [oA 107 (kM 105), oA 108 (.iasl 4 (.r 103) (.r 105)), oL 109 108 (some 4), oA 10 (.alloc 118 [.v (.int .i64 0), .v (.int .i64 0), .v (.int .i64 0), .sl .nil 0 []]), oA 9 (kM 107), oN (.store 4 (.r 10) (.r 109))]) (.seq (.draw [oA 110 (.fadr 0 (.r 10)), oL 111 110 none, oA 112 (.fadr 5 (.r 3)), oL 113 112 none, oA 114 (kM 9), oA 115 (.iasl 4 (.r 113) (.r 114)), oA 116 (.fadr 0 (.r 115)), oL 117 116 none, oA 118 (.bin .neq (.r 111) (.r 117)), oA 119 (kM 118), ⟨(some 120), (some ((119, false))), none, (.fadr 1 (.r 10))⟩, ⟨(some 121), (some ((119, false))), (some (.r 120)), (.load (some 3) (.r 120))⟩, ⟨(some 122), (some ((119, false))), none, (.fadr 5 (.r 3))⟩, ⟨(some 123), (some ((119, false))), (some (.r 122)), (.load none (.r 122))⟩, ⟨(some 124), (some ((119, false))), none, (kM 9)⟩, ⟨(some 125), (some ((119, false))), none, (.iasl 4 (.r 123) (.r 124))⟩, ⟨(some 126), (some ((119, false))), none, (.fadr 1 (.r 125))⟩, ⟨(some 127), (some ((119, false))), (some (.r 126)), (.load (some 3) (.r 126))⟩, ⟨(some 128), (some ((119, false))), none, (.call 53 [.r 121, .r 127])⟩, ⟨(some 129), (some ((119, false))), none, (.not (.r 128))⟩, oA 130 (.pick (.r 119) (kB true) (.r 129))] []) (.cond (.r 130) (.seq (.reg [oA 4 (.mov (kB false))]) .ret) .skip)))) (.reg [oA 131 (.bin .add (.r 105) (kI 1)), oA 105 (kM 131)]))))))) (.seq (.seq (.reg [oA 132 (.fadr 6 (.r 2)), oL 133 132 none, oT 134 133 (.lenl (.r 133)), oA 135 (.mov (kI 0))]) (.block 6 (.loop (.seq (.reg [oA 136 (.bin .lss (.r 135) (.r 134))]) (.seq (.cond (.r 136) .skip (.exit 6)) (.seq (.block 7 (.seq (.reg [oA 137 (kM 135), oA 138 (.iasl 3 (.r 133) (.r 135)), oL 139 138 (some 3), oA 12 (.alloc 120 [.v (.int .i64 0), .v (.int .i64 0), .v (.int .i64 0)]), oA 11 (kM 137), oN (.store 3 (.r 12) (.r 139))]) (.seq (.draw [oL 140 12 (some 3), oA 141 (.fadr 6 (.r 3)), oL 142 141 none, oA 143 (kM 11), oA 144 (.iasl 3 (.r 142) (.r 143)), oL 145 144 (some 3), oA 146 (.gen ⟨(some 146), (.binOp .neq 120 (.tmp 140) (.tmp 145) 120), 4, "ref.go:100", #[⟨0, .data⟩, ⟨5, .data⟩], none⟩)] []) (.cond (.r 146) (.seq (.reg [oA 4 (.mov (kB false))]) .ret) .skip)))) (.reg [oA 147 (.bin .add (.r 135) (kI 1)), oA 135 (kM 147)]))))))) (.seq (.reg [oA 4 (.mov (kB true))]) .ret)))))))⟩
theorem c15 : cfunc Tryz.prog 15 = some ir15 := by kernel_rfl
theorem k15 : okIR (max 2 ir15.n) ir15.ir = true := by decide +kernel
theorem s_bSame (b : Bas) (hb : b.ok) (n1 : b.nms.cs.length ≤ 100000) (n2 : b.nms.rs.length ≤ 100000) (n3 : b.nms.is.length ≤ 100000) (l1 : b.incls.length ≤ 100000) (l2 : b.roles.length ≤ 100000) (l3 : b.facts.length ≤ 100000) (l4 : b.links.length ≤ 100000) (j : JH) : JC Tryz.prog G 15 [.agg b.enc, .agg b.enc] j (RET (BOO true) j) := by
 refine JC.run hmix c15 (by exact k15) ?_
 (try simp only[↓jr,jw,seval,ext_ext,pid_pid,ir15])
 refine JCs.ret (s_nSame b.nms n1 n2 n3 _) ?_
 (try simp only[↓jr,jw,seval,ext_ext,pid_pid])
 refine JLOOP.of (σ := Nat) (fun k => k ≤ b.incls.length) (fun k => b.incls.length - k) (fun k => [(58, I64 k), (57, I64 b.incls.length), (56, .sl .none b.incls.length (encs Inc.enc b.incls)), (2, .ptr (pid j.next 0) 0), (3, .ptr (pid j.next 1) 0)]) (fun k => ext j [.cells 30 b.enc, .cells 30 b.enc]) 0 (Nat.zero_le _) ?_ (JDropH.refl _) ?_
 ·(try simp only[↓jr,jw,seval,ext_ext,pid_pid,DL])
  exact ⟨SubB.v, SubB.v, SubB.sl rfl (SubBs.pure (encs_pur inc_pur _)), SubB.ptr (by unfold pid; omega), SubB.ptr (by unfold pid; omega)⟩
 intro k hk
 (try simp only[↓jr,jw,seval,ext_ext,pid_pid])
 refine wq.intro (fun q1 => ?_) (fun q1 => ?_)
 ·have hlt : k < (b.incls).length := by omega
  obtain ⟨x, u, hd⟩ : ∃ c_ l_, List.drop k (b.incls) = c_ :: l_ := ⟨_, _, List.drop_eq_getElem_cons hlt⟩
  have hd1 : List.drop (k + 1) (b.incls) = u := by rw [← List.drop_drop, hd]; rfl
  have hmem : x ∈ b.incls := List.mem_of_mem_drop (hd ▸ List.mem_cons_self)
  (try simp only[↓jr,jw,seval,ext_ext,pid_pid,hd])
  refine wc.intro (by omega) ?_
  (try simp only[↓jr,jw,seval,ext_ext,pid_pid,hd])
  have i1 : ∀ cs : List AV, icut (some 3) (x.enc ++ cs) 0 = some (.agg x.sub.enc) := fun cs => by
   unfold Inc.enc; rw [List.append_assoc]; exact d_con1
  have i2 : ∀ cs : List AV, icut (some 3) (x.enc ++ cs) 3 = some (.agg x.sup.enc) := fun cs => by
   unfold Inc.enc; rw [List.append_assoc]
   have := icut_at (row := some 3) (cs := x.sup.enc ++ cs) (k := 0) (Con.len x.sub)
   rw [this]; exact d_con1
  refine wc.intro (by omega) ?_
  (try simp only[↓jr,jw,seval,ext_ext,pid_pid,hd,i1,i2])
  refine JDC.use (s_rSame1 x.sub (hb.incls x hmem).1 _) ?_
  (try simp only[↓jr,jw,seval,ext_ext,pid_pid,hd,i1,i2])
  refine wc.intro (by omega) ?_
  (try simp only[↓jr,jw,seval,ext_ext,pid_pid,hd,i1,i2])
  refine JDC.use (s_rSame1 x.sup (hb.incls x hmem).2 _) ?_
  (try simp only[↓jr,jw,seval,ext_ext,pid_pid])
  refine JDRAW.oc (by (try simp only[↓jr,jw,seval,ext_ext,pid_pid,jq,qe2,qe3,ext_next,ext_tnext,pushTok_next,List.length_cons,List.length_nil]) <;> (repeat' (first | exact trivial | refine And.intro ?_ ?_ | exact Nat.le_refl _ | (refine pr_extp ⟨_, rfl⟩ (some_lt ?_)) | (refine pr_extp ⟨_, rfl⟩ (fun _ q => by cases q)) | omega | (unfold pid; omega) | (simp only [pushTok_next, List.length_cons, List.length_nil]; unfold pid; omega)))) ?_; (try simp only[↓jr,jw,seval,ext_ext,pid_pid])
  refine wc.intro (by unfold R64; omega) ?_
  (try simp only[↓jr,jw,seval,ext_ext,pid_pid])
  refine JNEXT.of (k + 1) (by omega) (by omega) ?_ JDropH.nx
  (try simp only[↓jr,jw,seval,ext_ext,pid_pid,DL])
  exact ⟨SubB.v, SubB.v, SubB.sl rfl (SubBs.pure (encs_pur inc_pur _)), SubB.ptr (by unfold pid; omega), SubB.ptr (by unfold pid; omega)⟩
 have ek : k = b.incls.length := by omega
 subst ek
 (try simp only[↓jr,jw,seval,ext_ext,pid_pid])
 clear q1 hk
 refine JLOOP.of (σ := Nat) (fun k => k ≤ b.roles.length) (fun k => b.roles.length - k) (fun k => [(89, I64 k), (88, I64 b.roles.length), (87, .sl .none b.roles.length (encs RIn.enc b.roles)), (2, .ptr (pid j.next 0) 0), (3, .ptr (pid j.next 1) 0)]) (fun k => ext j [.cells 30 b.enc, .cells 30 b.enc]) 0 (Nat.zero_le _) ?_ (JDropH.refl _) ?_
 ·(try simp only[↓jr,jw,seval,ext_ext,pid_pid,DL])
  exact ⟨SubB.v, SubB.v, SubB.sl rfl (SubBs.pure (encs_pur (fun _ => rfl) _)), SubB.ptr (by unfold pid; omega), SubB.ptr (by unfold pid; omega)⟩
 intro k hk
 (try simp only[↓jr,jw,seval,ext_ext,pid_pid])
 refine wq.intro (fun q1 => ?_) (fun q1 => ?_)
 ·have hlt : k < (b.roles).length := by omega
  obtain ⟨x, u, hd⟩ : ∃ c_ l_, List.drop k (b.roles) = c_ :: l_ := ⟨_, _, List.drop_eq_getElem_cons hlt⟩
  have hd1 : List.drop (k + 1) (b.roles) = u := by rw [← List.drop_drop, hd]; rfl
  have hmem : x ∈ b.roles := List.mem_of_mem_drop (hd ▸ List.mem_cons_self)
  (try simp only[↓jr,jw,seval,ext_ext,pid_pid,hd])
  refine wc.intro (by omega) ?_
  (try simp only[↓jr,jw,seval,ext_ext,pid_pid,hd])
  refine wc.intro (by omega) ?_
  (try simp only[↓jr,jw,seval,ext_ext,pid_pid,hd])
  refine JDGEN.same (us := [x.sub, x.sup]) rfl (by kernel_rfl) (by rfl) (by rfl) ?_
  (try simp only[↓jr,jw,seval,ext_ext,pid_pid])
  refine JDRAW.oc (by (try simp only[↓jr,jw,seval,ext_ext,pid_pid,jq,qe2,qe3,ext_next,ext_tnext,pushTok_next,List.length_cons,List.length_nil]) <;> (repeat' (first | exact trivial | refine And.intro ?_ ?_ | exact Nat.le_refl _ | (refine pr_extp ⟨_, rfl⟩ (some_lt ?_)) | (refine pr_extp ⟨_, rfl⟩ (fun _ q => by cases q)) | omega | (unfold pid; omega) | (simp only [pushTok_next, List.length_cons, List.length_nil]; unfold pid; omega)))) ?_; (try simp only[↓jr,jw,seval,ext_ext,pid_pid])
  refine wc.intro (by unfold R64; omega) ?_
  (try simp only[↓jr,jw,seval,ext_ext,pid_pid])
  refine JNEXT.of (k + 1) (by omega) (by omega) ?_ JDropH.nx
  (try simp only[↓jr,jw,seval,ext_ext,pid_pid,DL])
  exact ⟨SubB.v, SubB.v, SubB.sl rfl (SubBs.pure (encs_pur (fun _ => rfl) _)), SubB.ptr (by unfold pid; omega), SubB.ptr (by unfold pid; omega)⟩
 have ek : k = b.roles.length := by omega
 subst ek
 (try simp only[↓jr,jw,seval,ext_ext,pid_pid])
 clear q1 hk
 refine JLOOP.of (σ := Nat) (fun k => k ≤ b.facts.length) (fun k => b.facts.length - k) (fun k => [(105, I64 k), (104, I64 b.facts.length), (103, .sl .none b.facts.length (encs Fac.enc b.facts)), (2, .ptr (pid j.next 0) 0), (3, .ptr (pid j.next 1) 0)]) (fun k => ext j [.cells 30 b.enc, .cells 30 b.enc]) 0 (Nat.zero_le _) ?_ (JDropH.refl _) ?_
 ·(try simp only[↓jr,jw,seval,ext_ext,pid_pid,DL])
  exact ⟨SubB.v, SubB.v, SubB.sl rfl (SubBs.pure (encs_pur fac_pur _)), SubB.ptr (by unfold pid; omega), SubB.ptr (by unfold pid; omega)⟩
 intro k hk
 (try simp only[↓jr,jw,seval,ext_ext,pid_pid])
 refine wq.intro (fun q1 => ?_) (fun q1 => ?_)
 ·have hlt : k < (b.facts).length := by omega
  obtain ⟨x, u, hd⟩ : ∃ c_ l_, List.drop k (b.facts) = c_ :: l_ := ⟨_, _, List.drop_eq_getElem_cons hlt⟩
  have hd1 : List.drop (k + 1) (b.facts) = u := by rw [← List.drop_drop, hd]; rfl
  have hmem : x ∈ b.facts := List.mem_of_mem_drop (hd ▸ List.mem_cons_self)
  (try simp only[↓jr,jw,seval,ext_ext,pid_pid,hd])
  refine wc.intro (by omega) ?_
  (try simp only[↓jr,jw,seval,ext_ext,pid_pid,hd])
  have i1 : ∀ cs : List AV, icut none (x.enc ++ cs) 0 = some (I64 x.ind) := fun cs => rfl
  have i2 : ∀ cs : List AV, icut (some 3) (x.enc ++ cs) 1 = some (.agg x.con.enc) := fun cs => by
   have := icut_at (row := some 3) (xs := [I64 x.ind]) (cs := x.con.enc ++ cs) (k := 0) (n := 1) rfl
   exact this.trans d_con1
  refine wc.intro (by omega) ?_
  (try simp only[↓jr,jw,seval,ext_ext,pid_pid,hd,i1,i2])
  refine wc.intro (by omega) ?_
  (try simp only[↓jr,jw,seval,ext_ext,pid_pid,hd,i1,i2])
  refine JDC.use (s_rSame1 x.con (hb.facts x hmem).2 _) ?_
  (try simp only[↓jr,jw,seval,ext_ext,pid_pid])
  refine JDRAW.oc (by (try simp only[↓jr,jw,seval,ext_ext,pid_pid,jq,qe2,qe3,ext_next,ext_tnext,pushTok_next,List.length_cons,List.length_nil]) <;> (repeat' (first | exact trivial | refine And.intro ?_ ?_ | exact Nat.le_refl _ | (refine pr_extp ⟨_, rfl⟩ (some_lt ?_)) | (refine pr_extp ⟨_, rfl⟩ (fun _ q => by cases q)) | omega | (unfold pid; omega) | (simp only [pushTok_next, List.length_cons, List.length_nil]; unfold pid; omega)))) ?_; (try simp only[↓jr,jw,seval,ext_ext,pid_pid])
  refine wc.intro (by unfold R64; omega) ?_
  (try simp only[↓jr,jw,seval,ext_ext,pid_pid])
  refine JNEXT.of (k + 1) (by omega) (by omega) ?_ JDropH.nx
  (try simp only[↓jr,jw,seval,ext_ext,pid_pid,DL])
  exact ⟨SubB.v, SubB.v, SubB.sl rfl (SubBs.pure (encs_pur fac_pur _)), SubB.ptr (by unfold pid; omega), SubB.ptr (by unfold pid; omega)⟩
 have ek : k = b.facts.length := by omega
 subst ek
 (try simp only[↓jr,jw,seval,ext_ext,pid_pid])
 clear q1 hk
 refine JLOOP.of (σ := Nat) (fun k => k ≤ b.links.length) (fun k => b.links.length - k) (fun k => [(135, I64 k), (134, I64 b.links.length), (133, .sl .none b.links.length (encs Lnk.enc b.links)), (2, .ptr (pid j.next 0) 0), (3, .ptr (pid j.next 1) 0)]) (fun k => ext j [.cells 30 b.enc, .cells 30 b.enc]) 0 (Nat.zero_le _) ?_ (JDropH.refl _) ?_
 ·(try simp only[↓jr,jw,seval,ext_ext,pid_pid,DL])
  exact ⟨SubB.v, SubB.v, SubB.sl rfl (SubBs.pure (encs_pur (fun _ => rfl) _)), SubB.ptr (by unfold pid; omega), SubB.ptr (by unfold pid; omega)⟩
 intro k hk
 (try simp only[↓jr,jw,seval,ext_ext,pid_pid])
 refine wq.intro (fun q1 => ?_) (fun q1 => ?_)
 ·have hlt : k < (b.links).length := by omega
  obtain ⟨x, u, hd⟩ : ∃ c_ l_, List.drop k (b.links) = c_ :: l_ := ⟨_, _, List.drop_eq_getElem_cons hlt⟩
  have hd1 : List.drop (k + 1) (b.links) = u := by rw [← List.drop_drop, hd]; rfl
  have hmem : x ∈ b.links := List.mem_of_mem_drop (hd ▸ List.mem_cons_self)
  (try simp only[↓jr,jw,seval,ext_ext,pid_pid,hd])
  refine wc.intro (by omega) ?_
  (try simp only[↓jr,jw,seval,ext_ext,pid_pid,hd])
  refine wc.intro (by omega) ?_
  (try simp only[↓jr,jw,seval,ext_ext,pid_pid,hd])
  refine JDGEN.same (us := [x.role, x.fr, x.to]) rfl (by kernel_rfl) (by rfl) (by rfl) ?_
  (try simp only[↓jr,jw,seval,ext_ext,pid_pid])
  refine JDRAW.oc (by (try simp only[↓jr,jw,seval,ext_ext,pid_pid,jq,qe2,qe3,ext_next,ext_tnext,pushTok_next,List.length_cons,List.length_nil]) <;> (repeat' (first | exact trivial | refine And.intro ?_ ?_ | exact Nat.le_refl _ | (refine pr_extp ⟨_, rfl⟩ (some_lt ?_)) | (refine pr_extp ⟨_, rfl⟩ (fun _ q => by cases q)) | omega | (unfold pid; omega) | (simp only [pushTok_next, List.length_cons, List.length_nil]; unfold pid; omega)))) ?_; (try simp only[↓jr,jw,seval,ext_ext,pid_pid])
  refine wc.intro (by unfold R64; omega) ?_
  (try simp only[↓jr,jw,seval,ext_ext,pid_pid])
  refine JNEXT.of (k + 1) (by omega) (by omega) ?_ JDropH.nx
  (try simp only[↓jr,jw,seval,ext_ext,pid_pid,DL])
  exact ⟨SubB.v, SubB.v, SubB.sl rfl (SubBs.pure (encs_pur (fun _ => rfl) _)), SubB.ptr (by unfold pid; omega), SubB.ptr (by unfold pid; omega)⟩
 have ek : k = b.links.length := by omega
 subst ek
 (try simp only[↓jr,jw,seval,ext_ext,pid_pid])
 clear q1 hk
 refine JFIN.rb ?_
 exact SubB.v
end
end
section
open Go
def risF (lim : Int) : Int → List Int → Bool
 | _, [] => true
 | p, x :: l => decide (p < x) && decide (x < lim) && risF lim x l
def rising (l : List Int) (lim : Int) : Bool := risF lim (-1) l
def prv (l : List Int) : Nat → Int
 | 0 => -1
 | k + 1 => (l[k]?).getD 0
theorem cast_s1 {k : Nat} : ((k + 1 : Nat) : Int) - 1 = (k : Int) := by omega
section
variable {m : GM} {G : Nat → Option (List AV)}
noncomputable def ir54 : IFn := ⟨35, [⟨4, none⟩], (.seq (.reg [oA 4 (.mov (kB false))]) (.seq (.seq (.reg [oA 7 (kM 0), oT 8 7 (.lenl (.r 7)), oA 9 (.mov (kI 0))]) (.block 0 (.loop (.seq (.reg [oA 10 (.bin .lss (.r 9) (.r 8))]) (.seq (.cond (.r 10) .skip (.exit 0)) (.seq (.block 1 (.seq (.reg [oA 11 (kM 9), oA 12 (.iasl 1 (.r 7) (.r 9)), oL 13 12 none, oA 5 (kM 11), oA 6 (kM 13)]) (.seq (.reg [oA 14 (kM 6), oA 15 (.bin .lss (.r 14) (kI 0)), oA 16 (kM 15), ⟨(some 17), (some ((16, false))), none, (kM 6)⟩, ⟨(some 18), (some ((16, false))), none, (kM 1)⟩, ⟨(some 19), (some ((16, false))), none, (.bin .geq (.r 17) (.r 18))⟩, oA 20 (.pick (.r 16) (kB true) (.r 19)), oA 21 (kM 20), ⟨(some 22), (some ((21, false))), none, (kM 5)⟩, ⟨(some 23), (some ((21, false))), none, (.bin .gtr (.r 22) (kI 0))⟩, ⟨(some 24), (some ((21, false))), none, (kM 23)⟩, ⟨(some 25), (some ((24, true))), none, (kM 6)⟩, ⟨(some 26), (some ((24, true))), none, (kM 0)⟩, ⟨(some 27), (some ((24, true))), none, (kM 5)⟩, ⟨(some 28), (some ((24, true))), none, (.bin .sub (.r 27) (kI 1))⟩, ⟨(some 29), (some ((24, true))), none, (.iasl 1 (.r 26) (.r 28))⟩, ⟨(some 30), (some ((24, true))), (some (.r 29)), (.load none (.r 29))⟩, ⟨(some 31), (some ((24, true))), none, (.bin .leq (.r 25) (.r 30))⟩, ⟨(some 32), (some ((21, false))), none, (.pick (.r 24) (.r 31) (kB false))⟩, oA 33 (.pick (.r 21) (kB true) (.r 32))]) (.cond (.r 33) (.seq (.reg [oA 4 (.mov (kB false))]) .ret) .skip)))) (.reg [oA 34 (.bin .add (.r 9) (kI 1)), oA 9 (kM 34)]))))))) (.seq (.reg [oA 4 (.mov (kB true))]) .ret)))⟩
theorem c54 : cfunc Tryz.prog 54 = some ir54 := by kernel_rfl
theorem k54 : okIR (max 2 ir54.n) ir54.ir = true := by decide +kernel
theorem s_Rising (l : List Int) (tok : Tok) (lim : Int) (hl : l.length < 4611686018427387904) (j : JH) : JC Tryz.prog G 54 [.sl tok l.length (ints l), I64 lim] j (RET (BOO (rising l lim)) j) := by
 refine JC.run hmix c54 (by exact k54) ?_
 (try simp only[↓jr,jw,seval,cast_s1,ir54])
 refine JLOOP.of (σ := Nat) (fun k => k ≤ l.length ∧ -1 ≤ prv l k ∧ risF lim (prv l k) (l.drop k) = rising l lim) (fun k => l.length - k)
  (fun k => [(9, I64 k), (8, I64 l.length), (7, .sl .none l.length (ints l)), (0, .sl .none l.length (ints l)), (1, I64 lim)]) (fun k => ext j []) 0 ⟨Nat.zero_le _, by simp [prv], rfl⟩ ?_ (JDropH.refl _) ?_
 ·(try simp only[↓jr,jw,seval,cast_s1,DL])
  exact ⟨SubB.v, SubB.v, SubB.sl rfl (SubBs.pure (ints_pur _)), SubB.sl rfl (SubBs.pure (ints_pur _)), SubB.v⟩
 rintro k ⟨hkk, hp, hI⟩
 (try simp only[↓jr,jw,seval,cast_s1])
 refine wq.intro (fun g1 => ?_) (fun g1 => ?_)
 ·have hlt : k < (l).length := by omega
  obtain ⟨x, r, hd⟩ : ∃ c_ l_, List.drop k (l) = c_ :: l_ := ⟨_, _, List.drop_eq_getElem_cons hlt⟩
  have hd1 : List.drop (k + 1) (l) = r := by rw [← List.drop_drop, hd]; rfl
  have hmem : x ∈ l := List.mem_of_mem_drop (hd ▸ List.mem_cons_self)
  rw [hd] at hI
  simp only [risF] at hI
  have hpk : prv l (k + 1) = x := by
   have : l[k]? = some x := by rw [← List.head?_drop, hd]; rfl
   show (l[k]?).getD 0 = x; rw [this]; rfl
  (try simp only[↓jr,jw,seval,cast_s1,hd])
  refine wc.intro (by omega) ?_
  (try simp only[↓jr,jw,seval,cast_s1,hd])
  refine wq.intro (fun g2 => ?_) (fun g2 => ?_)
  ·(try simp only[↓jr,jw,seval,cast_s1])
   rw [decide_eq_false (by omega), Bool.false_and, Bool.false_and] at hI
   refine JFIN.rb ?_
   rw [← hI]
   exact SubB.v
  (try simp only[↓jr,jw,seval,cast_s1])
  refine wq.intro (fun g3 => ?_) (fun g3 => ?_)
  ·(try simp only[↓jr,jw,seval,cast_s1])
   rw [decide_eq_false (p := x < lim) (by omega), Bool.and_false, Bool.false_and] at hI
   refine JFIN.rb ?_
   rw [← hI]
   exact SubB.v
  (try simp only[↓jr,jw,seval,cast_s1])
  rw [decide_eq_true (p := x < lim) (by omega), Bool.and_true] at hI
  refine wq.intro (fun g4 => ?_) (fun g4 => ?_)
  ·obtain ⟨k', rfl⟩ : ∃ k', k = k' + 1 := ⟨k - 1, by omega⟩
   obtain ⟨q, r', hq⟩ : ∃ q r', List.drop k' l = q :: r' := ⟨_, _, List.drop_eq_getElem_cons (by omega)⟩
   have hq2 : prv l (k' + 1) = q := by
    have : l[k']? = some q := by rw [← List.head?_drop, hq]; rfl
    show (l[k']?).getD 0 = q; rw [this]; rfl
   rw [hq2] at hI
   (try simp only[↓jr,jw,seval,cast_s1,hq])
   refine wc.intro (by unfold R64; omega) ?_
   (try simp only[↓jr,jw,seval,cast_s1,hq])
   refine wc.intro (by omega) ?_
   (try simp only[↓jr,jw,seval,cast_s1,hq])
   refine wq.intro (fun g5 => ?_) (fun g5 => ?_)
   ·(try simp only[↓jr,jw,seval,cast_s1])
    rw [decide_eq_false (by omega), Bool.false_and] at hI
    refine JFIN.rb ?_
    rw [← hI]
    exact SubB.v
   (try simp only[↓jr,jw,seval,cast_s1])
   rw [decide_eq_true (by omega), Bool.true_and] at hI
   refine wc.intro (by unfold R64; omega) ?_
   (try simp only[↓jr,jw,seval,cast_s1])
   refine JNEXT.of (k' + 1 + 1) ⟨by omega, by rw [hpk]; omega, by rw [hpk, hd1]; exact hI⟩ (by omega) ?_ (JDropH.refl _)
   (try simp only[↓jr,jw,seval,cast_s1,DL])
   exact ⟨SubB.v, SubB.v, SubB.sl rfl (SubBs.pure (ints_pur _)), SubB.sl rfl (SubBs.pure (ints_pur _)), SubB.v⟩
  ·have hk0 : prv l k = -1 := by
    have : k = 0 := by omega
    subst this; rfl
   rw [hk0, decide_eq_true (by omega), Bool.true_and] at hI
   (try simp only[↓jr,jw,seval,cast_s1])
   refine wc.intro (by unfold R64; omega) ?_
   (try simp only[↓jr,jw,seval,cast_s1])
   refine JNEXT.of (k + 1) ⟨by omega, by rw [hpk]; omega, by rw [hpk, hd1]; exact hI⟩ (by omega) ?_ (JDropH.refl _)
   (try simp only[↓jr,jw,seval,cast_s1,DL])
   exact ⟨SubB.v, SubB.v, SubB.sl rfl (SubBs.pure (ints_pur _)), SubB.sl rfl (SubBs.pure (ints_pur _)), SubB.v⟩
 ·(try simp only[↓jr,jw,seval,cast_s1])
  rw [List.drop_eq_nil_of_le (by omega)] at hI
  refine JFIN.rb ?_
  rw [← hI]
  exact SubB.v
noncomputable def ir19 : IFn := ⟨35, [⟨4, none⟩], (.seq (.reg [oA 4 (.mov (kB false))]) (.seq (.seq (.reg [oA 7 (kM 0), oT 8 7 (.lenl (.r 7)), oA 9 (.mov (kI 0))]) (.block 0 (.loop (.seq (.reg [oA 10 (.bin .lss (.r 9) (.r 8))]) (.seq (.cond (.r 10) .skip (.exit 0)) (.seq (.block 1 (.seq (.reg [oA 11 (kM 9), oA 12 (.iasl 1 (.r 7) (.r 9)), oL 13 12 none, oA 5 (kM 11), oA 6 (kM 13)]) (.seq (.reg [oA 14 (kM 6), oA 15 (.bin .lss (.r 14) (kI 0)), oA 16 (kM 15), ⟨(some 17), (some ((16, false))), none, (kM 6)⟩, ⟨(some 18), (some ((16, false))), none, (kM 1)⟩, ⟨(some 19), (some ((16, false))), none, (.bin .geq (.r 17) (.r 18))⟩, oA 20 (.pick (.r 16) (kB true) (.r 19)), oA 21 (kM 20), ⟨(some 22), (some ((21, false))), none, (kM 5)⟩, ⟨(some 23), (some ((21, false))), none, (.bin .gtr (.r 22) (kI 0))⟩, ⟨(some 24), (some ((21, false))), none, (kM 23)⟩, ⟨(some 25), (some ((24, true))), none, (kM 6)⟩, ⟨(some 26), (some ((24, true))), none, (kM 0)⟩, ⟨(some 27), (some ((24, true))), none, (kM 5)⟩, ⟨(some 28), (some ((24, true))), none, (.bin .sub (.r 27) (kI 1))⟩, ⟨(some 29), (some ((24, true))), none, (.iasl 1 (.r 26) (.r 28))⟩, ⟨(some 30), (some ((24, true))), (some (.r 29)), (.load none (.r 29))⟩, ⟨(some 31), (some ((24, true))), none, (.bin .leq (.r 25) (.r 30))⟩, ⟨(some 32), (some ((21, false))), none, (.pick (.r 24) (.r 31) (kB false))⟩, oA 33 (.pick (.r 21) (kB true) (.r 32))]) (.cond (.r 33) (.seq (.reg [oA 4 (.mov (kB false))]) .ret) .skip)))) (.reg [oA 34 (.bin .add (.r 9) (kI 1)), oA 9 (kM 34)]))))))) (.seq (.reg [oA 4 (.mov (kB true))]) .ret)))⟩
theorem c19 : cfunc Tryz.prog 19 = some ir19 := by kernel_rfl
theorem k19 : okIR (max 2 ir19.n) ir19.ir = true := by decide +kernel
theorem s_rRising (l : List Int) (tok : Tok) (lim : Int) (hl : l.length < 4611686018427387904) (j : JH) : JC Tryz.prog G 19 [.sl tok l.length (ints l), I64 lim] j (RET (BOO (rising l lim)) j) := by
 refine JC.run hmix c19 (by exact k19) ?_
 (try simp only[↓jr,jw,seval,cast_s1,ir19])
 refine JLOOP.of (σ := Nat) (fun k => k ≤ l.length ∧ -1 ≤ prv l k ∧ risF lim (prv l k) (l.drop k) = rising l lim) (fun k => l.length - k)
  (fun k => [(9, I64 k), (8, I64 l.length), (7, .sl .none l.length (ints l)), (0, .sl .none l.length (ints l)), (1, I64 lim)]) (fun k => ext j []) 0 ⟨Nat.zero_le _, by simp [prv], rfl⟩ ?_ (JDropH.refl _) ?_
 ·(try simp only[↓jr,jw,seval,cast_s1,DL])
  exact ⟨SubB.v, SubB.v, SubB.sl rfl (SubBs.pure (ints_pur _)), SubB.sl rfl (SubBs.pure (ints_pur _)), SubB.v⟩
 rintro k ⟨hkk, hp, hI⟩
 (try simp only[↓jr,jw,seval,cast_s1])
 refine wq.intro (fun g1 => ?_) (fun g1 => ?_)
 ·have hlt : k < (l).length := by omega
  obtain ⟨x, r, hd⟩ : ∃ c_ l_, List.drop k (l) = c_ :: l_ := ⟨_, _, List.drop_eq_getElem_cons hlt⟩
  have hd1 : List.drop (k + 1) (l) = r := by rw [← List.drop_drop, hd]; rfl
  have hmem : x ∈ l := List.mem_of_mem_drop (hd ▸ List.mem_cons_self)
  rw [hd] at hI
  simp only [risF] at hI
  have hpk : prv l (k + 1) = x := by
   have : l[k]? = some x := by rw [← List.head?_drop, hd]; rfl
   show (l[k]?).getD 0 = x; rw [this]; rfl
  (try simp only[↓jr,jw,seval,cast_s1,hd])
  refine wc.intro (by omega) ?_
  (try simp only[↓jr,jw,seval,cast_s1,hd])
  refine wq.intro (fun g2 => ?_) (fun g2 => ?_)
  ·(try simp only[↓jr,jw,seval,cast_s1])
   rw [decide_eq_false (by omega), Bool.false_and, Bool.false_and] at hI
   refine JFIN.rb ?_
   rw [← hI]
   exact SubB.v
  (try simp only[↓jr,jw,seval,cast_s1])
  refine wq.intro (fun g3 => ?_) (fun g3 => ?_)
  ·(try simp only[↓jr,jw,seval,cast_s1])
   rw [decide_eq_false (p := x < lim) (by omega), Bool.and_false, Bool.false_and] at hI
   refine JFIN.rb ?_
   rw [← hI]
   exact SubB.v
  (try simp only[↓jr,jw,seval,cast_s1])
  rw [decide_eq_true (p := x < lim) (by omega), Bool.and_true] at hI
  refine wq.intro (fun g4 => ?_) (fun g4 => ?_)
  ·obtain ⟨k', rfl⟩ : ∃ k', k = k' + 1 := ⟨k - 1, by omega⟩
   obtain ⟨q, r', hq⟩ : ∃ q r', List.drop k' l = q :: r' := ⟨_, _, List.drop_eq_getElem_cons (by omega)⟩
   have hq2 : prv l (k' + 1) = q := by
    have : l[k']? = some q := by rw [← List.head?_drop, hq]; rfl
    show (l[k']?).getD 0 = q; rw [this]; rfl
   rw [hq2] at hI
   (try simp only[↓jr,jw,seval,cast_s1,hq])
   refine wc.intro (by unfold R64; omega) ?_
   (try simp only[↓jr,jw,seval,cast_s1,hq])
   refine wc.intro (by omega) ?_
   (try simp only[↓jr,jw,seval,cast_s1,hq])
   refine wq.intro (fun g5 => ?_) (fun g5 => ?_)
   ·(try simp only[↓jr,jw,seval,cast_s1])
    rw [decide_eq_false (by omega), Bool.false_and] at hI
    refine JFIN.rb ?_
    rw [← hI]
    exact SubB.v
   (try simp only[↓jr,jw,seval,cast_s1])
   rw [decide_eq_true (by omega), Bool.true_and] at hI
   refine wc.intro (by unfold R64; omega) ?_
   (try simp only[↓jr,jw,seval,cast_s1])
   refine JNEXT.of (k' + 1 + 1) ⟨by omega, by rw [hpk]; omega, by rw [hpk, hd1]; exact hI⟩ (by omega) ?_ (JDropH.refl _)
   (try simp only[↓jr,jw,seval,cast_s1,DL])
   exact ⟨SubB.v, SubB.v, SubB.sl rfl (SubBs.pure (ints_pur _)), SubB.sl rfl (SubBs.pure (ints_pur _)), SubB.v⟩
  ·have hk0 : prv l k = -1 := by
    have : k = 0 := by omega
    subst this; rfl
   rw [hk0, decide_eq_true (by omega), Bool.true_and] at hI
   (try simp only[↓jr,jw,seval,cast_s1])
   refine wc.intro (by unfold R64; omega) ?_
   (try simp only[↓jr,jw,seval,cast_s1])
   refine JNEXT.of (k + 1) ⟨by omega, by rw [hpk]; omega, by rw [hpk, hd1]; exact hI⟩ (by omega) ?_ (JDropH.refl _)
   (try simp only[↓jr,jw,seval,cast_s1,DL])
   exact ⟨SubB.v, SubB.v, SubB.sl rfl (SubBs.pure (ints_pur _)), SubB.sl rfl (SubBs.pure (ints_pur _)), SubB.v⟩
 ·(try simp only[↓jr,jw,seval,cast_s1])
  rw [List.drop_eq_nil_of_le (by omega)] at hI
  refine JFIN.rb ?_
  rw [← hI]
  exact SubB.v
end
end
end Go.Proofs.YtcjlpklgnknpgaaGreatDoor.Pg
