/-
  Picking axioms: Pick, Only.
-/
import Derived.Test.YtcjlpklgnknpgaaGreatDoorWo
set_option linter.unusedVariables false
set_option linter.unusedSimpArgs false
set_option maxRecDepth 100000
set_option maxHeartbeats 8000000
namespace Go.Proofs.YtcjlpklgnknpgaaGreatDoor.Pg
open Go
theorem JC.sub {P : Program} {G : Nat → Option (List AV)} {f : FuncId} {args args' : List AV} {j : JH} {Q : AOut → JH → Prop} (s : SubBs j.next j.tnext args args') (c : JC P G f args' j Q) : JC P G f args j Q := by
 rintro h rfl B0 μ w vs r hv
 refine c h rfl B0 μ w vs r (s.Vs ⟨fun o => ?_, fun t => ?_, fun _ _ => Iff.rfl⟩ hv)
 ·split
  ·rfl
  ·exact r.next o (Nat.le_of_not_lt ‹_›)
 ·split
  ·rfl
  ·exact r.tnext t (Nat.le_of_not_lt ‹_›)
def pks (A : List Ax) (l : List Int) : List Ax := l.filterMap fun i => A[i.toNat]?
theorem pks_app {A : List Ax} {l r : List Int} : pks A (l ++ r) = pks A l ++ pks A r := by simp [pks, List.filterMap_append]
theorem pks_le (A : List Ax) (l : List Int) : (pks A l).length ≤ l.length := List.length_filterMap_le _ _
theorem pks_mem {A : List Ax} {l : List Int} {x : Ax} (h : x ∈ pks A l) : x ∈ A := by
 unfold pks at h
 obtain ⟨i, _, e⟩ := List.mem_filterMap.1 h
 exact List.mem_of_getElem? e
theorem risF_mem {lim : Int} : ∀ (l : List Int) (p : Int), -1 ≤ p → risF lim p l = true → ∀ i ∈ l, 0 ≤ i ∧ i < lim
 | [], _, _, _ => fun i h => by cases h
 | x :: l, p, hp, h => by
  simp only [risF, Bool.and_eq_true, decide_eq_true_eq] at h
  intro i hi
  rcases List.mem_cons.1 hi with rfl | hi
  ·omega
  ·exact risF_mem l x (by omega) h.2 i hi
theorem rising_mem {lim : Int} {l : List Int} (h : rising l lim = true) : ∀ i ∈ l, 0 ≤ i ∧ i < lim := risF_mem l _ (by omega) h
def noB : Bas := ⟨⟨[], [], []⟩, [], [], [], []⟩
theorem axs_count (b : Bas) : b.axs.length = b.count := by simp [Bas.axs, Bas.count]; omega
theorem noB_sub {no nt : Nat} : SubBs no nt ZB noB.enc := ⟨SubB.sl rfl True.intro, SubB.sl rfl True.intro, SubB.sl rfl True.intro, SubB.sl rfl True.intro, SubB.sl rfl True.intro, SubB.sl rfl True.intro, SubB.sl rfl True.intro, True.intro⟩
section
variable {m : GM} {G : Nat → Option (List AV)}
noncomputable def ir56 : IFn := ⟨29, [⟨4, (some (some 7))⟩], (.seq (.reg [oA 2 (.box 30 (.r 0)), oA 4 (.alloc 30 [.sl .nil 0 [], .sl .nil 0 [], .sl .nil 0 [], .sl .nil 0 [], .sl .nil 0 [], .sl .nil 0 [], .sl .nil 0 []])]) (.seq (.reg [oL 9 2 (some 7), oT 10 9 (.call 37 [.r 9]), oA 5 (kM 10)]) (.seq (.reg [oA 6 (.mov (.k (.sl .nil 0 [])))]) (.seq (.seq (.reg [oA 11 (kM 1), oT 12 11 (.lenl (.r 11)), oA 13 (.mov (kI 0))]) (.block 0 (.loop (.seq (.reg [oA 14 (.bin .lss (.r 13) (.r 12))]) (.seq (.cond (.r 14) .skip (.exit 0)) (.seq (.block 1 (.seq (.reg [oA 15 (.iasl 1 (.r 11) (.r 13)), oL 16 15 none, oA 8 (kM 16)]) (.reg [oA 17 (kM 6), oA 18 (kM 5), oA 19 (kM 8), oA 20 (.iasl 1 (.r 18) (.r 19)), oL 21 20 none, oA 22 (.bsl 1 1 [.v .nilIface] [(0, (1, .r 21))]), oA 23 (.app 1 16 (.r 17) (.r 22)), oA 6 (kM 23)]))) (.reg [oA 24 (.bin .add (.r 13) (kI 1)), oA 13 (kM 24)]))))))) (.seq (.reg [oA 25 (.fadr 0 (.r 2)), oL 26 25 (some 3), oA 27 (kM 6), oA 28 (.call 58 [.r 26, .r 27]), oN (.store 7 (.r 4) (.r 28))]) .ret)))))⟩
theorem c56 : cfunc Tryz.prog 56 = some ir56 := by kernel_rfl
theorem k56 : okIR (max 2 ir56.n) ir56.ir = true := by decide +kernel
theorem s_Pick (b : Bas) (h1 : b.nms.cs.length ≤ 1000000) (h2 : b.nms.rs.length ≤ 1000000) (h3 : b.nms.is.length ≤ 1000000) (l1 : b.incls.length ≤ 1000000) (l2 : b.roles.length ≤ 1000000) (l3 : b.facts.length ≤ 1000000) (l4 : b.links.length ≤ 1000000)
  (hx : ∀ x ∈ b.axs, x.ok) (l : List Int) (hl : l.length ≤ 1000000) (hr : ∀ i ∈ l, 0 ≤ i ∧ i < b.axs.length) (j : JH) :
  JC Tryz.prog G 56 [.agg b.enc, .sl .none l.length (ints l)] j (RET (.agg (ofB b.nms (pks b.axs l)).enc) j) := by
 have hA : b.axs.length ≤ 4000000 := by rw [axs_count]; unfold Bas.count; omega
 refine JC.run hmix c56 (by exact k56) ?_
 (try simp only[↓jr,jw,seval,ints_dr,ints_co,ints_le,axs_dr,axs_co,axs_len,ir56])
 refine JCs.ret (s_kbAll b l1 l2 l3 l4 _) ?_
 (try simp only[↓jr,jw,seval,ints_dr,ints_co,ints_le,axs_dr,axs_co,axs_len])
 refine JLOOP.of (σ := Nat × Tok × JH) (fun s => s.1 ≤ l.length ∧ TokExt j s.2.2 ∧ CanApp j s.2.2 s.2.1 1 (pks b.axs (l.take s.1)).length) (fun s => l.length - s.1)
  (fun s => [(13, I64 s.1), (12, I64 l.length), (11, .sl .none l.length (ints l)), (5, .sl .none b.axs.length (axs b.axs)), (6, .sl s.2.1 (pks b.axs (l.take s.1)).length (axs (pks b.axs (l.take s.1)))), (2, .ptr (pid j.next 0) 0), (4, .ptr (pid j.next 1) 0)])
  (fun s => Pg.ext s.2.2 [.cells 30 b.enc, .cells 30 ZB]) (0, .nil, j) ⟨Nat.zero_le _, TokExt.refl _, CanApp.nil⟩ ?_ (JDropH.refl _) ?_
 ·(try simp only[↓jr,jw,seval,ints_dr,ints_co,ints_le,axs_dr,axs_co,axs_len,DL])
  exact ⟨SubB.v, SubB.v, SubB.sl rfl (SubBs.pure (ints_pur _)), SubB.sl rfl (SubBs.pure (axs_pur _)), SubB.pure rfl, SubB.ptr (by unfold pid; omega), SubB.ptr (by unfold pid; omega)⟩
 rintro ⟨k, tk, jx⟩ ⟨hk, ht, hc⟩
 simp only at hk ht hc
 have hnx := ht.next
 (try simp only[↓jr,jw,seval,ints_dr,ints_co,ints_le,axs_dr,axs_co,axs_len,hnx])
 refine wq.intro (fun q1 => ?_) (fun q1 => ?_)
 ·have hlt : k < (l).length := by omega
  obtain ⟨x, r, hd⟩ : ∃ c_ l_, List.drop k (l) = c_ :: l_ := ⟨_, _, List.drop_eq_getElem_cons hlt⟩
  have hd1 : List.drop (k + 1) (l) = r := by rw [← List.drop_drop, hd]; rfl
  have hmem : x ∈ l := List.mem_of_mem_drop (hd ▸ List.mem_cons_self)
  obtain ⟨b1, b2⟩ := hr x hmem
  obtain ⟨y, v, hda⟩ : ∃ y v, b.axs.drop x.toNat = y :: v := ⟨_, _, List.drop_eq_getElem_cons (by omega)⟩
  have hg : b.axs[x.toNat]? = some y := by rw [← List.head?_drop, hda]; rfl
  have htk : pks b.axs (l.take (k + 1)) = pks b.axs (l.take k) ++ [y] := by rw [take_sn hd, pks_app]; simp [pks, hg]
  have hpl : (pks b.axs (l.take k)).length ≤ 999999 := by have := pks_le b.axs (l.take k); rw [List.length_take] at this; omega
  generalize pks b.axs (l.take k) = p at *
  have eyc : y.enc.cells = [y.enc] := by cases y <;> rfl
  have eyk : y.enc.known = true := by cases y <;> rfl
  have eyo : AV.one y.enc = true := by cases y <;> rfl
  (try simp only[↓jr,jw,seval,ints_dr,ints_co,ints_le,axs_dr,axs_co,axs_len,hd,hda,hnx])
  refine wc.intro (by omega) ?_
  (try simp only[↓jr,jw,seval,ints_dr,ints_co,ints_le,axs_dr,axs_co,axs_len,hd,hda,hnx])
  refine wc.intro (by omega) ?_
  (try simp only[↓jr,jw,seval,ints_dr,ints_co,ints_le,axs_dr,axs_co,axs_len,hd,hda,hnx,eyk,eyc])
  refine JAPP.can' hc.push (ht.push 1) (by rw [axs_len, Nat.mul_one]) rfl (by simp only [List.all_cons, List.all_nil, eyo, Bool.and_true]) (by omega) (by omega) ?_
  intro tok1 j1 hcan htx hle
  have hle' : jx.tnext ≤ j1.tnext := Nat.le_trans (Nat.le_succ _) hle
  have hn3 := htx.next
  (try simp only[↓jr,jw,seval,ints_dr,ints_co,ints_le,axs_dr,axs_co,axs_len,hn3])
  refine wc.intro (by unfold R64; omega) ?_
  (try simp only[↓jr,jw,seval,ints_dr,ints_co,ints_le,axs_dr,axs_co,axs_len,hn3])
  refine JNEXT.of (k + 1, tok1, j1) ⟨by simp only; omega, htx, by simp only [htk]; rw [List.length_append]; exact hcan⟩ (by simp only; omega) ?_ (JDropH.nextT ht htx (TokExt.refl _) hle' ⟨.inl ⟨rfl, rfl⟩, .inl ⟨rfl, rfl⟩, True.intro⟩)
  (try simp only[↓jr,jw,seval,ints_dr,ints_co,ints_le,axs_dr,axs_co,axs_len,DL,htk,axs_append])
  exact ⟨SubB.v, SubB.v, SubB.sl rfl (SubBs.pure (ints_pur _)), SubB.sl rfl (SubBs.pure (axs_pur _)), SubB.can hcan (by rw [pures_append, axs_pur]; exact axs_pur [y]), SubB.ptr (by have := htx.next; unfold pid; omega), SubB.ptr (by have := htx.next; unfold pid; omega)⟩
 ·(try simp only[↓jr,jw,seval,ints_dr,ints_co,ints_le,axs_dr,axs_co,axs_len,hnx])
  have ek : k = l.length := by omega
  subst ek
  rw [List.take_length] at *
  refine JCs.ret (JC.sub (args' := [.agg b.nms.enc, .sl .none (pks b.axs l).length (axs (pks b.axs l))]) ⟨SubB.pure (by simp only [AV.pure]; exact Nms.pur _), SubB.sl rfl (SubBs.pure (axs_pur _)), True.intro⟩ (s_kbOf b.nms h1 h2 h3 (pks b.axs l) (Nat.le_trans (pks_le _ _) hl) (fun x hx' => hx x (pks_mem hx')) _)) ?_
  (try simp only[↓jr,jw,seval,ints_dr,ints_co,ints_le,axs_dr,axs_co,axs_len,hnx])
  refine JFIN.rb ?_ ht
  exact SubB.pure (by simp only [AV.pure]; exact Bas.pur _)
def onlyB (b : Bas) (l : List Int) : Bas := if basV b then (if rising l b.count then ofB b.nms (pks b.axs l) else noB) else noB
def onlyE (b : Bas) (l : List Int) : Int := if basV b then (if rising l b.count then 0 else 1) else 20
theorem Bas.sub {b : Bas} {no nt : Nat} : SubB no nt (.agg b.enc) (.agg b.enc) := SubB.pure (by simp only [AV.pure]; exact Bas.pur _)
noncomputable def ir16 : IFn := ⟨19, [⟨4, (some (some 7))⟩, ⟨5, none⟩], (.seq (.reg [oA 2 (.box 30 (.r 0)), oA 4 (.alloc 30 [.sl .nil 0 [], .sl .nil 0 [], .sl .nil 0 [], .sl .nil 0 [], .sl .nil 0 [], .sl .nil 0 [], .sl .nil 0 []]), oA 5 (.mov (kI 0))]) (.seq (.seq (.reg [oL 6 2 (some 7), oT 7 6 (.call 35 [.r 6]), oA 8 (.not (.r 7))]) (.cond (.r 8) (.seq (.reg [oA 9 (.build [.sl .nil 0 [], .sl .nil 0 [], .sl .nil 0 [], .sl .nil 0 [], .sl .nil 0 [], .sl .nil 0 [], .sl .nil 0 []] []), oN (.store 7 (.r 4) (.r 9)), oA 5 (.mov (kI 20))]) .ret) .skip)) (.seq (.seq (.reg [oA 10 (kM 1), oL 11 2 (some 7), oT 12 11 (.call 55 [.r 11]), oA 13 (.call 54 [.r 10, .r 12]), oA 14 (.not (.r 13))]) (.cond (.r 14) (.seq (.reg [oA 15 (.build [.sl .nil 0 [], .sl .nil 0 [], .sl .nil 0 [], .sl .nil 0 [], .sl .nil 0 [], .sl .nil 0 [], .sl .nil 0 []] []), oN (.store 7 (.r 4) (.r 15)), oA 5 (.mov (kI 1))]) .ret) .skip)) (.seq (.reg [oL 16 2 (some 7), oA 17 (kM 1), oA 18 (.call 56 [.r 16, .r 17]), oN (.store 7 (.r 4) (.r 18)), oA 5 (.mov (kI 0))]) .ret))))⟩
theorem c16 : cfunc Tryz.prog 16 = some ir16 := by kernel_rfl
theorem k16 : okIR (max 2 ir16.n) ir16.ir = true := by decide +kernel
theorem s_Only (b : Bas) (hb : b.ok) (hf : b.few) (h1 : b.nms.cs.length ≤ 1000000) (h2 : b.nms.rs.length ≤ 1000000) (h3 : b.nms.is.length ≤ 1000000) (l1 : b.incls.length ≤ 1000000) (l2 : b.roles.length ≤ 1000000) (l3 : b.facts.length ≤ 1000000) (l4 : b.links.length ≤ 1000000)
  (hx : ∀ x ∈ b.axs, x.ok) (l : List Int) (hl : l.length ≤ 1000000) (j : JH) :
  JC Tryz.prog (GG m) 16 [.agg b.enc, .sl .none l.length (ints l)] j (RET (.tup [.agg (onlyB b l).enc, I64 (onlyE b l)]) j) := by
 refine JC.run hmix c16 (by exact k16) ?_
 (try simp only[↓jr,jw,seval,ir16])
 refine JCs.ret (s_kbValid b hb hf _) ?_
 (try simp only[↓jr,jw,seval])
 refine ww.intro (fun hv => ?_) (fun hv => ?_)
 ·(try simp only[↓jr,jw,seval])
  refine JCs.ret (s_Count b hb _) ?_
  (try simp only[↓jr,jw,seval])
  refine JCs.ret (s_Rising l .none b.count (by omega) _) ?_
  (try simp only[↓jr,jw,seval])
  refine ww.intro (fun hu => ?_) (fun hu => ?_)
  ·(try simp only[↓jr,jw,seval])
   refine JCs.ret (s_Pick b h1 h2 h3 l1 l2 l3 l4 hx l hl (fun i hi => by rw [axs_count]; exact rising_mem hu i hi) _) ?_
   (try simp only[↓jr,jw,seval])
   refine JFIN.rb ?_
   unfold onlyB onlyE
   rw [if_pos hv, if_pos hu, if_pos hv, if_pos hu]
   exact SubB.tup ⟨Bas.sub, SubB.v, True.intro⟩
  ·(try simp only[↓jr,jw,seval])
   refine JFIN.rb ?_
   unfold onlyB onlyE
   rw [if_pos hv, if_neg (by rw [hu]; decide), if_pos hv, if_neg (by rw [hu]; decide)]
   exact SubB.tup ⟨SubB.agg noB_sub, SubB.v, True.intro⟩
 ·(try simp only[↓jr,jw,seval])
  refine JFIN.rb ?_
  unfold onlyB onlyE
  rw [if_neg (by rw [hv]; decide), if_neg (by rw [hv]; decide)]
  exact SubB.tup ⟨SubB.agg noB_sub, SubB.v, True.intro⟩
end
end Go.Proofs.YtcjlpklgnknpgaaGreatDoor.Pg
