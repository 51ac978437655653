/-
  Copies, the subconcepts in turn, the names that are used.
-/
import Derived.Test.YtcjlpklgnknpgaaGreatDoorUc
import Derived.Test.YtcjlpklgnknpgaaGreatDoorQe
import Derived.Test.YtcjlpklgnknpgaaGreatDoorTa
set_option linter.unusedVariables false
set_option linter.unusedSimpArgs false
set_option maxRecDepth 100000
set_option maxHeartbeats 8000000
namespace Go.Proofs.YtcjlpklgnknpgaaGreatDoor.Pg
open Go
section
variable {m : GM} {G : Nat → Option (List AV)}
noncomputable def ir160 : IFn := ⟨24, [⟨2, (some (some 3))⟩], (.seq (.reg [oA 1 (.box 71 (.r 0)), oA 2 (.alloc 71 [.v (.int .i64 0), .v (.int .i64 0), .sl .nil 0 []])]) (.seq (.reg [oA 6 (.fadr 2 (.r 1)), oL 7 6 none, oA 3 (kM 7)]) (.seq (.reg [oA 8 (.fadr 2 (.r 1)), oN (.store 1 (.r 8) (.k (.sl .nil 0 [])))]) (.seq (.seq (.reg [oA 9 (kM 3), oT 10 9 (.lenl (.r 9)), oA 11 (.mov (kI 0))]) (.block 0 (.loop (.seq (.reg [oA 12 (.bin .lss (.r 11) (.r 10))]) (.seq (.cond (.r 12) .skip (.exit 0)) (.seq (.block 1 (.seq (.reg [oA 13 (.iasl 3 (.r 9) (.r 11)), oL 14 13 (some 3), oA 5 (.alloc 71 [.v (.int .i64 0), .v (.int .i64 0), .sl .nil 0 []]), oN (.store 3 (.r 5) (.r 14))]) (.draw [oA 15 (.fadr 2 (.r 1)), oL 16 15 none, oL 17 5 (some 3), oT 18 17 (.call 160 [.r 17]), oA 19 (.bsl 1 3 [.v (.int .i64 0), .v (.int .i64 0), .sl .nil 0 []] [(0, (3, .r 18))]), oA 20 (.app 3 40 (.r 16) (.r 19)), oA 21 (.fadr 2 (.r 1)), oN (.store 1 (.r 21) (.r 20))] [(1, 3)]))) (.reg [oA 22 (.bin .add (.r 11) (kI 1)), oA 11 (kM 22)]))))))) (.seq (.reg [oL 23 1 (some 3), oN (.store 3 (.r 2) (.r 23))]) .ret)))))⟩
theorem c160 : cfunc Tryz.prog 160 = some ir160 := by kernel_rfl
mutual
/-- A concept and all concepts in it, in preorder. -/
def pre : Con → List Con
  | .mk o n l => .mk o n l :: preL l
def preL : List Con → List Con
  | [] => []
  | c :: l => pre c ++ preL l
end
theorem preL_append : ∀ l r : List Con, preL (l ++ r) = preL l ++ preL r
  | [], r => rfl
  | c :: l, r => by simp only [List.cons_append, preL, preL_append l r, List.append_assoc]
/-- Heaps that differ in what stands below N alone. -/
structure Fam (N : Nat) (J : List Con → JH) : Prop where
  nx : ∀ d, (J d).next = N
  tn : ∀ d e, (J d).tnext ≤ (J (d ++ e)).tnext
  gt : ∀ d e o ob, o < N → (J (d ++ e)).get o = some ob → (J d).get o = some ob ∨ ∀ no, OSub no (J (d ++ e)).tnext ob ob
theorem JDropH.fam {N : Nat} {J : List Con → JH} (F : Fam N J) (d e : List Con) (l : List AObj) : JDropH (J d) (Pg.ext (J (d ++ e)) l) (J (d ++ e)) := by
  refine ⟨?_, ?_, F.tn d e, Nat.le_refl _, fun o ob ho he => ?_, fun t ht => rfl⟩
  · rw [F.nx, F.nx]; exact Nat.le_refl _
  · rw [ext_next]; unfold pid; omega
  · have ho' : o < N := by rw [← F.nx (d ++ e)]; exact ho
    rw [ext_get_old ho] at he
    rcases F.gt d e o ob ho' he with h | h
    · exact .inl ⟨by rw [F.nx]; exact ho', h, he⟩
    · exact .inr ⟨ob, he, h _⟩
theorem JDropH.famN {N : Nat} {J : List Con → JH} (F : Fam N J) (d e : List Con) {l m n : List AObj} (hl : LSub (pid N n.length) (J (d ++ e)).tnext l m n) : JDropH (Pg.ext (J d) l) (Pg.ext (J (d ++ e)) m) (Pg.ext (J (d ++ e)) n) :=
  JDropH.next (TokExt.refl _) (by rw [F.nx, F.nx]) (F.tn d e) (fun o ob ho he => by
    rcases F.gt d e o ob (by rw [← F.nx d]; exact ho) he with h | h
    · exact .inl h
    · exact .inr (h _)) (by rw [F.nx]; exact hl)
theorem Fam.box {N : Nat} {J : List Con → JH} (F : Fam N J) (l : List AObj) (hl : ∀ x ∈ l, ∀ no nt, OSub no nt x x) : Fam (N + l.length) (fun d => Pg.ext (J d) l) := by
  refine ⟨fun d => by rw [ext_next, F.nx]; rfl, fun d e => F.tn d e, fun d e o ob ho he => ?_⟩
  by_cases h : o < N
  · rw [ext_get_old (by rw [F.nx]; exact h)] at he ⊢
    exact F.gt d e o ob h he
  · have ek : o = pid N (o - N) := by unfold pid; omega
    rw [ek, ext_get_new (F.nx _)] at he
    exact .inr fun no => hl _ (List.mem_of_getElem? he) _ _
def RND (P : Program) (G : Nat → Option (List AV)) (o : Nat) (all : List Con) (J : List Con → JH) : Prop :=
  ∀ done x rest, done ++ x :: rest = all → ∀ l, JY P G o [.agg x.enc] (Pg.ext (J done) l) (RET (BOO true) (Pg.ext (J (done ++ [x])) l))
theorem RND.box {P : Program} {o : Nat} {all : List Con} {J : List Con → JH} (h : RND P G o all J) (b : List AObj) : RND P G o all (fun d => Pg.ext (J d) b) := fun done x rest e l => by
  show JY P G o [.agg x.enc] (Pg.ext (Pg.ext (J done) b) l) (RET (BOO true) (Pg.ext (Pg.ext (J (done ++ [x])) b) l))
  rw [ext_ext, ext_ext]
  exact h done x rest e (b ++ l)
noncomputable def ir143 : IFn := ⟨23, [⟨4, none⟩], (.seq (.reg [oA 2 (.box 71 (.r 0)), oA 4 (.mov (kB false))]) (.seq (.seq (.reg [oA 7 (kM 1), oL 8 2 (some 3), oT 9 8 (.callv (.r 7) [.r 8]), oA 10 (.not (.r 9))]) (.cond (.r 10) (.seq (.reg [oA 4 (.mov (kB false))]) .ret) .skip)) (.seq (.seq (.reg [oA 11 (.fadr 2 (.r 2)), oL 12 11 none, oT 13 12 (.lenl (.r 12)), oA 14 (.mov (kI 0))]) (.block 0 (.loop (.seq (.reg [oA 15 (.bin .lss (.r 14) (.r 13))]) (.seq (.cond (.r 15) .skip (.exit 0)) (.seq (.block 1 (.seq (.reg [oA 16 (.iasl 3 (.r 12) (.r 14)), oL 17 16 (some 3), oA 6 (.alloc 71 [.v (.int .i64 0), .v (.int .i64 0), .sl .nil 0 []]), oN (.store 3 (.r 6) (.r 17))]) (.seq (.reg [oL 18 6 (some 3), oA 19 (kM 1), oA 20 (.call 143 [.r 18, .r 19]), oA 21 (.not (.r 20))]) (.cond (.r 21) (.seq (.reg [oA 4 (.mov (kB false))]) .ret) .skip)))) (.reg [oA 22 (.bin .add (.r 14) (kI 1)), oA 14 (kM 22)]))))))) (.seq (.reg [oA 4 (.mov (kB true))]) .ret))))⟩
theorem c143 : cfunc Tryz.prog 143 = some ir143 := by kernel_rfl
theorem k143 : okIR (max 2 ir143.n) ir143.ir = true := by decide +kernel
theorem s_each (o : Nat) (all : List Con) : ∀ (c : Con) (N : Nat) (J : List Con → JH) (done rest : List Con), Fam N J → o < N → RND Tryz.prog G o all J → c.ok → done ++ (pre c ++ rest) = all →
    JC Tryz.prog G 143 [.agg c.enc, .yld o] (J done) (RET (BOO true) (J (done ++ pre c))) := by
  intro c
  induction c using Con.ind with
  | h op n l ih =>
  intro N J done rest F ho hr hc hall
  simp only [Con.ok] at hc
  obtain ⟨hc1, hc2, hc3, hc4⟩ := hc
  have hnx := F.nx
  simp only [pre, List.cons_append] at hall
  refine JC.run hmix c143 (by exact k143) ?_
  (try simp only[↓jr,jw,seval,hnx,ir143])
  (try simp only[↓jr,jw,seval,hnx])
  refine JYs.ret (hr done _ _ hall [.cells 71 (Con.mk op n l).enc]) ?_
  (try simp only[↓jr,jw,seval,hnx])
  have hD : ∀ k, done ++ [Con.mk op n l] ++ k = done ++ (Con.mk op n l :: k) := fun k => by simp
  refine JLOOP.of (σ := Nat) (fun k => k ≤ l.length) (fun k => l.length - k)
    (fun k => [(14, I64 k), (13, I64 l.length), (12, .sl .none l.length (encs Con.enc l)), (2, .ptr (pid N 0) 0), (1, .yld o)])
    (fun k => Pg.ext (J (done ++ [Con.mk op n l] ++ preL (l.take k))) [.cells 71 (Con.mk op n l).enc]) 0 (Nat.zero_le _) ?_ (by simp only [List.take_zero, preL, List.append_nil]; exact JDropH.refl _) ?_
  · have ho2 : o < pid N 1 := by unfold pid; omega
    (try simp only[↓jr,jw,seval,hnx,DL])
    refine ⟨SubB.v, SubB.v, SubB.sl rfl (SubBs.pure (encs_pur Con.pur _)), SubB.ptr (by unfold pid; omega), SubB.yld ho2⟩
  intro k hk
  try simp only at hk
  (try simp only[↓jr,jw,seval,hnx])
  refine wq.intro (fun g1 => ?_) (fun g1 => ?_)
  · have hlt : k < (l).length := by omega
    obtain ⟨x, r, hd⟩ : ∃ c_ l_, List.drop k (l) = c_ :: l_ := ⟨_, _, List.drop_eq_getElem_cons hlt⟩
    have hd1 : List.drop (k + 1) (l) = r := by rw [← List.drop_drop, hd]; rfl
    have hmem : x ∈ l := List.mem_of_mem_drop (hd ▸ List.mem_cons_self)
    have htk := take_one hd
    (try simp only[↓jr,jw,seval,hnx,hd])
    refine wc.intro (by omega) ?_
    (try simp only[↓jr,jw,seval,hnx,hd])
    have hsp : preL l = preL (l.take k) ++ (pre x ++ preL (l.drop (k + 1))) := by
      conv => lhs; rw [← List.take_append_drop k l, hd]
      rw [preL_append, preL, hd1]
    have hpk : preL (l.take (k + 1)) = preL (l.take k) ++ pre x := by rw [htk, preL_append]; simp [preL]
    have hbox : Fam (N + 2) (fun d => Pg.ext (J d) [.cells 71 (Con.mk op n l).enc, .cells 71 x.enc]) := F.box [.cells 71 (Con.mk op n l).enc, .cells 71 x.enc] (by
      intro y hy no nt
      rcases List.mem_cons.1 hy with rfl | hy
      · exact OSub.pure (Con.pur _)
      · rw [List.mem_singleton.1 hy]; exact OSub.pure (Con.pur _))
    refine JCs.ret (ih x hmem (N + 2) (fun d => Pg.ext (J d) [.cells 71 (Con.mk op n l).enc, .cells 71 x.enc]) (done ++ [Con.mk op n l] ++ preL (l.take k)) (preL (l.drop (k + 1)) ++ rest) hbox (by omega) (hr.box _) (Con.oks_mem hc4 hmem) (by rw [← hall, hsp]; simp)) ?_
    (try simp only[↓jr,jw,seval,hnx])
    refine wc.intro (R64_add hlt hc3) ?_
    (try simp only[↓jr,jw,seval,hnx])
    refine JNEXT.of (k + 1) (by omega) (by omega) ?_ ?_
    · (try simp only[↓jr,jw,seval,hnx,DL])
      refine ⟨SubB.v, SubB.v, SubB.sl rfl (SubBs.pure (encs_pur Con.pur _)), SubB.ptr (by unfold pid; omega), SubB.yld (by unfold pid; omega)⟩
    · rw [hpk, ← List.append_assoc]
      exact JDropH.famN F _ _ ⟨.inl ⟨rfl, rfl⟩, True.intro⟩
  · (try simp only[↓jr,jw,seval,hnx])
    have ek : k = l.length := by omega
    subst ek
    rw [List.take_length]
    simp only [pre, List.append_assoc, List.singleton_append]
    exact JFIN.ret (JDropH.fam F _ _ _).of_ext SubB.v
end
end Go.Proofs.YtcjlpklgnknpgaaGreatDoor.Pg
