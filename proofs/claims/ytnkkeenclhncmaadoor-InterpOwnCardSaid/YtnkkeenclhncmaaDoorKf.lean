/-
  What is held against itself.
-/
import Derived.Test.YtnkkeenclhncmaaDoorKe
import Derived.Test.YtnkkeenclhncmaaDoorIq
set_option linter.unusedVariables false
set_option linter.unusedSimpArgs false
set_option maxRecDepth 100000
set_option maxHeartbeats 8000000
namespace Go.Proofs.YtnkkeenclhncmaaDoor.Pg
open Go
section
variable {m : GM} {G : Nat → Option (List AV)}
mutual
def ceq : Con → Con → Bool
  | .mk o n l, .mk o' n' l' => decide (o = o') && decide (n = n') && ceqL l l'
def ceqL : List Con → List Con → Bool
  | [], [] => true
  | c :: l, d :: l' => ceq c d && ceqL l l'
  | _, _ => false
end
theorem ceqL_len : ∀ {l l' : List Con}, ceqL l l' = true → l.length = l'.length
  | [], [], _ => rfl
  | c :: l, d :: l', h => by simp only [ceqL, Bool.and_eq_true] at h; simp only [List.length_cons]; rw [ceqL_len h.2]
  | [], _ :: _, h => by simp [ceqL] at h
  | _ :: _, [], h => by simp [ceqL] at h
mutual
theorem ceq_refl : ∀ c : Con, ceq c c = true
  | .mk o n l => by simp only [ceq, decide_true, Bool.true_and]; exact ceqL_refl l
theorem ceqL_refl : ∀ l : List Con, ceqL l l = true
  | [] => rfl
  | c :: l => by simp only [ceqL, ceq_refl c, ceqL_refl l, Bool.and_self]
end
def ir33 : IFn := ⟨46, [⟨4, none⟩], (.seq (.reg [oA 2 (.box 44 (.r 0)), oA 3 (.box 44 (.r 1)), oA 4 (.mov (kB false))]) (.seq (.seq (.reg [oA 6 (.fadr 0 (.r 2)), oL 7 6 none, oA 8 (.fadr 0 (.r 3)), oL 9 8 none, oA 10 (.bin .neq (.r 7) (.r 9)), oA 11 (kM 10), ⟨(some 12), (some ((11, false))), none, (.fadr 1 (.r 2))⟩, ⟨(some 13), (some ((11, false))), (some (.r 12)), (.load none (.r 12))⟩, ⟨(some 14), (some ((11, false))), none, (.fadr 1 (.r 3))⟩, ⟨(some 15), (some ((11, false))), (some (.r 14)), (.load none (.r 14))⟩, ⟨(some 16), (some ((11, false))), none, (.bin .neq (.r 13) (.r 15))⟩, oA 17 (.pick (.r 11) (kB true) (.r 16)), oA 18 (kM 17), ⟨(some 19), (some ((18, false))), none, (.fadr 2 (.r 2))⟩, ⟨(some 20), (some ((18, false))), (some (.r 19)), (.load none (.r 19))⟩, ⟨(some 21), (some ((18, false))), (some (.r 20)), (.lenl (.r 20))⟩, ⟨(some 22), (some ((18, false))), none, (.fadr 2 (.r 3))⟩, ⟨(some 23), (some ((18, false))), (some (.r 22)), (.load none (.r 22))⟩, ⟨(some 24), (some ((18, false))), (some (.r 23)), (.lenl (.r 23))⟩, ⟨(some 25), (some ((18, false))), none, (.bin .neq (.r 21) (.r 24))⟩, oA 26 (.pick (.r 18) (kB true) (.r 25))]) (.cond (.r 26) (.seq (.reg [oA 4 (.mov (kB false))]) .ret) .skip)) (.seq (.seq (.reg [oA 27 (.fadr 2 (.r 2)), oL 28 27 none, oT 29 28 (.lenl (.r 28)), oA 30 (.mov (kI 0))]) (.block 0 (.loop (.seq (.reg [oA 31 (.bin .lss (.r 30) (.r 29))]) (.seq (.cond (.r 31) .skip (.exit 0)) (.seq (.block 1 (.seq (.reg [oA 32 (kM 30), oA 5 (kM 32)]) (.seq (.draw [oA 33 (.fadr 2 (.r 2)), oL 34 33 none, oA 35 (kM 5), oA 36 (.iasl 3 (.r 34) (.r 35)), oL 37 36 (some 3), oA 38 (.fadr 2 (.r 3)), oL 39 38 none, oA 40 (kM 5), oA 41 (.iasl 3 (.r 39) (.r 40)), oL 42 41 (some 3), oA 43 (.call 33 [.r 37, .r 42]), oA 44 (.not (.r 43))] []) (.cond (.r 44) (.seq (.reg [oA 4 (.mov (kB false))]) .ret) .skip)))) (.reg [oA 45 (.bin .add (.r 30) (kI 1)), oA 30 (kM 45)]))))))) (.seq (.reg [oA 4 (.mov (kB true))]) .ret))))⟩
theorem c33 : cfunc Tryd.prog 33 = some ir33 := by kernel_rfl
theorem k33 : okIR (max 2 ir33.n) ir33.ir = true := by decide +kernel
theorem s_rSame : ∀ (c d : Con) (j : JH), c.ok → d.ok → JC Tryd.prog G 33 [.agg c.enc, .agg d.enc] j (RET (BOO (ceq c d)) j) := by
  intro c
  induction c using Con.ind with
  | h o n l ih =>
  rintro ⟨o', n', l'⟩ j hc hd
  simp only [Con.ok] at hc hd
  obtain ⟨hc1, hc2, hc3, hc4⟩ := hc
  obtain ⟨hd1, hd2, hd3, hd4⟩ := hd
  refine JC.run hmix c33 (by exact k33) ?_
  (try simp only[↓jr,jw,seval,ir33])
  refine wq.intro (fun q1 => ?_) (fun q1 => ?_)
  · (try simp only[↓jr,jw,seval])
    refine wq.intro (fun q2 => ?_) (fun q2 => ?_)
    · (try simp only[↓jr,jw,seval])
      refine wq.intro (fun q3 => ?_) (fun q3 => ?_)
      · (try simp only[↓jr,jw,seval])
        have q3' : l.length = l'.length := by omega
        have hE : ceq (.mk o n l) (.mk o' n' l') = ceqL l l' := by simp only [ceq, decide_eq_true q1, decide_eq_true q2, Bool.true_and]
        refine JLOOP.of (σ := Nat) (fun k => k ≤ l.length ∧ ceqL (l.drop k) (l'.drop k) = ceqL l l') (fun k => l.length - k)
          (fun k => [(30, I64 k), (29, I64 l.length), (2, .ptr (pid j.next 0) 0), (3, .ptr (pid j.next 1) 0)]) (fun k => ext j [.cells 44 (Con.mk o n l).enc, .cells 44 (Con.mk o' n' l').enc]) 0 ⟨by omega, rfl⟩ ?_ (JDropH.refl _) ?_
        · ((try simp only[↓jr,jw,seval,DL]) <;> exact sbq)
        · rintro k ⟨hk, hI⟩
          (try simp only[↓jr,jw,seval])
          refine wq.intro (fun h1 => ?_) (fun h1 => ?_)
          · have hlt : k < (l).length := by omega
            obtain ⟨c, r, hd⟩ : ∃ c_ l_, List.drop k (l) = c_ :: l_ := ⟨_, _, List.drop_eq_getElem_cons hlt⟩
            have hd1 : List.drop (k + 1) (l) = r := by rw [← List.drop_drop, hd]; rfl
            have hmem : c ∈ l := List.mem_of_mem_drop (hd ▸ List.mem_cons_self)
            have hlt' : k < l'.length := by omega
            obtain ⟨d, r', hd'⟩ : ∃ c_ l_, List.drop k l' = c_ :: l_ := ⟨_, _, List.drop_eq_getElem_cons hlt'⟩
            have hd1' : List.drop (k + 1) l' = r' := by rw [← List.drop_drop, hd']; rfl
            have hmem' : d ∈ l' := List.mem_of_mem_drop (hd' ▸ List.mem_cons_self)
            rw [hd, hd'] at hI
            simp only [ceqL] at hI
            (try simp only[↓jr,jw,seval,hd,hd'])
            refine wc.intro (by omega) ?_
            (try simp only[↓jr,jw,seval,hd,hd'])
            refine wc.intro (by omega) ?_
            (try simp only[↓jr,jw,seval,hd,hd'])
            refine JDC.use (ih c hmem d _ (Con.oks_mem hc4 hmem) (Con.oks_mem hd4 hmem')) ?_
            (try simp only[↓jr,jw,seval])
            refine JDRAW.oc (by (try simp only[↓jr,jw,seval,jq]) <;> exact orq) ?_; (try simp only[↓jr,jw,seval])
            refine ww.intro (fun h2 => ?_) (fun h2 => ?_)
            · (try simp only[↓jr,jw,seval])
              refine wc.intro (R64_add hlt hc3) ?_
              (try simp only[↓jr,jw,seval])
              rw [h2, Bool.true_and] at hI
              refine JNEXT.of (k + 1) ⟨by omega, by rw [hd1, hd1', hI]⟩ (by omega) ?_ JDropH.nx
              ((try simp only[↓jr,jw,seval,DL]) <;> exact sbq)
            · (try simp only[↓jr,jw,seval])
              rw [h2, Bool.false_and] at hI
              refine JFIN.rb ?_
              rw [hE, ← hI]; exact SubB.v
          · (try simp only[↓jr,jw,seval])
            rw [List.drop_eq_nil_of_le (by omega), List.drop_eq_nil_of_le (by omega)] at hI
            simp only [ceqL] at hI
            refine JFIN.rb ?_
            rw [hE, ← hI]; exact SubB.v
      · (try simp only[↓jr,jw,seval])
        refine JFIN.rb ?_
        have : ceqL l l' = false := by
          cases h : ceqL l l' with
          | false => rfl
          | true => have := ceqL_len h; omega
        simp only [ceq, this, Bool.and_false]; exact SubB.v
    · (try simp only[↓jr,jw,seval])
      refine JFIN.rb ?_
      simp only [ceq, decide_eq_false q2, Bool.and_false, Bool.false_and]; exact SubB.v
  · (try simp only[↓jr,jw,seval])
    refine JFIN.rb ?_
    simp only [ceq, decide_eq_false q1, Bool.false_and]; exact SubB.v
theorem s_rSame1 (c : Con) (hc : c.ok) (j : JH) : JC Tryd.prog G 33 [.agg c.enc, .agg c.enc] j (RET (BOO true) j) := by
  have := s_rSame (G := G) c c j hc hc
  rwa [ceq_refl] at this
def ir82 : IFn := ⟨26, [⟨4, none⟩], (.seq (.reg [oA 4 (.mov (kB false))]) (.seq (.seq (.reg [oA 6 (kM 0), oT 7 6 (.lenl (.r 6)), oA 8 (kM 1), oT 9 8 (.lenl (.r 8)), oA 10 (.bin .neq (.r 7) (.r 9))]) (.cond (.r 10) (.seq (.reg [oA 4 (.mov (kB false))]) .ret) .skip)) (.seq (.seq (.reg [oA 11 (kM 0), oT 12 11 (.lenl (.r 11)), oA 13 (.mov (kI 0))]) (.block 0 (.loop (.seq (.reg [oA 14 (.bin .lss (.r 13) (.r 12))]) (.seq (.cond (.r 14) .skip (.exit 0)) (.seq (.block 1 (.seq (.reg [oA 15 (kM 13), oA 5 (kM 15)]) (.seq (.draw [oA 16 (kM 0), oA 17 (kM 5), oA 18 (.iasl 1 (.r 16) (.r 17)), oL 19 18 none, oA 20 (kM 1), oA 21 (kM 5), oA 22 (.iasl 1 (.r 20) (.r 21)), oL 23 22 none, oA 24 (.bin .neq (.r 19) (.r 23))] []) (.cond (.r 24) (.seq (.reg [oA 4 (.mov (kB false))]) .ret) .skip)))) (.reg [oA 25 (.bin .add (.r 13) (kI 1)), oA 13 (kM 25)]))))))) (.seq (.reg [oA 4 (.mov (kB true))]) .ret))))⟩
theorem c82 : cfunc Tryd.prog 82 = some ir82 := by kernel_rfl
theorem k82 : okIR (max 2 ir82.n) ir82.ir = true := by decide +kernel
theorem s_strSame (l : List ByteArray) (hl : l.length ≤ 100000) (j : JH) : JC Tryd.prog G 82 [.sl .none l.length (strs l), .sl .none l.length (strs l)] j (RET (BOO true) j) := by
  refine JC.run hmix c82 (by exact k82) ?_
  (try simp only[↓jr,jw,seval,ir82])
  refine JLOOP.of (σ := Nat) (fun k => k ≤ l.length) (fun k => l.length - k) (fun k => [(13, I64 k), (12, I64 l.length), (0, .sl .none l.length (strs l)), (1, .sl .none l.length (strs l))]) (fun k => ext j []) 0 (Nat.zero_le _) ?_ (JDropH.refl _) ?_
  · (try simp only[↓jr,jw,seval,DL])
    exact ⟨SubB.v, SubB.v, SubB.sl rfl (SubBs.pure (strs_pur _))⟩
  intro k hk
  (try simp only[↓jr,jw,seval])
  refine wq.intro (fun q1 => ?_) (fun q1 => ?_)
  · have hlt : k < (l).length := by omega
    obtain ⟨x, u, hd⟩ : ∃ c_ l_, List.drop k (l) = c_ :: l_ := ⟨_, _, List.drop_eq_getElem_cons hlt⟩
    have hd1 : List.drop (k + 1) (l) = u := by rw [← List.drop_drop, hd]; rfl
    have hmem : x ∈ l := List.mem_of_mem_drop (hd ▸ List.mem_cons_self)
    (try simp only[↓jr,jw,seval,hd])
    refine wc.intro (by omega) ?_
    (try simp only[↓jr,jw,seval,hd])
    refine wc.intro (by omega) ?_
    (try simp only[↓jr,jw,seval,hd])
    refine JDRAW.oc (by (try simp only[↓jr,jw,seval,jq]) <;> exact orq) ?_; (try simp only[↓jr,jw,seval])
    refine wc.intro (R64_add hlt (by omega)) ?_
    (try simp only[↓jr,jw,seval])
    refine JNEXT.of (k + 1) (by omega) (by omega) ?_ JDropH.nx
    (try simp only[↓jr,jw,seval,DL])
    exact ⟨SubB.v, SubB.v, SubB.sl rfl (SubBs.pure (strs_pur _))⟩
  · (try simp only[↓jr,jw,seval])
    refine JFIN.rb ?_
    exact SubB.v
def ir57 : IFn := ⟨24, [⟨4, none⟩], (.seq (.reg [oA 2 (.box 24 (.r 0)), oA 3 (.box 24 (.r 1)), oA 4 (.mov (kB false))]) (.seq (.reg [oA 5 (.fadr 0 (.r 2)), oL 6 5 none, oA 7 (.fadr 0 (.r 3)), oL 8 7 none, oA 9 (.call 82 [.r 6, .r 8]), oA 10 (kM 9), ⟨(some 11), (some ((10, true))), none, (.fadr 1 (.r 2))⟩, ⟨(some 12), (some ((10, true))), (some (.r 11)), (.load none (.r 11))⟩, ⟨(some 13), (some ((10, true))), none, (.fadr 1 (.r 3))⟩, ⟨(some 14), (some ((10, true))), (some (.r 13)), (.load none (.r 13))⟩, ⟨(some 15), (some ((10, true))), none, (.call 82 [.r 12, .r 14])⟩, oA 16 (.pick (.r 10) (.r 15) (kB false)), oA 17 (kM 16), ⟨(some 18), (some ((17, true))), none, (.fadr 2 (.r 2))⟩, ⟨(some 19), (some ((17, true))), (some (.r 18)), (.load none (.r 18))⟩, ⟨(some 20), (some ((17, true))), none, (.fadr 2 (.r 3))⟩, ⟨(some 21), (some ((17, true))), (some (.r 20)), (.load none (.r 20))⟩, ⟨(some 22), (some ((17, true))), none, (.call 82 [.r 19, .r 21])⟩, oA 23 (.pick (.r 17) (.r 22) (kB false)), oA 4 (kM 23)]) .ret))⟩
theorem c57 : cfunc Tryd.prog 57 = some ir57 := by kernel_rfl
theorem k57 : okIR (max 2 ir57.n) ir57.ir = true := by decide +kernel
theorem s_nSame (n : Nms) (b1 : n.cs.length ≤ 100000) (b2 : n.rs.length ≤ 100000) (b3 : n.is.length ≤ 100000) (j : JH) : JC Tryd.prog G 57 [.agg n.enc, .agg n.enc] j (RET (BOO true) j) := by
  refine JC.run hmix c57 (by exact k57) ?_
  (try simp only[↓jr,jw,seval,ji,ext_ext,pid_pid,ir57])
  refine JCs.ret (s_strSame n.cs b1 _) ?_
  (try simp only[↓jr,jw,seval,ji,ext_ext,pid_pid])
  refine JCs.ret (s_strSame n.rs b2 _) ?_
  (try simp only[↓jr,jw,seval,ji,ext_ext,pid_pid])
  refine JCs.ret (s_strSame n.is b3 _) ?_
  (try simp only[↓jr,jw,seval,ji,ext_ext,pid_pid])
  refine JFIN.rb ?_
  exact SubB.v
def ir34 : IFn := ⟨76, [⟨4, none⟩], (.seq (.reg [oA 2 (.box 29 (.r 0)), oA 3 (.box 29 (.r 1)), oA 4 (.mov (kB false))]) (.seq (.seq (.reg [oA 7 (.fadr 0 (.r 2)), oL 8 7 none, oA 9 (.fadr 0 (.r 3)), oL 10 9 none, oA 11 (.bin .neq (.r 8) (.r 10)), oA 12 (kM 11), ⟨(some 13), (some ((12, false))), none, (.fadr 1 (.r 2))⟩, ⟨(some 14), (some ((12, false))), (some (.r 13)), (.load none (.r 13))⟩, ⟨(some 15), (some ((12, false))), (some (.r 14)), (.lenl (.r 14))⟩, ⟨(some 16), (some ((12, false))), none, (.fadr 1 (.r 3))⟩, ⟨(some 17), (some ((12, false))), (some (.r 16)), (.load none (.r 16))⟩, ⟨(some 18), (some ((12, false))), (some (.r 17)), (.lenl (.r 17))⟩, ⟨(some 19), (some ((12, false))), none, (.bin .neq (.r 15) (.r 18))⟩, oA 20 (.pick (.r 12) (kB true) (.r 19)), oA 21 (kM 20), ⟨(some 22), (some ((21, false))), none, (.fadr 2 (.r 2))⟩, ⟨(some 23), (some ((21, false))), (some (.r 22)), (.load none (.r 22))⟩, ⟨(some 24), (some ((21, false))), (some (.r 23)), (.lenl (.r 23))⟩, ⟨(some 25), (some ((21, false))), none, (.fadr 2 (.r 3))⟩, ⟨(some 26), (some ((21, false))), (some (.r 25)), (.load none (.r 25))⟩, ⟨(some 27), (some ((21, false))), (some (.r 26)), (.lenl (.r 26))⟩, ⟨(some 28), (some ((21, false))), none, (.bin .neq (.r 24) (.r 27))⟩, oA 29 (.pick (.r 21) (kB true) (.r 28)), oA 30 (kM 29), ⟨(some 31), (some ((30, false))), none, (.fadr 3 (.r 2))⟩, ⟨(some 32), (some ((30, false))), (some (.r 31)), (.load none (.r 31))⟩, ⟨(some 33), (some ((30, false))), none, (.fadr 3 (.r 3))⟩, ⟨(some 34), (some ((30, false))), (some (.r 33)), (.load none (.r 33))⟩, ⟨(some 35), (some ((30, false))), none, (.call 19 [.r 32, .r 34])⟩, ⟨(some 36), (some ((30, false))), none, (.not (.r 35))⟩, oA 37 (.pick (.r 30) (kB true) (.r 36))]) (.cond (.r 37) (.seq (.reg [oA 4 (.mov (kB false))]) .ret) .skip)) (.seq (.seq (.reg [oA 38 (.fadr 1 (.r 2)), oL 39 38 none, oT 40 39 (.lenl (.r 39)), oA 41 (.mov (kI 0))]) (.block 0 (.loop (.seq (.reg [oA 42 (.bin .lss (.r 41) (.r 40))]) (.seq (.cond (.r 42) .skip (.exit 0)) (.seq (.block 1 (.seq (.reg [oA 43 (kM 41), oA 5 (kM 43)]) (.seq (.draw [oA 44 (.fadr 1 (.r 2)), oL 45 44 none, oA 46 (kM 5), oA 47 (.iasl 1 (.r 45) (.r 46)), oL 48 47 none, oA 49 (.fadr 1 (.r 3)), oL 50 49 none, oA 51 (kM 5), oA 52 (.iasl 1 (.r 50) (.r 51)), oL 53 52 none, oA 54 (.call 19 [.r 48, .r 53]), oA 55 (.not (.r 54))] []) (.cond (.r 55) (.seq (.reg [oA 4 (.mov (kB false))]) .ret) .skip)))) (.reg [oA 56 (.bin .add (.r 41) (kI 1)), oA 41 (kM 56)]))))))) (.seq (.seq (.reg [oA 57 (.fadr 2 (.r 2)), oL 58 57 none, oT 59 58 (.lenl (.r 58)), oA 60 (.mov (kI 0))]) (.block 2 (.loop (.seq (.reg [oA 61 (.bin .lss (.r 60) (.r 59))]) (.seq (.cond (.r 61) .skip (.exit 2)) (.seq (.block 3 (.seq (.reg [oA 62 (kM 60), oA 6 (kM 62)]) (.seq (.draw [oA 63 (.fadr 2 (.r 2)), oL 64 63 none, oA 65 (kM 6), oA 66 (.iasl 1 (.r 64) (.r 65)), oL 67 66 none, oA 68 (.fadr 2 (.r 3)), oL 69 68 none, oA 70 (kM 6), oA 71 (.iasl 1 (.r 69) (.r 70)), oL 72 71 none, oA 73 (.call 14 [.r 67, .r 72]), oA 74 (.not (.r 73))] []) (.cond (.r 74) (.seq (.reg [oA 4 (.mov (kB false))]) .ret) .skip)))) (.reg [oA 75 (.bin .add (.r 60) (kI 1)), oA 60 (kM 75)]))))))) (.seq (.reg [oA 4 (.mov (kB true))]) .ret)))))⟩
theorem c34 : cfunc Tryd.prog 34 = some ir34 := by kernel_rfl
theorem k34 : okIR (max 2 ir34.n) ir34.ir = true := by decide +kernel
theorem s_iSame (i : Itp) (hok : i.ok) (b1 : i.cons.length ≤ 100000) (b2 : i.rols.length ≤ 100000) (b3 : i.inds.length ≤ 100000) (c1 : ∀ l ∈ i.cons, l.length ≤ 100000) (c2 : ∀ l ∈ i.rols, l.length ≤ 100000) (j : JH) : JC Tryd.prog G 34 [.agg i.enc, .agg i.enc] j (RET (BOO true) j) := by
  have hI : ∀ (l : List Int), l.length ≤ 100000 → ∀ j0, JC Tryd.prog G 19 [.sl .none l.length (ints l), .sl .none l.length (ints l)] j0 (RET (BOO true) j0) := fun l hl j0 => by
    have := s_SameIntsI (G := G) l l .none .none (by omega) (by omega) j0
    rwa [decide_eq_true rfl] at this
  have hP : ∀ (l : List (Int × Int)), l.length ≤ 100000 → ∀ j0, JC Tryd.prog G 14 [.sl .none l.length (encs PR l), .sl .none l.length (encs PR l)] j0 (RET (BOO true) j0) := fun l hl j0 => by
    have := s_SamePairsI (G := G) l l .none .none (by omega) (by omega) j0
    rwa [decide_eq_true rfl] at this
  refine JC.run hmix c34 (by exact k34) ?_
  (try simp only[↓jr,jw,seval,ji,ext_ext,pid_pid,ir34])
  refine JCs.ret (hI i.inds b3 _) ?_
  (try simp only[↓jr,jw,seval,ji,ext_ext,pid_pid])
  refine JLOOP.of (σ := Nat) (fun k => k ≤ i.cons.length) (fun k => i.cons.length - k) (fun k => [(41, I64 k), (40, I64 i.cons.length), (39, .sl .none i.cons.length (encs IL i.cons)), (2, .ptr (pid j.next 0) 0), (3, .ptr (pid j.next 1) 0)]) (fun k => ext j [.cells 29 i.enc, .cells 29 i.enc]) 0 (Nat.zero_le _) ?_ (JDropH.refl _) ?_
  · (try simp only[↓jr,jw,seval,ji,ext_ext,pid_pid,DL])
    exact ⟨SubB.v, SubB.v, SubB.sl rfl (SubBs.pure (IL.pur _)), SubB.ptr (by unfold pid; omega), SubB.ptr (by unfold pid; omega)⟩
  intro k hk
  (try simp only[↓jr,jw,seval,ji,ext_ext,pid_pid])
  refine wq.intro (fun q1 => ?_) (fun q1 => ?_)
  · have hlt : k < (i.cons).length := by omega
    obtain ⟨x, u, hd⟩ : ∃ c_ l_, List.drop k (i.cons) = c_ :: l_ := ⟨_, _, List.drop_eq_getElem_cons hlt⟩
    have hd1 : List.drop (k + 1) (i.cons) = u := by rw [← List.drop_drop, hd]; rfl
    have hmem : x ∈ i.cons := List.mem_of_mem_drop (hd ▸ List.mem_cons_self)
    (try simp only[↓jr,jw,seval,ji,ext_ext,pid_pid,hd])
    refine wc.intro (by omega) ?_
    (try simp only[↓jr,jw,seval,ji,ext_ext,pid_pid,hd])
    refine wc.intro (by omega) ?_
    (try simp only[↓jr,jw,seval,ji,ext_ext,pid_pid,hd])
    refine JDC.use (hI x (c1 x hmem) _) ?_
    (try simp only[↓jr,jw,seval,ji,ext_ext,pid_pid])
    refine JDRAW.oc (by (try simp only[↓jr,jw,seval,ji,ext_ext,pid_pid,jq,qe2,qe3,ext_next,ext_tnext,pushTok_next,List.length_cons,List.length_nil]) <;> (repeat' (first | exact trivial | refine And.intro ?_ ?_ | exact Nat.le_refl _ | (refine pr_extp ⟨_, rfl⟩ (some_lt ?_)) | (refine pr_extp ⟨_, rfl⟩ (fun _ q => by cases q)) | omega | (unfold pid; omega) | (simp only [pushTok_next, List.length_cons, List.length_nil]; unfold pid; omega)))) ?_; (try simp only[↓jr,jw,seval,ji,ext_ext,pid_pid])
    refine wc.intro (by unfold R64; omega) ?_
    (try simp only[↓jr,jw,seval,ji,ext_ext,pid_pid])
    refine JNEXT.of (k + 1) (by omega) (by omega) ?_ JDropH.nx
    (try simp only[↓jr,jw,seval,ji,ext_ext,pid_pid,DL])
    exact ⟨SubB.v, SubB.v, SubB.sl rfl (SubBs.pure (IL.pur _)), SubB.ptr (by unfold pid; omega), SubB.ptr (by unfold pid; omega)⟩
  have ek : k = i.cons.length := by omega
  subst ek
  (try simp only[↓jr,jw,seval,ji,ext_ext,pid_pid])
  clear q1 hk
  refine JLOOP.of (σ := Nat) (fun k => k ≤ i.rols.length) (fun k => i.rols.length - k) (fun k => [(60, I64 k), (59, I64 i.rols.length), (58, .sl .none i.rols.length (encs PL i.rols)), (2, .ptr (pid j.next 0) 0), (3, .ptr (pid j.next 1) 0)]) (fun k => ext j [.cells 29 i.enc, .cells 29 i.enc]) 0 (Nat.zero_le _) ?_ (JDropH.refl _) ?_
  · (try simp only[↓jr,jw,seval,ji,ext_ext,pid_pid,DL])
    exact ⟨SubB.v, SubB.v, SubB.sl rfl (SubBs.pure (PL.pur _)), SubB.ptr (by unfold pid; omega), SubB.ptr (by unfold pid; omega)⟩
  intro k hk
  (try simp only[↓jr,jw,seval,ji,ext_ext,pid_pid])
  refine wq.intro (fun q1 => ?_) (fun q1 => ?_)
  · have hlt : k < (i.rols).length := by omega
    obtain ⟨x, u, hd⟩ : ∃ c_ l_, List.drop k (i.rols) = c_ :: l_ := ⟨_, _, List.drop_eq_getElem_cons hlt⟩
    have hd1 : List.drop (k + 1) (i.rols) = u := by rw [← List.drop_drop, hd]; rfl
    have hmem : x ∈ i.rols := List.mem_of_mem_drop (hd ▸ List.mem_cons_self)
    (try simp only[↓jr,jw,seval,ji,ext_ext,pid_pid,hd])
    refine wc.intro (by omega) ?_
    (try simp only[↓jr,jw,seval,ji,ext_ext,pid_pid,hd])
    refine wc.intro (by omega) ?_
    (try simp only[↓jr,jw,seval,ji,ext_ext,pid_pid,hd])
    refine JDC.use (hP x (c2 x hmem) _) ?_
    (try simp only[↓jr,jw,seval,ji,ext_ext,pid_pid])
    refine JDRAW.oc (by (try simp only[↓jr,jw,seval,ji,ext_ext,pid_pid,jq,qe2,qe3,ext_next,ext_tnext,pushTok_next,List.length_cons,List.length_nil]) <;> (repeat' (first | exact trivial | refine And.intro ?_ ?_ | exact Nat.le_refl _ | (refine pr_extp ⟨_, rfl⟩ (some_lt ?_)) | (refine pr_extp ⟨_, rfl⟩ (fun _ q => by cases q)) | omega | (unfold pid; omega) | (simp only [pushTok_next, List.length_cons, List.length_nil]; unfold pid; omega)))) ?_; (try simp only[↓jr,jw,seval,ji,ext_ext,pid_pid])
    refine wc.intro (by unfold R64; omega) ?_
    (try simp only[↓jr,jw,seval,ji,ext_ext,pid_pid])
    refine JNEXT.of (k + 1) (by omega) (by omega) ?_ JDropH.nx
    (try simp only[↓jr,jw,seval,ji,ext_ext,pid_pid,DL])
    exact ⟨SubB.v, SubB.v, SubB.sl rfl (SubBs.pure (PL.pur _)), SubB.ptr (by unfold pid; omega), SubB.ptr (by unfold pid; omega)⟩
  have ek : k = i.rols.length := by omega
  subst ek
  (try simp only[↓jr,jw,seval,ji,ext_ext,pid_pid])
  clear q1 hk
  refine JFIN.rb ?_
  exact SubB.v
def ir32 : IFn := ⟨148, [⟨4, none⟩], (.seq (.reg [oA 2 (.box 66 (.r 0)), oA 3 (.box 66 (.r 1)), oA 4 (.mov (kB false))]) (.seq (.seq (.reg [oA 13 (.fadr 0 (.r 2)), oL 14 13 (some 3), oA 15 (.fadr 0 (.r 3)), oL 16 15 (some 3), oA 17 (.call 57 [.r 14, .r 16]), oA 18 (.not (.r 17)), oA 19 (kM 18), ⟨(some 20), (some ((19, false))), none, (.fadr 3 (.r 2))⟩, ⟨(some 21), (some ((19, false))), (some (.r 20)), (.load none (.r 20))⟩, ⟨(some 22), (some ((19, false))), (some (.r 21)), (.lenl (.r 21))⟩, ⟨(some 23), (some ((19, false))), none, (.fadr 3 (.r 3))⟩, ⟨(some 24), (some ((19, false))), (some (.r 23)), (.load none (.r 23))⟩, ⟨(some 25), (some ((19, false))), (some (.r 24)), (.lenl (.r 24))⟩, ⟨(some 26), (some ((19, false))), none, (.bin .neq (.r 22) (.r 25))⟩, oA 27 (.pick (.r 19) (kB true) (.r 26)), oA 28 (kM 27), ⟨(some 29), (some ((28, false))), none, (.fadr 4 (.r 2))⟩, ⟨(some 30), (some ((28, false))), (some (.r 29)), (.load none (.r 29))⟩, ⟨(some 31), (some ((28, false))), (some (.r 30)), (.lenl (.r 30))⟩, ⟨(some 32), (some ((28, false))), none, (.fadr 4 (.r 3))⟩, ⟨(some 33), (some ((28, false))), (some (.r 32)), (.load none (.r 32))⟩, ⟨(some 34), (some ((28, false))), (some (.r 33)), (.lenl (.r 33))⟩, ⟨(some 35), (some ((28, false))), none, (.bin .neq (.r 31) (.r 34))⟩, oA 36 (.pick (.r 28) (kB true) (.r 35)), oA 37 (kM 36), ⟨(some 38), (some ((37, false))), none, (.fadr 5 (.r 2))⟩, ⟨(some 39), (some ((37, false))), (some (.r 38)), (.load none (.r 38))⟩, ⟨(some 40), (some ((37, false))), (some (.r 39)), (.lenl (.r 39))⟩, ⟨(some 41), (some ((37, false))), none, (.fadr 5 (.r 3))⟩, ⟨(some 42), (some ((37, false))), (some (.r 41)), (.load none (.r 41))⟩, ⟨(some 43), (some ((37, false))), (some (.r 42)), (.lenl (.r 42))⟩, ⟨(some 44), (some ((37, false))), none, (.bin .neq (.r 40) (.r 43))⟩, oA 45 (.pick (.r 37) (kB true) (.r 44)), oA 46 (kM 45), ⟨(some 47), (some ((46, false))), none, (.fadr 6 (.r 2))⟩, ⟨(some 48), (some ((46, false))), (some (.r 47)), (.load none (.r 47))⟩, ⟨(some 49), (some ((46, false))), (some (.r 48)), (.lenl (.r 48))⟩, ⟨(some 50), (some ((46, false))), none, (.fadr 6 (.r 3))⟩, ⟨(some 51), (some ((46, false))), (some (.r 50)), (.load none (.r 50))⟩, ⟨(some 52), (some ((46, false))), (some (.r 51)), (.lenl (.r 51))⟩, ⟨(some 53), (some ((46, false))), none, (.bin .neq (.r 49) (.r 52))⟩, oA 54 (.pick (.r 46) (kB true) (.r 53))]) (.cond (.r 54) (.seq (.reg [oA 4 (.mov (kB false))]) .ret) .skip)) (.seq (.seq (.reg [oA 55 (.fadr 3 (.r 2)), oL 56 55 none, oT 57 56 (.lenl (.r 56)), oA 58 (.mov (kI 0))]) (.block 0 (.loop (.seq (.reg [oA 59 (.bin .lss (.r 58) (.r 57))]) (.seq (.cond (.r 59) .skip (.exit 0)) (.seq (.block 1 (.seq (.reg [oA 60 (kM 58), oA 61 (.iasl 6 (.r 56) (.r 58)), oL 62 61 (some 6), oA 6 (.alloc 92 [.v (.int .i64 0), .v (.int .i64 0), .sl .nil 0 [], .v (.int .i64 0), .v (.int .i64 0), .sl .nil 0 []]), oA 5 (kM 60), oN (.store 6 (.r 6) (.r 62))]) (.seq (.draw [oA 63 (.fadr 0 (.r 6)), oL 64 63 (some 3), oA 65 (.fadr 3 (.r 3)), oL 66 65 none, oA 67 (kM 5), oA 68 (.iasl 6 (.r 66) (.r 67)), oA 69 (.fadr 0 (.r 68)), oL 70 69 (some 3), oA 71 (.call 33 [.r 64, .r 70]), oA 72 (.not (.r 71)), oA 73 (kM 72), ⟨(some 74), (some ((73, false))), none, (.fadr 3 (.r 6))⟩, ⟨(some 75), (some ((73, false))), (some (.r 74)), (.load (some 3) (.r 74))⟩, ⟨(some 76), (some ((73, false))), none, (.fadr 3 (.r 3))⟩, ⟨(some 77), (some ((73, false))), (some (.r 76)), (.load none (.r 76))⟩, ⟨(some 78), (some ((73, false))), none, (kM 5)⟩, ⟨(some 79), (some ((73, false))), none, (.iasl 6 (.r 77) (.r 78))⟩, ⟨(some 80), (some ((73, false))), none, (.fadr 3 (.r 79))⟩, ⟨(some 81), (some ((73, false))), (some (.r 80)), (.load (some 3) (.r 80))⟩, ⟨(some 82), (some ((73, false))), none, (.call 33 [.r 75, .r 81])⟩, ⟨(some 83), (some ((73, false))), none, (.not (.r 82))⟩, oA 84 (.pick (.r 73) (kB true) (.r 83))] []) (.cond (.r 84) (.seq (.reg [oA 4 (.mov (kB false))]) .ret) .skip)))) (.reg [oA 85 (.bin .add (.r 58) (kI 1)), oA 58 (kM 85)]))))))) (.seq (.seq (.reg [oA 86 (.fadr 4 (.r 2)), oL 87 86 none, oT 88 87 (.lenl (.r 87)), oA 89 (.mov (kI 0))]) (.block 2 (.loop (.seq (.reg [oA 90 (.bin .lss (.r 89) (.r 88))]) (.seq (.cond (.r 90) .skip (.exit 2)) (.seq (.block 3 (.seq (.reg [oA 91 (kM 89), oA 92 (.iasl 2 (.r 87) (.r 89)), oL 93 92 (some 2), oA 8 (.alloc 100 [.v (.int .i64 0), .v (.int .i64 0)]), oA 7 (kM 91), oN (.store 2 (.r 8) (.r 93))]) (.seq (.draw [oL 94 8 (some 2), oA 95 (.fadr 4 (.r 3)), oL 96 95 none, oA 97 (kM 7), oA 98 (.iasl 2 (.r 96) (.r 97)), oL 99 98 (some 2), oA 100 (.gen ⟨(some 100), (.binOp .neq 100 (.tmp 94) (.tmp 99) 100), 4, "ref.go:90", #[⟨0, .data⟩, ⟨5, .data⟩], none⟩)] []) (.cond (.r 100) (.seq (.reg [oA 4 (.mov (kB false))]) .ret) .skip)))) (.reg [oA 101 (.bin .add (.r 89) (kI 1)), oA 89 (kM 101)]))))))) (.seq (.seq (.reg [oA 102 (.fadr 5 (.r 2)), oL 103 102 none, oT 104 103 (.lenl (.r 103)), oA 105 (.mov (kI 0))]) (.block 4 (.loop (.seq (.reg [oA 106 (.bin .lss (.r 105) (.r 104))]) (.seq (.cond (.r 106) .skip (.exit 4)) (.seq (.block 5 (.seq (.reg [oA 107 (kM 105), oA 108 (.iasl 4 (.r 103) (.r 105)), oL 109 108 (some 4), oA 10 (.alloc 94 [.v (.int .i64 0), .v (.int .i64 0), .v (.int .i64 0), .sl .nil 0 []]), oA 9 (kM 107), oN (.store 4 (.r 10) (.r 109))]) (.seq (.draw [oA 110 (.fadr 0 (.r 10)), oL 111 110 none, oA 112 (.fadr 5 (.r 3)), oL 113 112 none, oA 114 (kM 9), oA 115 (.iasl 4 (.r 113) (.r 114)), oA 116 (.fadr 0 (.r 115)), oL 117 116 none, oA 118 (.bin .neq (.r 111) (.r 117)), oA 119 (kM 118), ⟨(some 120), (some ((119, false))), none, (.fadr 1 (.r 10))⟩, ⟨(some 121), (some ((119, false))), (some (.r 120)), (.load (some 3) (.r 120))⟩, ⟨(some 122), (some ((119, false))), none, (.fadr 5 (.r 3))⟩, ⟨(some 123), (some ((119, false))), (some (.r 122)), (.load none (.r 122))⟩, ⟨(some 124), (some ((119, false))), none, (kM 9)⟩, ⟨(some 125), (some ((119, false))), none, (.iasl 4 (.r 123) (.r 124))⟩, ⟨(some 126), (some ((119, false))), none, (.fadr 1 (.r 125))⟩, ⟨(some 127), (some ((119, false))), (some (.r 126)), (.load (some 3) (.r 126))⟩, ⟨(some 128), (some ((119, false))), none, (.call 33 [.r 121, .r 127])⟩, ⟨(some 129), (some ((119, false))), none, (.not (.r 128))⟩, oA 130 (.pick (.r 119) (kB true) (.r 129))] []) (.cond (.r 130) (.seq (.reg [oA 4 (.mov (kB false))]) .ret) .skip)))) (.reg [oA 131 (.bin .add (.r 105) (kI 1)), oA 105 (kM 131)]))))))) (.seq (.seq (.reg [oA 132 (.fadr 6 (.r 2)), oL 133 132 none, oT 134 133 (.lenl (.r 133)), oA 135 (.mov (kI 0))]) (.block 6 (.loop (.seq (.reg [oA 136 (.bin .lss (.r 135) (.r 134))]) (.seq (.cond (.r 136) .skip (.exit 6)) (.seq (.block 7 (.seq (.reg [oA 137 (kM 135), oA 138 (.iasl 3 (.r 133) (.r 135)), oL 139 138 (some 3), oA 12 (.alloc 102 [.v (.int .i64 0), .v (.int .i64 0), .v (.int .i64 0)]), oA 11 (kM 137), oN (.store 3 (.r 12) (.r 139))]) (.seq (.draw [oL 140 12 (some 3), oA 141 (.fadr 6 (.r 3)), oL 142 141 none, oA 143 (kM 11), oA 144 (.iasl 3 (.r 142) (.r 143)), oL 145 144 (some 3), oA 146 (.gen ⟨(some 146), (.binOp .neq 102 (.tmp 140) (.tmp 145) 102), 4, "ref.go:100", #[⟨0, .data⟩, ⟨5, .data⟩], none⟩)] []) (.cond (.r 146) (.seq (.reg [oA 4 (.mov (kB false))]) .ret) .skip)))) (.reg [oA 147 (.bin .add (.r 135) (kI 1)), oA 135 (kM 147)]))))))) (.seq (.reg [oA 4 (.mov (kB true))]) .ret)))))))⟩
theorem c32 : cfunc Tryd.prog 32 = some ir32 := by kernel_rfl
theorem k32 : okIR (max 2 ir32.n) ir32.ir = true := by decide +kernel
theorem s_bSame (b : Bas) (hb : b.ok) (n1 : b.nms.cs.length ≤ 100000) (n2 : b.nms.rs.length ≤ 100000) (n3 : b.nms.is.length ≤ 100000) (l1 : b.incls.length ≤ 100000) (l2 : b.roles.length ≤ 100000) (l3 : b.facts.length ≤ 100000) (l4 : b.links.length ≤ 100000) (j : JH) : JC Tryd.prog G 32 [.agg b.enc, .agg b.enc] j (RET (BOO true) j) := by
  refine JC.run hmix c32 (by exact k32) ?_
  (try simp only[↓jr,jw,seval,ji,ext_ext,pid_pid,ir32])
  refine JCs.ret (s_nSame b.nms n1 n2 n3 _) ?_
  (try simp only[↓jr,jw,seval,ji,ext_ext,pid_pid])
  refine JLOOP.of (σ := Nat) (fun k => k ≤ b.incls.length) (fun k => b.incls.length - k) (fun k => [(58, I64 k), (57, I64 b.incls.length), (56, .sl .none b.incls.length (encs Inc.enc b.incls)), (2, .ptr (pid j.next 0) 0), (3, .ptr (pid j.next 1) 0)]) (fun k => ext j [.cells 66 b.enc, .cells 66 b.enc]) 0 (Nat.zero_le _) ?_ (JDropH.refl _) ?_
  · (try simp only[↓jr,jw,seval,ji,ext_ext,pid_pid,DL])
    exact ⟨SubB.v, SubB.v, SubB.sl rfl (SubBs.pure (encs_pur inc_pur _)), SubB.ptr (by unfold pid; omega), SubB.ptr (by unfold pid; omega)⟩
  intro k hk
  (try simp only[↓jr,jw,seval,ji,ext_ext,pid_pid])
  refine wq.intro (fun q1 => ?_) (fun q1 => ?_)
  · have hlt : k < (b.incls).length := by omega
    obtain ⟨x, u, hd⟩ : ∃ c_ l_, List.drop k (b.incls) = c_ :: l_ := ⟨_, _, List.drop_eq_getElem_cons hlt⟩
    have hd1 : List.drop (k + 1) (b.incls) = u := by rw [← List.drop_drop, hd]; rfl
    have hmem : x ∈ b.incls := List.mem_of_mem_drop (hd ▸ List.mem_cons_self)
    (try simp only[↓jr,jw,seval,ji,ext_ext,pid_pid,hd])
    refine wc.intro (by omega) ?_
    (try simp only[↓jr,jw,seval,ji,ext_ext,pid_pid,hd])
    have i1 : ∀ cs : List AV, icut (some 3) (x.enc ++ cs) 0 = some (.agg x.sub.enc) := fun cs => by
      unfold Inc.enc; rw [List.append_assoc]; exact d_con1
    have i2 : ∀ cs : List AV, icut (some 3) (x.enc ++ cs) 3 = some (.agg x.sup.enc) := fun cs => by
      unfold Inc.enc; rw [List.append_assoc]
      have := icut_at (row := some 3) (cs := x.sup.enc ++ cs) (k := 0) (Con.len x.sub)
      rw [this]; exact d_con1
    refine wc.intro (by omega) ?_
    (try simp only[↓jr,jw,seval,ji,ext_ext,pid_pid,hd,i1,i2])
    refine JDC.use (s_rSame1 x.sub (hb.incls x hmem).1 _) ?_
    (try simp only[↓jr,jw,seval,ji,ext_ext,pid_pid,hd,i1,i2])
    refine wc.intro (by omega) ?_
    (try simp only[↓jr,jw,seval,ji,ext_ext,pid_pid,hd,i1,i2])
    refine JDC.use (s_rSame1 x.sup (hb.incls x hmem).2 _) ?_
    (try simp only[↓jr,jw,seval,ji,ext_ext,pid_pid])
    refine JDRAW.oc (by (try simp only[↓jr,jw,seval,ji,ext_ext,pid_pid,jq,qe2,qe3,ext_next,ext_tnext,pushTok_next,List.length_cons,List.length_nil]) <;> (repeat' (first | exact trivial | refine And.intro ?_ ?_ | exact Nat.le_refl _ | (refine pr_extp ⟨_, rfl⟩ (some_lt ?_)) | (refine pr_extp ⟨_, rfl⟩ (fun _ q => by cases q)) | omega | (unfold pid; omega) | (simp only [pushTok_next, List.length_cons, List.length_nil]; unfold pid; omega)))) ?_; (try simp only[↓jr,jw,seval,ji,ext_ext,pid_pid])
    refine wc.intro (by unfold R64; omega) ?_
    (try simp only[↓jr,jw,seval,ji,ext_ext,pid_pid])
    refine JNEXT.of (k + 1) (by omega) (by omega) ?_ JDropH.nx
    (try simp only[↓jr,jw,seval,ji,ext_ext,pid_pid,DL])
    exact ⟨SubB.v, SubB.v, SubB.sl rfl (SubBs.pure (encs_pur inc_pur _)), SubB.ptr (by unfold pid; omega), SubB.ptr (by unfold pid; omega)⟩
  have ek : k = b.incls.length := by omega
  subst ek
  (try simp only[↓jr,jw,seval,ji,ext_ext,pid_pid])
  clear q1 hk
  refine JLOOP.of (σ := Nat) (fun k => k ≤ b.roles.length) (fun k => b.roles.length - k) (fun k => [(89, I64 k), (88, I64 b.roles.length), (87, .sl .none b.roles.length (encs RIn.enc b.roles)), (2, .ptr (pid j.next 0) 0), (3, .ptr (pid j.next 1) 0)]) (fun k => ext j [.cells 66 b.enc, .cells 66 b.enc]) 0 (Nat.zero_le _) ?_ (JDropH.refl _) ?_
  · (try simp only[↓jr,jw,seval,ji,ext_ext,pid_pid,DL])
    exact ⟨SubB.v, SubB.v, SubB.sl rfl (SubBs.pure (encs_pur (fun _ => rfl) _)), SubB.ptr (by unfold pid; omega), SubB.ptr (by unfold pid; omega)⟩
  intro k hk
  (try simp only[↓jr,jw,seval,ji,ext_ext,pid_pid])
  refine wq.intro (fun q1 => ?_) (fun q1 => ?_)
  · have hlt : k < (b.roles).length := by omega
    obtain ⟨x, u, hd⟩ : ∃ c_ l_, List.drop k (b.roles) = c_ :: l_ := ⟨_, _, List.drop_eq_getElem_cons hlt⟩
    have hd1 : List.drop (k + 1) (b.roles) = u := by rw [← List.drop_drop, hd]; rfl
    have hmem : x ∈ b.roles := List.mem_of_mem_drop (hd ▸ List.mem_cons_self)
    (try simp only[↓jr,jw,seval,ji,ext_ext,pid_pid,hd])
    refine wc.intro (by omega) ?_
    (try simp only[↓jr,jw,seval,ji,ext_ext,pid_pid,hd])
    refine wc.intro (by omega) ?_
    (try simp only[↓jr,jw,seval,ji,ext_ext,pid_pid,hd])
    refine JDGEN.same (us := [x.sub, x.sup]) rfl (by kernel_rfl) (by rfl) (by rfl) ?_
    (try simp only[↓jr,jw,seval,ji,ext_ext,pid_pid])
    refine JDRAW.oc (by (try simp only[↓jr,jw,seval,ji,ext_ext,pid_pid,jq,qe2,qe3,ext_next,ext_tnext,pushTok_next,List.length_cons,List.length_nil]) <;> (repeat' (first | exact trivial | refine And.intro ?_ ?_ | exact Nat.le_refl _ | (refine pr_extp ⟨_, rfl⟩ (some_lt ?_)) | (refine pr_extp ⟨_, rfl⟩ (fun _ q => by cases q)) | omega | (unfold pid; omega) | (simp only [pushTok_next, List.length_cons, List.length_nil]; unfold pid; omega)))) ?_; (try simp only[↓jr,jw,seval,ji,ext_ext,pid_pid])
    refine wc.intro (by unfold R64; omega) ?_
    (try simp only[↓jr,jw,seval,ji,ext_ext,pid_pid])
    refine JNEXT.of (k + 1) (by omega) (by omega) ?_ JDropH.nx
    (try simp only[↓jr,jw,seval,ji,ext_ext,pid_pid,DL])
    exact ⟨SubB.v, SubB.v, SubB.sl rfl (SubBs.pure (encs_pur (fun _ => rfl) _)), SubB.ptr (by unfold pid; omega), SubB.ptr (by unfold pid; omega)⟩
  have ek : k = b.roles.length := by omega
  subst ek
  (try simp only[↓jr,jw,seval,ji,ext_ext,pid_pid])
  clear q1 hk
  refine JLOOP.of (σ := Nat) (fun k => k ≤ b.facts.length) (fun k => b.facts.length - k) (fun k => [(105, I64 k), (104, I64 b.facts.length), (103, .sl .none b.facts.length (encs Fac.enc b.facts)), (2, .ptr (pid j.next 0) 0), (3, .ptr (pid j.next 1) 0)]) (fun k => ext j [.cells 66 b.enc, .cells 66 b.enc]) 0 (Nat.zero_le _) ?_ (JDropH.refl _) ?_
  · (try simp only[↓jr,jw,seval,ji,ext_ext,pid_pid,DL])
    exact ⟨SubB.v, SubB.v, SubB.sl rfl (SubBs.pure (encs_pur fac_pur _)), SubB.ptr (by unfold pid; omega), SubB.ptr (by unfold pid; omega)⟩
  intro k hk
  (try simp only[↓jr,jw,seval,ji,ext_ext,pid_pid])
  refine wq.intro (fun q1 => ?_) (fun q1 => ?_)
  · have hlt : k < (b.facts).length := by omega
    obtain ⟨x, u, hd⟩ : ∃ c_ l_, List.drop k (b.facts) = c_ :: l_ := ⟨_, _, List.drop_eq_getElem_cons hlt⟩
    have hd1 : List.drop (k + 1) (b.facts) = u := by rw [← List.drop_drop, hd]; rfl
    have hmem : x ∈ b.facts := List.mem_of_mem_drop (hd ▸ List.mem_cons_self)
    (try simp only[↓jr,jw,seval,ji,ext_ext,pid_pid,hd])
    refine wc.intro (by omega) ?_
    (try simp only[↓jr,jw,seval,ji,ext_ext,pid_pid,hd])
    have i1 : ∀ cs : List AV, icut none (x.enc ++ cs) 0 = some (I64 x.ind) := fun cs => rfl
    have i2 : ∀ cs : List AV, icut (some 3) (x.enc ++ cs) 1 = some (.agg x.con.enc) := fun cs => by
      have := icut_at (row := some 3) (xs := [I64 x.ind]) (cs := x.con.enc ++ cs) (k := 0) (n := 1) rfl
      exact this.trans d_con1
    refine wc.intro (by omega) ?_
    (try simp only[↓jr,jw,seval,ji,ext_ext,pid_pid,hd,i1,i2])
    refine wc.intro (by omega) ?_
    (try simp only[↓jr,jw,seval,ji,ext_ext,pid_pid,hd,i1,i2])
    refine JDC.use (s_rSame1 x.con (hb.facts x hmem).2 _) ?_
    (try simp only[↓jr,jw,seval,ji,ext_ext,pid_pid])
    refine JDRAW.oc (by (try simp only[↓jr,jw,seval,ji,ext_ext,pid_pid,jq,qe2,qe3,ext_next,ext_tnext,pushTok_next,List.length_cons,List.length_nil]) <;> (repeat' (first | exact trivial | refine And.intro ?_ ?_ | exact Nat.le_refl _ | (refine pr_extp ⟨_, rfl⟩ (some_lt ?_)) | (refine pr_extp ⟨_, rfl⟩ (fun _ q => by cases q)) | omega | (unfold pid; omega) | (simp only [pushTok_next, List.length_cons, List.length_nil]; unfold pid; omega)))) ?_; (try simp only[↓jr,jw,seval,ji,ext_ext,pid_pid])
    refine wc.intro (by unfold R64; omega) ?_
    (try simp only[↓jr,jw,seval,ji,ext_ext,pid_pid])
    refine JNEXT.of (k + 1) (by omega) (by omega) ?_ JDropH.nx
    (try simp only[↓jr,jw,seval,ji,ext_ext,pid_pid,DL])
    exact ⟨SubB.v, SubB.v, SubB.sl rfl (SubBs.pure (encs_pur fac_pur _)), SubB.ptr (by unfold pid; omega), SubB.ptr (by unfold pid; omega)⟩
  have ek : k = b.facts.length := by omega
  subst ek
  (try simp only[↓jr,jw,seval,ji,ext_ext,pid_pid])
  clear q1 hk
  refine JLOOP.of (σ := Nat) (fun k => k ≤ b.links.length) (fun k => b.links.length - k) (fun k => [(135, I64 k), (134, I64 b.links.length), (133, .sl .none b.links.length (encs Lnk.enc b.links)), (2, .ptr (pid j.next 0) 0), (3, .ptr (pid j.next 1) 0)]) (fun k => ext j [.cells 66 b.enc, .cells 66 b.enc]) 0 (Nat.zero_le _) ?_ (JDropH.refl _) ?_
  · (try simp only[↓jr,jw,seval,ji,ext_ext,pid_pid,DL])
    exact ⟨SubB.v, SubB.v, SubB.sl rfl (SubBs.pure (encs_pur (fun _ => rfl) _)), SubB.ptr (by unfold pid; omega), SubB.ptr (by unfold pid; omega)⟩
  intro k hk
  (try simp only[↓jr,jw,seval,ji,ext_ext,pid_pid])
  refine wq.intro (fun q1 => ?_) (fun q1 => ?_)
  · have hlt : k < (b.links).length := by omega
    obtain ⟨x, u, hd⟩ : ∃ c_ l_, List.drop k (b.links) = c_ :: l_ := ⟨_, _, List.drop_eq_getElem_cons hlt⟩
    have hd1 : List.drop (k + 1) (b.links) = u := by rw [← List.drop_drop, hd]; rfl
    have hmem : x ∈ b.links := List.mem_of_mem_drop (hd ▸ List.mem_cons_self)
    (try simp only[↓jr,jw,seval,ji,ext_ext,pid_pid,hd])
    refine wc.intro (by omega) ?_
    (try simp only[↓jr,jw,seval,ji,ext_ext,pid_pid,hd])
    refine wc.intro (by omega) ?_
    (try simp only[↓jr,jw,seval,ji,ext_ext,pid_pid,hd])
    refine JDGEN.same (us := [x.role, x.fr, x.to]) rfl (by kernel_rfl) (by rfl) (by rfl) ?_
    (try simp only[↓jr,jw,seval,ji,ext_ext,pid_pid])
    refine JDRAW.oc (by (try simp only[↓jr,jw,seval,ji,ext_ext,pid_pid,jq,qe2,qe3,ext_next,ext_tnext,pushTok_next,List.length_cons,List.length_nil]) <;> (repeat' (first | exact trivial | refine And.intro ?_ ?_ | exact Nat.le_refl _ | (refine pr_extp ⟨_, rfl⟩ (some_lt ?_)) | (refine pr_extp ⟨_, rfl⟩ (fun _ q => by cases q)) | omega | (unfold pid; omega) | (simp only [pushTok_next, List.length_cons, List.length_nil]; unfold pid; omega)))) ?_; (try simp only[↓jr,jw,seval,ji,ext_ext,pid_pid])
    refine wc.intro (by unfold R64; omega) ?_
    (try simp only[↓jr,jw,seval,ji,ext_ext,pid_pid])
    refine JNEXT.of (k + 1) (by omega) (by omega) ?_ JDropH.nx
    (try simp only[↓jr,jw,seval,ji,ext_ext,pid_pid,DL])
    exact ⟨SubB.v, SubB.v, SubB.sl rfl (SubBs.pure (encs_pur (fun _ => rfl) _)), SubB.ptr (by unfold pid; omega), SubB.ptr (by unfold pid; omega)⟩
  have ek : k = b.links.length := by omega
  subst ek
  (try simp only[↓jr,jw,seval,ji,ext_ext,pid_pid])
  clear q1 hk
  refine JFIN.rb ?_
  exact SubB.v
end
end Go.Proofs.YtnkkeenclhncmaaDoor.Pg
