/-
  What the statement about forms asks and compares.
-/
import Derived.Test.YtnkkeenclhncmaaDoorIp
set_option linter.unusedVariables false
set_option linter.unusedSimpArgs false
set_option maxRecDepth 100000
set_option maxHeartbeats 8000000
namespace Go.Proofs.YtnkkeenclhncmaaDoor.Pg
open Go
section
variable {m : GM} {G : Nat → Option (List AV)}
theorem s_SamePairsI (l r : List (Int × Int)) (t1 t2 : Tok) (h1 : l.length ≤ 4000000000) (h2 : r.length ≤ 4000000000) (j : JH) : JC Tryd.prog G 14 [.sl t1 l.length (encs PR l), .sl t2 r.length (encs PR r)] j (RET (BOO (decide (l = r))) j) := by
  refine JC.run hmix c14 (by exact k14) ?_
  (try simp only[↓jr,jw,seval,ji,ir14])
  refine wq.intro (fun q => ?_) (fun q => ?_)
  · (try simp only[↓jr,jw,seval,ji])
    refine JLOOP.of (σ := Nat) (fun k => k ≤ l.length ∧ decide (l.drop k = r.drop k) = decide (l = r)) (fun k => l.length - k) (fun k => [(13, I64 k), (12, I64 l.length), (0, .sl .none l.length (encs PR l)), (1, .sl .none r.length (encs PR r))]) (fun k => ext j []) 0 ⟨by omega, rfl⟩ ?_ (JDropH.refl _) ?_
    · (try simp only[↓jr,jw,seval,ji,DL])
      exact ⟨SubB.v, SubB.v, SubB.sl rfl (SubBs.pure (PR.pur _)), SubB.sl rfl (SubBs.pure (PR.pur _))⟩
    rintro k ⟨hk, hI⟩
    (try simp only[↓jr,jw,seval,ji])
    refine wq.intro (fun q1 => ?_) (fun q1 => ?_)
    · have hlt : k < (l).length := by omega
      obtain ⟨x, u, hd⟩ : ∃ c_ l_, List.drop k (l) = c_ :: l_ := ⟨_, _, List.drop_eq_getElem_cons hlt⟩
      have hd1 : List.drop (k + 1) (l) = u := by rw [← List.drop_drop, hd]; rfl
      have hmem : x ∈ l := List.mem_of_mem_drop (hd ▸ List.mem_cons_self)
      obtain ⟨y, v, hr⟩ : ∃ y v, r.drop k = y :: v := ⟨_, _, List.drop_eq_getElem_cons (by omega)⟩
      have hr1 : r.drop (k + 1) = v := by rw [← List.drop_drop, hr]; rfl
      rw [hd, hr] at hI
      (try simp only[↓jr,jw,seval,ji,hd,hr])
      refine wc.intro (by omega) ?_
      (try simp only[↓jr,jw,seval,ji,hd,hr])
      refine wc.intro (by omega) ?_
      (try simp only[↓jr,jw,seval,ji,hd,hr])
      refine JDRAW.oc (by (try simp only[↓jr,jw,seval,ji,jq]) <;> exact orq) ?_; (try simp only[↓jr,jw,seval,ji])
      have exy : ((x.1 == y.1) && (x.2 == y.2)) = decide (x = y) := by
        obtain ⟨a, b⟩ := x
        obtain ⟨c, d⟩ := y
        rw [Bool.eq_iff_iff]
        simp
      rw [exy]
      refine ww.intro (fun q2 => ?_) (fun q2 => ?_)
      · (try simp only[↓jr,jw,seval,ji])
        have q2' : x = y := of_decide_eq_true q2
        subst q2'
        refine wc.intro (by unfold R64; omega) ?_
        (try simp only[↓jr,jw,seval,ji])
        refine JNEXT.of (k + 1) ⟨by omega, by rw [hd1, hr1, ← hI]; simp⟩ (by omega) ?_ JDropH.nx
        (try simp only[↓jr,jw,seval,ji,DL])
        exact ⟨SubB.v, SubB.v, SubB.sl rfl (SubBs.pure (PR.pur _)), SubB.sl rfl (SubBs.pure (PR.pur _))⟩
      · (try simp only[↓jr,jw,seval,ji])
        refine JFIN.rb ?_
        have q3 : ¬ x = y := of_decide_eq_false q2
        have e : decide (l = r) = false := by rw [← hI]; apply decide_eq_false; intro q4; injection q4 with q5 q6; exact q3 q5
        rw [e]; exact SubB.v
    · (try simp only[↓jr,jw,seval,ji])
      rw [List.drop_eq_nil_of_le (by omega), List.drop_eq_nil_of_le (by omega)] at hI
      refine JFIN.rb ?_
      rw [← hI]; exact SubB.v
  · (try simp only[↓jr,jw,seval,ji])
    refine JFIN.rb ?_
    rw [decide_eq_false (fun e => q (by rw [e]))]; exact SubB.v
def ir3 : IFn := ⟨55, [⟨6, none⟩], (.seq (.reg [oA 3 (.box 24 (.r 0)), oA 4 (.box 29 (.r 1)), oA 6 (.mov (kB false))]) (.seq (.seq (.reg [oL 11 3 (some 3), oL 12 4 (some 4), oA 13 (.call 7 [.r 11, .r 12, .k (.sl .nil 0 [])]), oA 14 (.not (.r 13))]) (.cond (.r 14) (.seq (.reg [oA 15 (.call 8 []), oA 6 (kM 15)]) .ret) .skip)) (.seq (.reg [oL 17 3 (some 3), oL 18 4 (some 4), oA 19 (kM 2), oA 20 (.call 9 [.r 17, .r 18, .r 19]), oA 16 (kM 20), oA 21 (.ext (.r 16) 0), oA 22 (.ext (.r 16) 1), oA 7 (kM 21), oA 8 (kM 22)]) (.seq (.reg [oA 9 (.mov (.k (.sl .nil 0 [])))]) (.seq (.reg [oL 23 3 (some 3), oL 24 4 (some 4), oA 25 (.call 10 [.r 23, .r 24, .k (.sl .nil 0 [])]), oA 10 (kM 25)]) (.seq (.seq (.reg [oL 26 3 (some 3), oL 27 4 (some 4), oA 28 (.call 11 [.r 26, .r 27]), oA 29 (kM 10), oA 30 (.bin .neq (.r 28) (.r 29))]) (.cond (.r 30) (.seq (.reg [oA 6 (.mov (kB false))]) .ret) .skip)) (.seq (.seq (.reg [oA 31 (kM 10), oA 32 (.bin .eql (.r 31) (kI 0)), oA 33 (kM 32), ⟨(some 34), (some ((33, true))), (some (.r 3)), (.load (some 3) (.r 3))⟩, ⟨(some 35), (some ((33, true))), none, (kM 2)⟩, ⟨(some 36), (some ((33, true))), none, (.call 12 [.r 34, .r 35])⟩, ⟨(some 37), (some ((33, true))), none, (.not (.r 36))⟩, oA 38 (.pick (.r 33) (.r 37) (kB false))]) (.cond (.r 38) (.reg [oA 10 (.mov (kI 1))]) (.seq (.reg [oA 39 (kM 10), oA 40 (.bin .eql (.r 39) (kI 0))]) (.cond (.r 40) (.reg [oL 41 4 (some 4), oA 42 (kM 2), oA 43 (.call 13 [.r 41, .r 42]), oA 9 (kM 43)]) .skip)))) (.seq (.reg [oA 44 (kM 8), oA 45 (kM 10), oA 46 (.bin .eql (.r 44) (.r 45)), oA 47 (kM 46), ⟨(some 48), (some ((47, true))), none, (kM 7)⟩, ⟨(some 49), (some ((47, true))), none, (kM 9)⟩, ⟨(some 50), (some ((47, true))), none, (.call 14 [.r 48, .r 49])⟩, oA 51 (.pick (.r 47) (.r 50) (kB false)), oA 52 (kM 51), ⟨(some 53), (some ((52, true))), none, (.call 8 [])⟩, oA 54 (.pick (.r 52) (.r 53) (kB false)), oA 6 (kM 54)]) .ret))))))))⟩
theorem c3 : cfunc Tryd.prog 3 = some ir3 := by kernel_rfl
theorem k3 : okIR (max 3 ir3.n) ir3.ir = true := by decide +kernel
end
end Go.Proofs.YtnkkeenclhncmaaDoor.Pg
