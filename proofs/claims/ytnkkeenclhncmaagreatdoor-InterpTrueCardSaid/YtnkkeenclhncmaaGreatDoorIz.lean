/-
  The statement about truth.
-/
import Derived.Test.YtnkkeenclhncmaaGreatDoorIy
set_option linter.unusedVariables false
set_option linter.unusedSimpArgs false
set_option maxRecDepth 100000
set_option maxHeartbeats 8000000
namespace Go.Proofs.YtnkkeenclhncmaaGreatDoor.Pg
open Go
section
variable {m : GM} {G : Nat → Option (List AV)}
def ir18 : IFn := ⟨23, [⟨4, none⟩], (.seq (.reg [oA 2 (.box 30 (.r 0)), oA 3 (.box 38 (.r 1)), oA 4 (.mov (.k (.sl .nil 0 [])))]) (.seq (.reg [oA 5 (.mov (.k (.sl .nil 0 [])))]) (.seq (.seq (.reg [oL 7 2 (some 7), oT 8 7 (.call 19 [.r 7]), oA 9 (.mov (kI 0))]) (.block 0 (.loop (.seq (.reg [oA 10 (.bin .lss (.r 9) (.r 8))]) (.seq (.cond (.r 10) .skip (.exit 0)) (.seq (.block 1 (.seq (.reg [oA 11 (kM 9), oA 6 (kM 11)]) (.seq (.reg [oL 12 2 (some 7), oL 13 3 (some 4), oA 14 (kM 6), oA 15 (.call 41 [.r 12, .r 13, .r 14]), oA 16 (.not (.r 15))]) (.cond (.r 16) (.reg [oA 17 (kM 5), oA 18 (kM 6), oA 19 (.bsl 1 1 [.v (.int .i64 0)] [(0, (1, .r 18))]), oA 20 (.app 1 8 (.r 17) (.r 19)), oA 5 (kM 20)]) .skip)))) (.reg [oA 21 (.bin .add (.r 9) (kI 1)), oA 9 (kM 21)]))))))) (.seq (.reg [oA 22 (kM 5), oA 4 (kM 22)]) .ret))))⟩
theorem c18 : cfunc Tryz.prog 18 = some ir18 := by kernel_rfl
theorem k18 : okIR (max 2 ir18.n) ir18.ir = true := by decide +kernel
theorem s_rWrong (b : Bas) (hb : b.ok) (h1 : basV b = true) (i : Itp) (hok : i.ok) (h2 : itpOK b.nms i = true) (j : JH) : JC Tryz.prog (GG m) 18 [.agg b.enc, .agg i.enc] j (RET (.sl .none (wrongL b i).length (ints (wrongL b i))) j) := by
  have hE : modE b i = 0 := by unfold modE; rw [h1, h2]; rfl
  have hW : wrongL b i = bitsL (fun k => !trueI b i k) b.count := if_pos hE
  have hcnt := (basV_iff h1).c
  rw [hW]
  refine JC.run hmix c18 (by exact k18) ?_
  (try simp only[↓jr,jw,seval,ji,ext_ext,pid_pid,ir18])
  refine JCs.ret (s_Axioms b hb _) ?_
  (try simp only[↓jr,jw,seval,ji,ext_ext,pid_pid])
  refine JLOOP.of (σ := Nat × Tok × JH) (fun x => x.1 ≤ b.count ∧ TokExt j x.2.2 ∧ CanApp j x.2.2 x.2.1 1 (bitsL (fun k => !trueI b i k) x.1).length) (fun x => b.count - x.1)
    (fun x => [(9, I64 x.1), (8, I64 b.count), (5, .sl x.2.1 (bitsL (fun k => !trueI b i k) x.1).length (ints (bitsL (fun k => !trueI b i k) x.1))), (2, .ptr (pid j.next 0) 0), (3, .ptr (pid j.next 1) 0)]) (fun x => ext x.2.2 [.cells 30 b.enc, .cells 38 i.enc]) (0, .nil, j) ⟨Nat.zero_le _, TokExt.refl _, CanApp.nil⟩ ?_ (JDropH.refl _) ?_
  · (try simp only[↓jr,jw,seval,ji,ext_ext,pid_pid,DL])
    exact ⟨SubB.v, SubB.v, SubB.pure rfl, SubB.ptr (by unfold pid; omega), SubB.ptr (by unfold pid; omega)⟩
  rintro ⟨k, tk, jx⟩ ⟨hkk, ht, hc⟩
  simp only at hkk ht hc
  have hnx := ht.next
  (try simp only[↓jr,jw,seval,ji,ext_ext,pid_pid,ht.next])
  refine wq.intro (fun g1 => ?_) (fun g1 => ?_)
  · have hlt : k < b.count := by omega
    have hbl := @bitsL_len (fun k => !trueI b i k) k
    (try simp only[↓jr,jw,seval,ji,ext_ext,pid_pid,ht.next])
    refine JCs.ret (s_rTrue b hb h1 i hok h2 k hlt _) ?_
    (try simp only[↓jr,jw,seval,ji,ext_ext,pid_pid,ht.next])
    refine ww.intro (fun g2 => ?_) (fun g2 => ?_)
    · (try simp only[↓jr,jw,seval,ji,ext_ext,pid_pid,ht.next])
      refine wc.intro (by unfold R64; omega) ?_
      (try simp only[↓jr,jw,seval,ji,ext_ext,pid_pid,ht.next])
      have e1 : bitsL (fun k => !trueI b i k) (k + 1) = bitsL (fun k => !trueI b i k) k := by rw [bitsL_succ, g2]; simp
      refine JNEXT.of (k + 1, tk, jx) ⟨by simp only; omega, ht, by simp only [e1]; exact hc⟩ (by simp only; omega) ?_ (JDropH.nextT ht ht (TokExt.refl _) (Nat.le_refl _) ⟨.inl ⟨rfl, rfl⟩, .inl ⟨rfl, rfl⟩, True.intro⟩)
      (try simp only[↓jr,jw,seval,ji,ext_ext,pid_pid,DL,e1,ht.next])
      exact ⟨SubB.v, SubB.v, SubB.can hc (ints_pur _), SubB.ptr (by unfold pid; omega), SubB.ptr (by unfold pid; omega)⟩
    · (try simp only[↓jr,jw,seval,ji,ext_ext,pid_pid,ht.next])
      refine JAPP.can' hc.push (ht.push 1) (by simp [d_len6]) rfl rfl (by omega) (by omega) ?_
      intro tok1 j1 hcan ht3 hle
      have hle' : jx.tnext ≤ j1.tnext := Nat.le_trans (Nat.le_succ _) hle
      (try simp only[↓jr,jw,seval,ji,ext_ext,pid_pid,ht3.next])
      refine wc.intro (by unfold R64; omega) ?_
      (try simp only[↓jr,jw,seval,ji,ext_ext,pid_pid,ht3.next])
      have e1 : bitsL (fun k => !trueI b i k) (k + 1) = bitsL (fun k => !trueI b i k) k ++ [(k : Int)] := by rw [bitsL_succ, g2]; rfl
      have e2 : (bitsL (fun k => !trueI b i k) (k + 1)).length = (bitsL (fun k => !trueI b i k) k).length + 1 := by rw [e1]; simp
      have e3 : ints (bitsL (fun k => !trueI b i k) k) ++ [I64 (k : Int)] = ints (bitsL (fun k => !trueI b i k) (k + 1)) := by rw [e1]; simp [ints]
      refine JNEXT.of (k + 1, tok1, j1) ⟨by simp only; omega, ht3, by simp only [e2]; exact hcan⟩ (by simp only; omega) ?_ (JDropH.nextT ht ht3 (TokExt.refl _) hle' ⟨.inl ⟨rfl, rfl⟩, .inl ⟨rfl, rfl⟩, True.intro⟩)
      (try simp only[↓jr,jw,seval,ji,ext_ext,pid_pid,DL,e2,ht3.next])
      rw [← e3]
      exact ⟨SubB.v, SubB.v, SubB.can hcan (by rw [pures_append, ints_pur]; rfl), SubB.ptr (by unfold pid; omega), SubB.ptr (by unfold pid; omega)⟩
  · (try simp only[↓jr,jw,seval,ji,ext_ext,pid_pid,ht.next])
    have ek : k = b.count := by omega
    subst ek
    exact JFIN.ret (JDropH.back ht).of_ext (SubB.sl rfl (SubBs.pure (ints_pur _)))
theorem few_basOK {b : Bas} (h : fewB 400 b = true) : b.few := by
  refine few_of fun c hc => ?_
  unfold fewB at h
  simp only [Bool.and_eq_true, List.all_eq_true, decide_eq_true_eq] at h
  have h1 := h.2
  have h2 := sumN_mem hc
  omega
theorem wrong_mem {b : Bas} {i : Itp} (h : modE b i = 0) {u : Nat} (hu : u < b.count) : decide ((u : Int) ∈ wrongL b i) = !trueI b i u := by
  rw [show wrongL b i = bitsL (fun k => !trueI b i k) b.count from if_pos h, Bool.eq_iff_iff, decide_eq_true_eq]
  unfold bitsL
  rw [List.mem_map]
  constructor
  · rintro ⟨y, hy, e⟩
    obtain rfl : y = u := by omega
    exact (List.mem_filter.1 hy).2
  · intro h2
    exact ⟨u, List.mem_filter.2 ⟨List.mem_range.2 hu, h2⟩, rfl⟩
def ir4 : IFn := ⟨126, [⟨6, none⟩], (.seq (.reg [oA 3 (.box 30 (.r 0)), oA 4 (.box 38 (.r 1)), oA 6 (.mov (kB false))]) (.seq (.seq (.reg [oL 15 3 (some 7), oA 16 (.call 5 [.r 15, .k (.v (.int .i64 400))]), oA 17 (.not (.r 16)), oA 18 (kM 17), ⟨(some 19), (some ((18, false))), none, (.fadr 0 (.r 3))⟩, ⟨(some 20), (some ((18, false))), (some (.r 19)), (.load (some 3) (.r 19))⟩, ⟨(some 21), (some ((18, false))), (some (.r 4)), (.load (some 4) (.r 4))⟩, ⟨(some 22), (some ((18, false))), none, (.call 6 [.r 20, .r 21, .k (.sl .nil 0 [])])⟩, ⟨(some 23), (some ((18, false))), none, (.not (.r 22))⟩, oA 24 (.pick (.r 18) (kB true) (.r 23))]) (.cond (.r 24) (.seq (.reg [oA 25 (.call 9 []), oA 6 (kM 25)]) .ret) .skip)) (.seq (.reg [oL 27 3 (some 7), oL 28 4 (some 4), oA 29 (kM 2), oA 30 (.call 15 [.r 27, .r 28, .r 29]), oA 26 (kM 30), oA 31 (.ext (.r 26) 0), oA 32 (.ext (.r 26) 1), oA 7 (kM 31), oA 8 (kM 32)]) (.seq (.reg [oL 34 3 (some 7), oL 35 4 (some 4), oA 36 (.call 16 [.r 34, .r 35]), oA 33 (kM 36), oA 37 (.ext (.r 33) 0), oA 38 (.ext (.r 33) 1), oA 9 (kM 37), oA 10 (kM 38)]) (.seq (.reg [oL 40 3 (some 7), oL 41 4 (some 4), oA 42 (.call 11 [.r 40, .r 41]), oA 39 (kM 42), oA 43 (.ext (.r 39) 0), oA 44 (.ext (.r 39) 1), oA 11 (kM 43), oA 12 (kM 44)]) (.seq (.reg [oA 13 (.mov (kI 0))]) (.seq (.seq (.reg [oL 45 3 (some 7), oT 46 45 (.call 7 [.r 45]), oA 47 (.not (.r 46))]) (.cond (.r 47) (.reg [oA 13 (.mov (kI 20))]) (.seq (.reg [oA 48 (.fadr 0 (.r 3)), oL 49 48 (some 3), oL 50 4 (some 4), oA 51 (.call 17 [.r 49, .r 50]), oA 52 (.not (.r 51))]) (.cond (.r 52) (.reg [oA 13 (.mov (kI 30))]) .skip)))) (.seq (.seq (.reg [oA 53 (kM 10), oA 54 (kM 13), oA 55 (.bin .neq (.r 53) (.r 54)), oA 56 (kM 55), ⟨(some 57), (some ((56, false))), none, (kM 12)⟩, ⟨(some 58), (some ((56, false))), none, (kM 13)⟩, ⟨(some 59), (some ((56, false))), none, (.bin .neq (.r 57) (.r 58))⟩, oA 60 (.pick (.r 56) (kB true) (.r 59))]) (.cond (.r 60) (.seq (.reg [oA 6 (.mov (kB false))]) .ret) .skip)) (.seq (.seq (.reg [oA 61 (kM 13), oA 62 (.bin .neq (.r 61) (kI 0))]) (.cond (.r 62) (.seq (.reg [oA 63 (kM 8), oA 64 (kM 13), oA 65 (.bin .eql (.r 63) (.r 64)), oA 66 (kM 65), ⟨(some 67), (some ((66, true))), none, (kM 7)⟩, ⟨(some 68), (some ((66, true))), none, (.not (.r 67))⟩, oA 69 (.pick (.r 66) (.r 68) (kB false)), oA 70 (kM 69), ⟨(some 71), (some ((70, true))), none, (kM 9)⟩, ⟨(some 72), (some ((70, true))), none, (.not (.r 71))⟩, oA 73 (.pick (.r 70) (.r 72) (kB false)), oA 74 (kM 73), ⟨(some 75), (some ((74, true))), none, (kM 11)⟩, ⟨(some 76), (some ((74, true))), (some (.r 75)), (.lenl (.r 75))⟩, ⟨(some 77), (some ((74, true))), none, (.bin .eql (.r 76) (kI 0))⟩, oA 78 (.pick (.r 74) (.r 77) (kB false)), oA 79 (kM 78), ⟨(some 80), (some ((79, true))), none, (.call 9 [])⟩, oA 81 (.pick (.r 79) (.r 80) (kB false)), oA 6 (kM 81)]) .ret) .skip)) (.seq (.reg [oL 82 3 (some 7), oL 83 4 (some 4), oA 84 (.call 18 [.r 82, .r 83]), oA 14 (kM 84)]) (.seq (.seq (.reg [oA 85 (kM 9), oA 86 (kM 14), oT 87 86 (.lenl (.r 86)), oA 88 (.bin .eql (.r 87) (kI 0)), oA 89 (.beq true (.r 85) (.r 88)), oA 90 (kM 89), ⟨(some 91), (some ((90, false))), none, (kM 11)⟩, ⟨(some 92), (some ((90, false))), none, (kM 14)⟩, ⟨(some 93), (some ((90, false))), none, (.call 12 [.r 91, .r 92])⟩, ⟨(some 94), (some ((90, false))), none, (.not (.r 93))⟩, oA 95 (.pick (.r 90) (kB true) (.r 94))]) (.cond (.r 95) (.seq (.reg [oA 6 (.mov (kB false))]) .ret) .skip)) (.seq (.seq (.reg [oA 96 (kM 2), oA 97 (.bin .lss (.r 96) (kI 0)), oA 98 (kM 97), ⟨(some 99), (some ((98, false))), none, (kM 2)⟩, ⟨(some 100), (some ((98, false))), (some (.r 3)), (.load (some 7) (.r 3))⟩, ⟨(some 101), (some ((98, false))), (some (.r 100)), (.call 19 [.r 100])⟩, ⟨(some 102), (some ((98, false))), none, (.bin .geq (.r 99) (.r 101))⟩, oA 103 (.pick (.r 98) (kB true) (.r 102))]) (.cond (.r 103) (.seq (.reg [oA 104 (kM 8), oA 105 (.bin .eql (.r 104) (kI 1)), oA 106 (kM 105), ⟨(some 107), (some ((106, true))), none, (kM 7)⟩, ⟨(some 108), (some ((106, true))), none, (.not (.r 107))⟩, oA 109 (.pick (.r 106) (.r 108) (kB false)), oA 110 (kM 109), ⟨(some 111), (some ((110, true))), none, (.call 9 [])⟩, oA 112 (.pick (.r 110) (.r 111) (kB false)), oA 6 (kM 112)]) .ret) .skip)) (.seq (.reg [oA 113 (kM 8), oA 114 (.bin .eql (.r 113) (kI 0)), oA 115 (kM 114), ⟨(some 116), (some ((115, true))), none, (kM 7)⟩, ⟨(some 117), (some ((115, true))), none, (kM 14)⟩, ⟨(some 118), (some ((115, true))), none, (kM 2)⟩, ⟨(some 119), (some ((115, true))), none, (.call 20 [.r 117, .r 118])⟩, ⟨(some 120), (some ((115, true))), none, (.not (.r 119))⟩, ⟨(some 121), (some ((115, true))), none, (.beq false (.r 116) (.r 120))⟩, oA 122 (.pick (.r 115) (.r 121) (kB false)), oA 123 (kM 122), ⟨(some 124), (some ((123, true))), none, (.call 9 [])⟩, oA 125 (.pick (.r 123) (.r 124) (kB false)), oA 6 (kM 125)]) .ret)))))))))))))⟩
theorem c4 : cfunc Tryz.prog 4 = some ir4 := by kernel_rfl
theorem k4 : okIR (max 3 ir4.n) ir4.ir = true := by decide +kernel
theorem s_InterpTrue (aw : ∀ j : JH, JC Tryz.prog (GG m) 9 [] j (RET (BOO true) j)) (b : Bas) (hb : b.ok) (i : Itp) (hok : i.ok) (k : Int) (hk : R64 k) (j : JH) :
    JC Tryz.prog (GG m) 4 [.agg b.enc, .agg i.enc, I64 k] j (RET (BOO true) j) := by
  refine JC.run hmix c4 (by exact k4) ?_
  (try simp only[↓jr,jw,seval,ji,ext_ext,pid_pid,ir4])
  have e0 : ∀ j0 : JH, JC Tryz.prog (GG m) 6 [.agg b.nms.enc, .agg i.enc, .sl .nil 0 []] j0 (RET (BOO (fewI b.nms i [])) j0) := by
    intro j0
    have := s_ifew (m := m) b.nms hb.nms hb.short i hok [] .nil trivial (by simp) j0
    rwa [encs_nil] at this
  refine JCs.ret (s_Few b hb 400 (by decide) (by decide) _) ?_
  (try simp only[↓jr,jw,seval,ji,ext_ext,pid_pid])
  refine ww.intro (fun h0 => ?_) (fun h0 => by (try simp only[↓jr,jw,seval,ji,ext_ext,pid_pid]); refine JCs.ret (aw _) ?_; (try simp only[↓jr,jw,seval,ji,ext_ext,pid_pid]); refine JFIN.rb ?_; exact SubB.v)
  have hf := few_basOK h0
  (try simp only[↓jr,jw,seval,ji,ext_ext,pid_pid])
  refine JCs.ret (e0 _) ?_
  (try simp only[↓jr,jw,seval,ji,ext_ext,pid_pid])
  refine ww.intro (fun h1 => ?_) (fun h1 => by (try simp only[↓jr,jw,seval,ji,ext_ext,pid_pid]); refine JCs.ret (aw _) ?_; (try simp only[↓jr,jw,seval,ji,ext_ext,pid_pid]); refine JFIN.rb ?_; exact SubB.v)
  (try simp only[↓jr,jw,seval,ji,ext_ext,pid_pid])
  refine JCs.ret (s_True b hb hf i hok k _) ?_
  (try simp only[↓jr,jw,seval,ji,ext_ext,pid_pid])
  refine JCs.ret (s_Models b hb hf i hok _) ?_
  (try simp only[↓jr,jw,seval,ji,ext_ext,pid_pid])
  refine JCs.ret (s_Wrong b hb hf i hok _) ?_
  (try simp only[↓jr,jw,seval,ji,ext_ext,pid_pid])
  refine JCs.ret (s_kIs b hb _) ?_
  rw [basR_eq]
  (try simp only[↓jr,jw,seval,ji,ext_ext,pid_pid])
  refine ww.intro (fun h2 => ?_) (fun h2 => ?_)
  · (try simp only[↓jr,jw,seval,ji,ext_ext,pid_pid])
    refine JCs.ret (s_rIs b.nms hb.nms i hok _) ?_
    (try simp only[↓jr,jw,seval,ji,ext_ext,pid_pid])
    refine ww.intro (fun h3 => ?_) (fun h3 => ?_)
    · have hE : modE b i = 0 := by unfold modE; rw [h2, h3]; rfl
      have hcnt := (basV_iff h2).c
      have hW : wrongL b i = bitsL (fun k => !trueI b i k) b.count := if_pos hE
      have hWl : (wrongL b i).length ≤ 60 := by rw [hW]; have := @bitsL_len (fun k => !trueI b i k) b.count; omega
      have hl : decide (wrongL b i = []) = decide (((wrongL b i).length : Int) = 0) := decide_eq_decide.2 (by rw [← List.length_eq_zero_iff]; omega)
      rw [hE, hl]
      (try simp only[↓jr,jw,seval,ji,ext_ext,pid_pid])
      refine JCs.ret (s_rWrong b hb h2 i hok h3 _) ?_
      (try simp only[↓jr,jw,seval,ji,ext_ext,pid_pid,beq_self_eq_true,Bool.not_true])
      refine JCs.ret (s_SameIntsI (wrongL b i) (wrongL b i) _ _ (by omega) (by omega) _) ?_
      rw [decide_eq_true rfl]
      (try simp only[↓jr,jw,seval,ji,ext_ext,pid_pid])
      by_cases hin : 0 ≤ k ∧ k < b.count
      · obtain ⟨u, rfl⟩ : ∃ u : Nat, k = u := ⟨k.toNat, by omega⟩
        have hV : truV b i u = trueI b i u := by unfold truV; rw [decide_eq_true ⟨hE, by omega, by omega⟩, Bool.true_and, Int.toNat_natCast]
        have hT : truE b i u = 0 := by unfold truE; rw [if_pos hE, if_pos ⟨by omega, by omega⟩]
        rw [hV, hT]
        refine wq.intro (fun q => absurd q (by omega)) (fun _ => ?_)
        (try simp only[↓jr,jw,seval,ji,ext_ext,pid_pid])
        refine JCs.ret (s_Axioms b hb _) ?_
        (try simp only[↓jr,jw,seval,ji,ext_ext,pid_pid])
        refine wq.intro (fun q => absurd q (by omega)) (fun _ => ?_)
        (try simp only[↓jr,jw,seval,ji,ext_ext,pid_pid])
        refine JCs.ret (s_rHas (wrongL b i) (by omega) _ u _) ?_
        rw [wrong_mem hE (by omega)]
        (try simp only[↓jr,jw,seval,ji,ext_ext,pid_pid,Bool.not_not,beq_self_eq_true])
        refine JCs.ret (aw _) ?_
        (try simp only[↓jr,jw,seval,ji,ext_ext,pid_pid])
        refine JFIN.rb ?_
        exact SubB.v
      · have hV : truV b i k = false := by unfold truV; rw [decide_eq_false (fun q => hin q.2)]; rfl
        have hT : truE b i k = 1 := by unfold truE; rw [if_pos hE, if_neg hin]
        rw [hV, hT]
        refine wq.intro (fun g => ?_) (fun g => ?_)
        · (try simp only[↓jr,jw,seval,ji,ext_ext,pid_pid])
          refine JCs.ret (aw _) ?_
          (try simp only[↓jr,jw,seval,ji,ext_ext,pid_pid])
          refine JFIN.rb ?_
          exact SubB.v
        · (try simp only[↓jr,jw,seval,ji,ext_ext,pid_pid])
          refine JCs.ret (s_Axioms b hb _) ?_
          (try simp only[↓jr,jw,seval,ji,ext_ext,pid_pid])
          refine wq.intro (fun _ => ?_) (fun q => absurd q (by omega))
          (try simp only[↓jr,jw,seval,ji,ext_ext,pid_pid])
          refine JCs.ret (aw _) ?_
          (try simp only[↓jr,jw,seval,ji,ext_ext,pid_pid])
          refine JFIN.rb ?_
          exact SubB.v
    · have hE : modE b i = 30 := by unfold modE; rw [h2, h3]; rfl
      have hV : truV b i k = false := by unfold truV; rw [decide_eq_false (fun q => by have := q.1; omega)]; rfl
      have hT : truE b i k = 30 := by unfold truE; rw [if_neg (by omega), hE]
      have hW : wrongL b i = [] := if_neg (by omega)
      rw [hV, hT, hE, hW]
      (try simp only[↓jr,jw,seval,ji,ext_ext,pid_pid])
      refine JCs.ret (aw _) ?_
      (try simp only[↓jr,jw,seval,ji,ext_ext,pid_pid])
      refine JFIN.rb ?_
      exact SubB.v
  · have hE : modE b i = 20 := by unfold modE; rw [h2]; rfl
    have hV : truV b i k = false := by unfold truV; rw [decide_eq_false (fun q => by have := q.1; omega)]; rfl
    have hT : truE b i k = 20 := by unfold truE; rw [if_neg (by omega), hE]
    have hW : wrongL b i = [] := if_neg (by omega)
    rw [hV, hT, hE, hW]
    (try simp only[↓jr,jw,seval,ji,ext_ext,pid_pid])
    refine JCs.ret (aw _) ?_
    (try simp only[↓jr,jw,seval,ji,ext_ext,pid_pid])
    refine JFIN.rb ?_
    exact SubB.v
end
end Go.Proofs.YtnkkeenclhncmaaGreatDoor.Pg
