/-
  interp.Wrong, interp.Models, interp.True.
-/
import Derived.Test.YtnkkeenclhncmaaDoorIu
set_option linter.unusedVariables false
set_option linter.unusedSimpArgs false
set_option maxRecDepth 100000
set_option maxHeartbeats 8000000
namespace Go.Proofs.YtnkkeenclhncmaaDoor.Pg
open Go
def modE (b : Bas) (i : Itp) : Int := if basV b then (if itpOK b.nms i then 0 else 30) else 20
def wrongL (b : Bas) (i : Itp) : List Int := if modE b i = 0 then bitsL (fun k => !trueI b i k) b.count else []
theorem modE_zero {b : Bas} {i : Itp} (h : modE b i = 0) : basV b = true ∧ itpOK b.nms i = true := by
  unfold modE at h
  split at h
  · split at h
    · exact ⟨‹_›, ‹_›⟩
    · cases h
  · cases h
section
variable {m : GM} {G : Nat → Option (List AV)}
def ir29 : IFn := ⟨32, [⟨4, none⟩, ⟨5, none⟩], (.seq (.reg [oA 2 (.box 66 (.r 0)), oA 3 (.box 29 (.r 1)), oA 4 (.mov (.k (.sl .nil 0 []))), oA 5 (.mov (kI 0))]) (.seq (.seq (.reg [oL 8 2 (some 7), oT 9 8 (.call 54 [.r 8]), oA 10 (.not (.r 9))]) (.cond (.r 10) (.seq (.reg [oA 4 (.mov (.k (.sl .nil 0 []))), oA 5 (.mov (kI 20))]) .ret) .skip)) (.seq (.seq (.reg [oA 11 (.fadr 0 (.r 2)), oL 12 11 (some 3), oL 13 3 (some 4), oA 14 (.call 43 [.r 12, .r 13]), oA 15 (.not (.r 14))]) (.cond (.r 15) (.seq (.reg [oA 4 (.mov (.k (.sl .nil 0 []))), oA 5 (.mov (kI 30))]) .ret) .skip)) (.seq (.reg [oA 6 (.mov (.k (.sl .nil 0 [])))]) (.seq (.seq (.reg [oL 16 2 (some 7), oT 17 16 (.call 55 [.r 16]), oA 18 (.mov (kI 0))]) (.block 0 (.loop (.seq (.reg [oA 19 (.bin .lss (.r 18) (.r 17))]) (.seq (.cond (.r 19) .skip (.exit 0)) (.seq (.block 1 (.seq (.reg [oA 20 (kM 18), oA 7 (kM 20)]) (.seq (.reg [oL 21 2 (some 7), oL 22 3 (some 4), oA 23 (kM 7), oA 24 (.call 56 [.r 21, .r 22, .r 23]), oA 25 (.not (.r 24))]) (.cond (.r 25) (.reg [oA 26 (kM 6), oA 27 (kM 7), oA 28 (.bsl 1 1 [.v (.int .i64 0)] [(0, (1, .r 27))]), oA 29 (.app 1 8 (.r 26) (.r 28)), oA 6 (kM 29)]) .skip)))) (.reg [oA 30 (.bin .add (.r 18) (kI 1)), oA 18 (kM 30)]))))))) (.seq (.reg [oA 31 (kM 6), oA 4 (kM 31), oA 5 (.mov (kI 0))]) .ret))))))⟩
theorem c29 : cfunc Tryd.prog 29 = some ir29 := by kernel_rfl
theorem k29 : okIR (max 2 ir29.n) ir29.ir = true := by decide +kernel
theorem s_Wrong (b : Bas) (hb : b.ok) (hf : b.few) (i : Itp) (hok : i.ok) (j : JH) : JC Tryd.prog (GG m) 29 [.agg b.enc, .agg i.enc] j (RET (.tup [.sl .none (wrongL b i).length (ints (wrongL b i)), I64 (modE b i)]) j) := by
  refine JC.run hmix c29 (by exact k29) ?_
  (try simp only[↓jr,jw,seval,ji,ext_ext,pid_pid,ir29])
  refine JCs.ret (s_kbValid b hb hf _) ?_
  (try simp only[↓jr,jw,seval,ji,ext_ext,pid_pid])
  refine ww.intro (fun h1 => ?_) (fun h1 => ?_)
  · (try simp only[↓jr,jw,seval,ji,ext_ext,pid_pid])
    refine JCs.ret (s_iValid b.nms hb.nms i hok _) ?_
    (try simp only[↓jr,jw,seval,ji,ext_ext,pid_pid])
    refine ww.intro (fun h2 => ?_) (fun h2 => ?_)
    · have hE : modE b i = 0 := by unfold modE; rw [h1, h2]; rfl
      have hW : wrongL b i = bitsL (fun k => !trueI b i k) b.count := if_pos hE
      have hcnt := (basV_iff h1).c
      rw [hE, hW]
      (try simp only[↓jr,jw,seval,ji,ext_ext,pid_pid])
      refine JCs.ret (s_Count b hb _) ?_
      (try simp only[↓jr,jw,seval,ji,ext_ext,pid_pid])
      refine JLOOP.of (σ := Nat × Tok × JH) (fun x => x.1 ≤ b.count ∧ TokExt j x.2.2 ∧ CanApp j x.2.2 x.2.1 1 (bitsL (fun k => !trueI b i k) x.1).length) (fun x => b.count - x.1)
        (fun x => [(18, I64 x.1), (17, I64 b.count), (6, .sl x.2.1 (bitsL (fun k => !trueI b i k) x.1).length (ints (bitsL (fun k => !trueI b i k) x.1))), (2, .ptr (pid j.next 0) 0), (3, .ptr (pid j.next 1) 0)]) (fun x => ext x.2.2 [.cells 66 b.enc, .cells 29 i.enc]) (0, .nil, j) ⟨Nat.zero_le _, TokExt.refl _, CanApp.nil⟩ ?_ (JDropH.refl _) ?_
      · (try simp only[↓jr,jw,seval,ji,ext_ext,pid_pid,DL])
        exact ⟨SubB.v, SubB.v, SubB.pure rfl, SubB.ptr (by unfold pid; omega), SubB.ptr (by unfold pid; omega)⟩
      rintro ⟨k, tk, jx⟩ ⟨hkk, ht, hc⟩
      simp only at hkk ht hc
      have hnx := ht.next
      (try simp only[↓jr,jw,seval,ji,ext_ext,pid_pid,ht.next])
      refine wq.intro (fun g1 => ?_) (fun g1 => ?_)
      · have hlt : k < b.count := by omega
        have hbl := @bitsL_len (fun k => !trueI b i k) k
        (try simp only[↓jr,jw,seval,ji,ext_ext,pid_pid,ht.next])
        refine JCs.ret (s_iholds b hb h1 i hok h2 k hlt _) ?_
        (try simp only[↓jr,jw,seval,ji,ext_ext,pid_pid,ht.next])
        refine ww.intro (fun g2 => ?_) (fun g2 => ?_)
        · (try simp only[↓jr,jw,seval,ji,ext_ext,pid_pid,ht.next])
          refine wc.intro (by unfold R64; omega) ?_
          (try simp only[↓jr,jw,seval,ji,ext_ext,pid_pid,ht.next])
          have e1 : bitsL (fun k => !trueI b i k) (k + 1) = bitsL (fun k => !trueI b i k) k := by rw [bitsL_succ, g2]; simp
          refine JNEXT.of (k + 1, tk, jx) ⟨by simp only; omega, ht, by simp only [e1]; exact hc⟩ (by simp only; omega) ?_ (JDropH.nextT ht ht (TokExt.refl _) (Nat.le_refl _) ⟨.inl ⟨rfl, rfl⟩, .inl ⟨rfl, rfl⟩, True.intro⟩)
          (try simp only[↓jr,jw,seval,ji,ext_ext,pid_pid,DL,e1,ht.next])
          exact ⟨SubB.v, SubB.v, SubB.can hc (ints_pur _), SubB.ptr (by unfold pid; omega), SubB.ptr (by unfold pid; omega)⟩
        · (try simp only[↓jr,jw,seval,ji,ext_ext,pid_pid,ht.next])
          refine JAPP.can' hc.push (ht.push 1) (by simp [d_len6]) rfl rfl (by omega) (by omega) ?_
          intro tok1 j1 hcan ht3 hle
          have hle' : jx.tnext ≤ j1.tnext := Nat.le_trans (Nat.le_succ _) hle
          (try simp only[↓jr,jw,seval,ji,ext_ext,pid_pid,ht3.next])
          refine wc.intro (by unfold R64; omega) ?_
          (try simp only[↓jr,jw,seval,ji,ext_ext,pid_pid,ht3.next])
          have e1 : bitsL (fun k => !trueI b i k) (k + 1) = bitsL (fun k => !trueI b i k) k ++ [(k : Int)] := by rw [bitsL_succ, g2]; rfl
          have e2 : (bitsL (fun k => !trueI b i k) (k + 1)).length = (bitsL (fun k => !trueI b i k) k).length + 1 := by rw [e1]; simp
          have e3 : ints (bitsL (fun k => !trueI b i k) k) ++ [I64 (k : Int)] = ints (bitsL (fun k => !trueI b i k) (k + 1)) := by rw [e1]; simp [ints]
          refine JNEXT.of (k + 1, tok1, j1) ⟨by simp only; omega, ht3, by simp only [e2]; exact hcan⟩ (by simp only; omega) ?_ (JDropH.nextT ht ht3 (TokExt.refl _) hle' ⟨.inl ⟨rfl, rfl⟩, .inl ⟨rfl, rfl⟩, True.intro⟩)
          (try simp only[↓jr,jw,seval,ji,ext_ext,pid_pid,DL,e2,ht3.next])
          rw [← e3]
          exact ⟨SubB.v, SubB.v, SubB.can hcan (by rw [pures_append, ints_pur]; rfl), SubB.ptr (by unfold pid; omega), SubB.ptr (by unfold pid; omega)⟩
      · (try simp only[↓jr,jw,seval,ji,ext_ext,pid_pid,ht.next])
        have ek : k = b.count := by omega
        subst ek
        exact JFIN.ret (JDropH.back ht).of_ext (SubB.tup ⟨SubB.sl rfl (SubBs.pure (ints_pur _)), SubB.v, True.intro⟩)
    · have hE : modE b i = 30 := by unfold modE; rw [h1, h2]; rfl
      have hW : wrongL b i = [] := if_neg (by omega)
      rw [hE, hW]
      (try simp only[↓jr,jw,seval,ji,ext_ext,pid_pid])
      refine JFIN.rb ?_
      exact SubB.tup ⟨SubB.sl rfl True.intro, SubB.v, True.intro⟩
  · have hE : modE b i = 20 := by unfold modE; rw [h1]; rfl
    have hW : wrongL b i = [] := if_neg (by omega)
    rw [hE, hW]
    (try simp only[↓jr,jw,seval,ji,ext_ext,pid_pid])
    refine JFIN.rb ?_
    exact SubB.tup ⟨SubB.sl rfl True.intro, SubB.v, True.intro⟩
def ir30 : IFn := ⟨22, [⟨4, none⟩, ⟨5, none⟩], (.seq (.reg [oA 2 (.box 66 (.r 0)), oA 3 (.box 29 (.r 1)), oA 4 (.mov (kB false)), oA 5 (.mov (kI 0))]) (.seq (.reg [oL 9 2 (some 7), oL 10 3 (some 4), oA 11 (.call 29 [.r 9, .r 10]), oA 8 (kM 11), oA 12 (.ext (.r 8) 0), oA 13 (.ext (.r 8) 1), oA 6 (kM 12), oA 7 (kM 13)]) (.seq (.reg [oA 14 (kM 7), oA 15 (.bin .eql (.r 14) (kI 0)), oA 16 (kM 15), ⟨(some 17), (some ((16, true))), none, (kM 6)⟩, ⟨(some 18), (some ((16, true))), (some (.r 17)), (.lenl (.r 17))⟩, ⟨(some 19), (some ((16, true))), none, (.bin .eql (.r 18) (kI 0))⟩, oA 20 (.pick (.r 16) (.r 19) (kB false)), oA 21 (kM 7), oA 4 (kM 20), oA 5 (kM 21)]) .ret)))⟩
theorem c30 : cfunc Tryd.prog 30 = some ir30 := by kernel_rfl
theorem k30 : okIR (max 2 ir30.n) ir30.ir = true := by decide +kernel
theorem s_Models (b : Bas) (hb : b.ok) (hf : b.few) (i : Itp) (hok : i.ok) (j : JH) : JC Tryd.prog (GG m) 30 [.agg b.enc, .agg i.enc] j (RET (.tup [BOO (decide (modE b i = 0) && decide (wrongL b i = [])), I64 (modE b i)]) j) := by
  refine JC.run hmix c30 (by exact k30) ?_
  (try simp only[↓jr,jw,seval,ji,ext_ext,pid_pid,ir30])
  refine JCs.ret (s_Wrong b hb hf i hok _) ?_
  (try simp only[↓jr,jw,seval,ji,ext_ext,pid_pid])
  have hl : ((wrongL b i).length : Int) = 0 ↔ wrongL b i = [] := by rw [← List.length_eq_zero_iff]; omega
  refine wq.intro (fun g => ?_) (fun g => ?_)
  · (try simp only[↓jr,jw,seval,ji,ext_ext,pid_pid])
    refine JFIN.rb ?_
    rw [decide_eq_true g, Bool.true_and, show decide (wrongL b i = []) = decide (((wrongL b i).length : Int) = 0) from decide_eq_decide.2 hl.symm]
    exact SubB.tup ⟨SubB.v, SubB.v, True.intro⟩
  · (try simp only[↓jr,jw,seval,ji,ext_ext,pid_pid])
    refine JFIN.rb ?_
    rw [decide_eq_false g, Bool.false_and]
    exact SubB.tup ⟨SubB.v, SubB.v, True.intro⟩
def truV (b : Bas) (i : Itp) (k : Int) : Bool := decide (modE b i = 0 ∧ 0 ≤ k ∧ k < b.count) && trueI b i k.toNat
def truE (b : Bas) (i : Itp) (k : Int) : Int := if modE b i = 0 then (if 0 ≤ k ∧ k < b.count then 0 else 1) else modE b i
def ir31 : IFn := ⟨28, [⟨6, none⟩, ⟨7, none⟩], (.seq (.reg [oA 3 (.box 66 (.r 0)), oA 4 (.box 29 (.r 1)), oA 6 (.mov (kB false)), oA 7 (.mov (kI 0))]) (.seq (.seq (.reg [oL 8 3 (some 7), oT 9 8 (.call 54 [.r 8]), oA 10 (.not (.r 9))]) (.cond (.r 10) (.seq (.reg [oA 6 (.mov (kB false)), oA 7 (.mov (kI 20))]) .ret) .skip)) (.seq (.seq (.reg [oA 11 (.fadr 0 (.r 3)), oL 12 11 (some 3), oL 13 4 (some 4), oA 14 (.call 43 [.r 12, .r 13]), oA 15 (.not (.r 14))]) (.cond (.r 15) (.seq (.reg [oA 6 (.mov (kB false)), oA 7 (.mov (kI 30))]) .ret) .skip)) (.seq (.seq (.reg [oA 16 (kM 2), oA 17 (.bin .lss (.r 16) (kI 0)), oA 18 (kM 17), ⟨(some 19), (some ((18, false))), none, (kM 2)⟩, ⟨(some 20), (some ((18, false))), (some (.r 3)), (.load (some 7) (.r 3))⟩, ⟨(some 21), (some ((18, false))), (some (.r 20)), (.call 55 [.r 20])⟩, ⟨(some 22), (some ((18, false))), none, (.bin .geq (.r 19) (.r 21))⟩, oA 23 (.pick (.r 18) (kB true) (.r 22))]) (.cond (.r 23) (.seq (.reg [oA 6 (.mov (kB false)), oA 7 (.mov (kI 1))]) .ret) .skip)) (.seq (.reg [oL 24 3 (some 7), oL 25 4 (some 4), oA 26 (kM 2), oA 27 (.call 56 [.r 24, .r 25, .r 26]), oA 6 (kM 27), oA 7 (.mov (kI 0))]) .ret)))))⟩
theorem c31 : cfunc Tryd.prog 31 = some ir31 := by kernel_rfl
theorem k31 : okIR (max 3 ir31.n) ir31.ir = true := by decide +kernel
theorem s_True (b : Bas) (hb : b.ok) (hf : b.few) (i : Itp) (hok : i.ok) (k : Int) (j : JH) : JC Tryd.prog (GG m) 31 [.agg b.enc, .agg i.enc, I64 k] j (RET (.tup [BOO (truV b i k), I64 (truE b i k)]) j) := by
  refine JC.run hmix c31 (by exact k31) ?_
  (try simp only[↓jr,jw,seval,ji,ext_ext,pid_pid,ir31])
  refine JCs.ret (s_kbValid b hb hf _) ?_
  (try simp only[↓jr,jw,seval,ji,ext_ext,pid_pid])
  refine ww.intro (fun h1 => ?_) (fun h1 => ?_)
  · (try simp only[↓jr,jw,seval,ji,ext_ext,pid_pid])
    refine JCs.ret (s_iValid b.nms hb.nms i hok _) ?_
    (try simp only[↓jr,jw,seval,ji,ext_ext,pid_pid])
    refine ww.intro (fun h2 => ?_) (fun h2 => ?_)
    · have hE : modE b i = 0 := by unfold modE; rw [h1, h2]; rfl
      have bad : ¬ (0 ≤ k ∧ k < b.count) → truV b i k = false ∧ truE b i k = 1 := fun h => by
        refine ⟨?_, ?_⟩
        · unfold truV; rw [decide_eq_false (fun q => h q.2)]; rfl
        · unfold truE; rw [if_pos hE, if_neg h]
      (try simp only[↓jr,jw,seval,ji,ext_ext,pid_pid])
      refine wq.intro (fun g1 => ?_) (fun g1 => ?_)
      · obtain ⟨b1, b2⟩ := bad (by omega)
        rw [b1, b2]
        (try simp only[↓jr,jw,seval,ji,ext_ext,pid_pid])
        refine JFIN.rb ?_
        exact SubB.tup ⟨SubB.v, SubB.v, True.intro⟩
      (try simp only[↓jr,jw,seval,ji,ext_ext,pid_pid])
      refine JCs.ret (s_Count b hb _) ?_
      (try simp only[↓jr,jw,seval,ji,ext_ext,pid_pid])
      refine wq.intro (fun g2 => ?_) (fun g2 => ?_)
      · obtain ⟨b1, b2⟩ := bad (by omega)
        rw [b1, b2]
        (try simp only[↓jr,jw,seval,ji,ext_ext,pid_pid])
        refine JFIN.rb ?_
        exact SubB.tup ⟨SubB.v, SubB.v, True.intro⟩
      obtain ⟨u, rfl⟩ : ∃ u : Nat, k = u := ⟨k.toNat, by omega⟩
      have hV : truV b i u = trueI b i u := by unfold truV; rw [decide_eq_true ⟨hE, by omega, by omega⟩, Bool.true_and, Int.toNat_natCast]
      have hT : truE b i u = 0 := by unfold truE; rw [if_pos hE, if_pos ⟨by omega, by omega⟩]
      rw [hV, hT]
      (try simp only[↓jr,jw,seval,ji,ext_ext,pid_pid])
      refine JCs.ret (s_iholds b hb h1 i hok h2 u (by omega) _) ?_
      (try simp only[↓jr,jw,seval,ji,ext_ext,pid_pid])
      refine JFIN.rb ?_
      exact SubB.tup ⟨SubB.v, SubB.v, True.intro⟩
    · have hE : modE b i = 30 := by unfold modE; rw [h1, h2]; rfl
      have hV : truV b i k = false := by unfold truV; rw [decide_eq_false (fun q => by have := q.1; omega)]; rfl
      have hT : truE b i k = 30 := by unfold truE; rw [if_neg (by omega), hE]
      rw [hV, hT]
      (try simp only[↓jr,jw,seval,ji,ext_ext,pid_pid])
      refine JFIN.rb ?_
      exact SubB.tup ⟨SubB.v, SubB.v, True.intro⟩
  · have hE : modE b i = 20 := by unfold modE; rw [h1]; rfl
    have hV : truV b i k = false := by unfold truV; rw [decide_eq_false (fun q => by have := q.1; omega)]; rfl
    have hT : truE b i k = 20 := by unfold truE; rw [if_neg (by omega), hE]
    rw [hV, hT]
    (try simp only[↓jr,jw,seval,ji,ext_ext,pid_pid])
    refine JFIN.rb ?_
    exact SubB.tup ⟨SubB.v, SubB.v, True.intro⟩
end
end Go.Proofs.YtnkkeenclhncmaaDoor.Pg
