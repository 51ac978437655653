/-
  What the statement about elements asks and compares.
-/
import Derived.Test.YtnkkeenclhncmaaGreatDoorIi
set_option linter.unusedVariables false
set_option linter.unusedSimpArgs false
set_option maxRecDepth 100000
set_option maxHeartbeats 8000000
namespace Go.Proofs.YtnkkeenclhncmaaGreatDoor.Pg
open Go
def fewI (n : Nms) (i : Itp) (l : List Con) : Bool := l.all (fun c => decide ((c.nodes : Int) ≤ 400)) && (fewNames n && fewItp i 40 1000)
section
variable {m : GM}
def ir6 : IFn := ⟨25, [⟨6, none⟩], (.seq (.reg [oA 3 (.box 24 (.r 0)), oA 4 (.box 38 (.r 1)), oA 6 (.mov (kB false))]) (.seq (.seq (.reg [oA 9 (kM 2), oT 10 9 (.lenl (.r 9)), oA 11 (.mov (kI 0))]) (.block 0 (.loop (.seq (.reg [oA 12 (.bin .lss (.r 11) (.r 10))]) (.seq (.cond (.r 12) .skip (.exit 0)) (.seq (.block 1 (.seq (.reg [oA 13 (.iasl 3 (.r 9) (.r 11)), oL 14 13 (some 3), oA 8 (.alloc 33 [.v (.int .i64 0), .v (.int .i64 0), .sl .nil 0 []]), oN (.store 3 (.r 8) (.r 14))]) (.seq (.reg [oL 15 8 (some 3), oA 16 (.call 23 [.r 15, .k (.v (.int .i64 400))]), oA 17 (.not (.r 16))]) (.cond (.r 17) (.seq (.reg [oA 6 (.mov (kB false))]) .ret) .skip)))) (.reg [oA 18 (.bin .add (.r 11) (kI 1)), oA 11 (kM 18)]))))))) (.seq (.reg [oL 19 3 (some 3), oT 20 19 (.call 21 [.r 19]), oA 21 (kM 20), ⟨(some 22), (some ((21, true))), (some (.r 4)), (.load (some 4) (.r 4))⟩, ⟨(some 23), (some ((21, true))), none, (.call 25 [.r 22, .k (.v (.int .i64 40)), .k (.v (.int .i64 1000))])⟩, oA 24 (.pick (.r 21) (.r 23) (kB false)), oA 6 (kM 24)]) .ret)))⟩
theorem c6 : cfunc Tryz.prog 6 = some ir6 := by kernel_rfl
theorem k6 : okIR (max 3 ir6.n) ir6.ir = true := by decide +kernel
theorem s_ifew (n : Nms) (hn : n.ok) (hs : n.short) (i : Itp) (hok : i.ok) (l : List Con) (tok : Tok) (hl : Con.oks l) (hll : l.length < 4611686018427387904) (j : JH) :
    JC Tryz.prog (GG m) 6 [.agg n.enc, .agg i.enc, .sl tok l.length (encs Con.enc l)] j (RET (BOO (fewI n i l)) j) := by
  refine JC.run hmix c6 (by exact k6) ?_
  (try simp only[↓jr,jw,seval,ji,ir6])
  refine JLOOP.of (σ := Nat) (fun k => k ≤ l.length ∧ (l.drop k).all (fun c => decide ((c.nodes : Int) ≤ 400)) = l.all (fun c => decide ((c.nodes : Int) ≤ 400))) (fun k => l.length - k)
    (fun k => [(11, I64 k), (10, I64 l.length), (9, .sl .none l.length (encs Con.enc l)), (3, .ptr (pid j.next 0) 0), (4, .ptr (pid j.next 1) 0)]) (fun k => ext j [.cells 24 n.enc, .cells 38 i.enc]) 0 ⟨by omega, rfl⟩ ?_ (JDropH.refl _) ?_
  · (try simp only[↓jr,jw,seval,ji,DL])
    exact ⟨SubB.v, SubB.v, SubB.sl rfl (SubBs.pure (encs_pur Con.pur _)), SubB.ptr (by unfold pid; omega), SubB.ptr (by unfold pid; omega)⟩
  rintro k ⟨hk, hI⟩
  (try simp only[↓jr,jw,seval,ji])
  refine wq.intro (fun h1 => ?_) (fun h1 => ?_)
  · have hlt : k < (l).length := by omega
    obtain ⟨c, r, hd⟩ : ∃ c_ l_, List.drop k (l) = c_ :: l_ := ⟨_, _, List.drop_eq_getElem_cons hlt⟩
    have hd1 : List.drop (k + 1) (l) = r := by rw [← List.drop_drop, hd]; rfl
    have hmem : c ∈ l := List.mem_of_mem_drop (hd ▸ List.mem_cons_self)
    rw [hd, List.all_cons] at hI
    (try simp only[↓jr,jw,seval,ji,hd])
    refine wc.intro (by omega) ?_
    (try simp only[↓jr,jw,seval,ji,hd])
    refine JCs.ret (s_Fits c 400 _ (Con.oks_mem hl hmem) (by omega) (by omega)) ?_
    (try simp only[↓jr,jw,seval,ji])
    refine wq.intro (fun h2 => ?_) (fun h2 => ?_)
    · (try simp only[↓jr,jw,seval,ji])
      refine wc.intro (R64_add hlt hll) ?_
      (try simp only[↓jr,jw,seval,ji])
      rw [decide_eq_true h2, Bool.true_and] at hI
      refine JNEXT.of (k + 1) ⟨by omega, by rw [hd1, hI]⟩ (by omega) ?_ JDropH.nx
      (try simp only[↓jr,jw,seval,ji,DL])
      exact ⟨SubB.v, SubB.v, SubB.sl rfl (SubBs.pure (encs_pur Con.pur _)), SubB.ptr (by unfold pid; omega), SubB.ptr (by unfold pid; omega)⟩
    · (try simp only[↓jr,jw,seval,ji])
      rw [decide_eq_false h2, Bool.false_and] at hI
      refine JFIN.rb ?_
      unfold fewI; rw [← hI]; exact SubB.v
  · (try simp only[↓jr,jw,seval,ji])
    rw [List.drop_eq_nil_of_le (by omega), List.all_nil] at hI
    refine JCs.ret (s_FewNames n hn hs _) ?_
    (try simp only[↓jr,jw,seval,ji])
    refine ww.intro (fun h3 => ?_) (fun h3 => ?_)
    · (try simp only[↓jr,jw,seval,ji])
      refine JCs.ret (s_rFew i hok 40 1000 _) ?_
      (try simp only[↓jr,jw,seval,ji])
      refine JFIN.rb ?_
      unfold fewI; rw [← hI, h3, Bool.true_and, Bool.true_and]; exact SubB.v
    · (try simp only[↓jr,jw,seval,ji])
      refine JFIN.rb ?_
      unfold fewI; rw [← hI, h3]; exact SubB.v
def ir8 : IFn := ⟨27, [⟨6, none⟩], (.seq (.reg [oA 3 (.box 24 (.r 0)), oA 4 (.box 38 (.r 1)), oA 6 (.mov (kI 0))]) (.seq (.seq (.reg [oL 9 3 (some 3), oT 10 9 (.call 26 [.r 9]), oA 11 (.not (.r 10))]) (.cond (.r 11) (.seq (.reg [oA 6 (.mov (kI 20))]) .ret) .skip)) (.seq (.seq (.reg [oA 12 (kM 2), oT 13 12 (.lenl (.r 12)), oA 14 (.mov (kI 0))]) (.block 0 (.loop (.seq (.reg [oA 15 (.bin .lss (.r 14) (.r 13))]) (.seq (.cond (.r 15) .skip (.exit 0)) (.seq (.block 1 (.seq (.reg [oA 16 (.iasl 3 (.r 12) (.r 14)), oL 17 16 (some 3), oA 8 (.alloc 33 [.v (.int .i64 0), .v (.int .i64 0), .sl .nil 0 []]), oN (.store 3 (.r 8) (.r 17))]) (.seq (.reg [oL 18 3 (some 3), oL 19 8 (some 3), oA 20 (.call 27 [.r 18, .r 19]), oA 21 (.not (.r 20))]) (.cond (.r 21) (.seq (.reg [oA 6 (.mov (kI 10))]) .ret) .skip)))) (.reg [oA 22 (.bin .add (.r 14) (kI 1)), oA 14 (kM 22)]))))))) (.seq (.seq (.reg [oL 23 3 (some 3), oL 24 4 (some 4), oA 25 (.call 17 [.r 23, .r 24]), oA 26 (.not (.r 25))]) (.cond (.r 26) (.seq (.reg [oA 6 (.mov (kI 30))]) .ret) .skip)) (.seq (.reg [oA 6 (.mov (kI 0))]) .ret)))))⟩
theorem c8 : cfunc Tryz.prog 8 = some ir8 := by kernel_rfl
theorem k8 : okIR (max 3 ir8.n) ir8.ir = true := by decide +kernel
theorem s_fault (n : Nms) (hn : n.ok) (hs : n.short) (i : Itp) (hok : i.ok) (l : List Con) (tok : Tok) (hl : Con.oks l) (hll : l.length < 4611686018427387904) (j : JH) :
    JC Tryz.prog (GG m) 8 [.agg n.enc, .agg i.enc, .sl tok l.length (encs Con.enc l)] j (RET (I64 (fineI n i l)) j) := by
  refine JC.run hmix c8 (by exact k8) ?_
  (try simp only[↓jr,jw,seval,ji,ir8])
  refine JCs.ret (s_rNames n hn hs _) ?_
  (try simp only[↓jr,jw,seval,ji])
  refine ww.intro (fun h0 => ?_) (fun h0 => by (try simp only[↓jr,jw,seval,ji]); refine JFIN.rb ?_; unfold fineI; rw [h0]; exact SubB.v)
  (try simp only[↓jr,jw,seval,ji])
  refine JLOOP.of (σ := Nat) (fun k => k ≤ l.length ∧ (l.drop k).all (conOK n) = l.all (conOK n)) (fun k => l.length - k)
    (fun k => [(14, I64 k), (13, I64 l.length), (12, .sl .none l.length (encs Con.enc l)), (3, .ptr (pid j.next 0) 0), (4, .ptr (pid j.next 1) 0)]) (fun k => ext j [.cells 24 n.enc, .cells 38 i.enc]) 0 ⟨by omega, rfl⟩ ?_ (JDropH.refl _) ?_
  · (try simp only[↓jr,jw,seval,ji,DL])
    exact ⟨SubB.v, SubB.v, SubB.sl rfl (SubBs.pure (encs_pur Con.pur _)), SubB.ptr (by unfold pid; omega), SubB.ptr (by unfold pid; omega)⟩
  rintro k ⟨hk, hI⟩
  (try simp only[↓jr,jw,seval,ji])
  refine wq.intro (fun h1 => ?_) (fun h1 => ?_)
  · have hlt : k < (l).length := by omega
    obtain ⟨c, r, hd⟩ : ∃ c_ l_, List.drop k (l) = c_ :: l_ := ⟨_, _, List.drop_eq_getElem_cons hlt⟩
    have hd1 : List.drop (k + 1) (l) = r := by rw [← List.drop_drop, hd]; rfl
    have hmem : c ∈ l := List.mem_of_mem_drop (hd ▸ List.mem_cons_self)
    rw [hd, List.all_cons] at hI
    (try simp only[↓jr,jw,seval,ji,hd])
    refine wc.intro (by omega) ?_
    (try simp only[↓jr,jw,seval,ji,hd])
    refine JCs.ret (s_Is n c _ hn (Con.oks_mem hl hmem)) ?_
    (try simp only[↓jr,jw,seval,ji])
    refine ww.intro (fun h2 => ?_) (fun h2 => ?_)
    · (try simp only[↓jr,jw,seval,ji])
      refine wc.intro (R64_add hlt hll) ?_
      (try simp only[↓jr,jw,seval,ji])
      rw [show (conOK n) c = true from h2, Bool.true_and] at hI
      refine JNEXT.of (k + 1) ⟨by omega, by rw [hd1, hI]⟩ (by omega) ?_ JDropH.nx
      (try simp only[↓jr,jw,seval,ji,DL])
      exact ⟨SubB.v, SubB.v, SubB.sl rfl (SubBs.pure (encs_pur Con.pur _)), SubB.ptr (by unfold pid; omega), SubB.ptr (by unfold pid; omega)⟩
    · (try simp only[↓jr,jw,seval,ji])
      rw [show (conOK n) c = false from h2, Bool.false_and] at hI
      refine JFIN.rb ?_
      unfold fineI; rw [h0, ← hI]; exact SubB.v
  · (try simp only[↓jr,jw,seval,ji])
    rw [List.drop_eq_nil_of_le (by omega), List.all_nil] at hI
    refine JCs.ret (s_rIs n hn i hok _) ?_
    (try simp only[↓jr,jw,seval,ji])
    refine ww.intro (fun h3 => ?_) (fun h3 => ?_)
    · (try simp only[↓jr,jw,seval,ji])
      refine JFIN.rb ?_
      unfold fineI; rw [h0, ← hI, h3]; exact SubB.v
    · (try simp only[↓jr,jw,seval,ji])
      refine JFIN.rb ?_
      unfold fineI; rw [h0, ← hI, h3]; exact SubB.v
def rowTok (n : Nms) (c : Con) (i : Itp) : Tok := if fineI n i [c] = 0 then .none else .nil
theorem sliceI_eq {n : Nms} {c : Con} {i : Itp} : sliceI (elemsI n c i) (fineI n i [c]) = .sl (rowTok n c i) (elemsI n c i).length (ints (elemsI n c i)) := by
  unfold sliceI rowTok elemsI
  split <;> rfl
theorem s_Elements' (n : Nms) (hn : n.ok) (hs : n.short) (i : Itp) (hok : i.ok) (c : Con) (hc : c.ok) (hb : c.nodes ≤ 4000000000) (j : JH) : JC Tryz.prog (GG m) 31 [.agg n.enc, .agg c.enc, .agg i.enc] j (RET (.tup [.sl (rowTok n c i) (elemsI n c i).length (ints (elemsI n c i)), I64 (fineI n i [c])]) j) := by
  rw [← sliceI_eq]; exact s_Elements n hn hs i hok c hc hb j
end
end Go.Proofs.YtnkkeenclhncmaaGreatDoor.Pg
