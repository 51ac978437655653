/-
  What the statement about elements asks and compares.
-/
import Derived.Test.YtnkkeenclhncmaaDoorIi
set_option linter.unusedVariables false
set_option linter.unusedSimpArgs false
set_option maxRecDepth 100000
set_option maxHeartbeats 8000000
namespace Go.Proofs.YtnkkeenclhncmaaDoor.Pg
open Go
def fewI (n : Nms) (i : Itp) (l : List Con) : Bool := l.all (fun c => decide ((c.nodes : Int) ≤ 400)) && (fewNames n && fewItp i 40 1000)
section
variable {m : GM}
def ir7 : IFn := ⟨25, [⟨6, none⟩], (.seq (.reg [oA 3 (.box 24 (.r 0)), oA 4 (.box 29 (.r 1)), oA 6 (.mov (kB false))]) (.seq (.seq (.reg [oA 9 (kM 2), oT 10 9 (.lenl (.r 9)), oA 11 (.mov (kI 0))]) (.block 0 (.loop (.seq (.reg [oA 12 (.bin .lss (.r 11) (.r 10))]) (.seq (.cond (.r 12) .skip (.exit 0)) (.seq (.block 1 (.seq (.reg [oA 13 (.iasl 3 (.r 9) (.r 11)), oL 14 13 (some 3), oA 8 (.alloc 44 [.v (.int .i64 0), .v (.int .i64 0), .sl .nil 0 []]), oN (.store 3 (.r 8) (.r 14))]) (.seq (.reg [oL 15 8 (some 3), oA 16 (.call 20 [.r 15, .k (.v (.int .i64 400))]), oA 17 (.not (.r 16))]) (.cond (.r 17) (.seq (.reg [oA 6 (.mov (kB false))]) .ret) .skip)))) (.reg [oA 18 (.bin .add (.r 11) (kI 1)), oA 11 (kM 18)]))))))) (.seq (.reg [oL 19 3 (some 3), oT 20 19 (.call 35 [.r 19]), oA 21 (kM 20), ⟨(some 22), (some ((21, true))), (some (.r 4)), (.load (some 4) (.r 4))⟩, ⟨(some 23), (some ((21, true))), none, (.call 36 [.r 22, .k (.v (.int .i64 40)), .k (.v (.int .i64 1000))])⟩, oA 24 (.pick (.r 21) (.r 23) (kB false)), oA 6 (kM 24)]) .ret)))⟩
theorem c7 : cfunc Tryd.prog 7 = some ir7 := by kernel_rfl
theorem k7 : okIR (max 3 ir7.n) ir7.ir = true := by decide +kernel
theorem s_ifew (n : Nms) (hn : n.ok) (hs : n.short) (i : Itp) (hok : i.ok) (l : List Con) (tok : Tok) (hl : Con.oks l) (hll : l.length < 4611686018427387904) (j : JH) :
    JC Tryd.prog (GG m) 7 [.agg n.enc, .agg i.enc, .sl tok l.length (encs Con.enc l)] j (RET (BOO (fewI n i l)) j) := by
  refine JC.run hmix c7 (by exact k7) ?_
  (try simp only[↓jr,jw,seval,ji,ir7])
  refine JLOOP.of (σ := Nat) (fun k => k ≤ l.length ∧ (l.drop k).all (fun c => decide ((c.nodes : Int) ≤ 400)) = l.all (fun c => decide ((c.nodes : Int) ≤ 400))) (fun k => l.length - k)
    (fun k => [(11, I64 k), (10, I64 l.length), (9, .sl .none l.length (encs Con.enc l)), (3, .ptr (pid j.next 0) 0), (4, .ptr (pid j.next 1) 0)]) (fun k => ext j [.cells 24 n.enc, .cells 29 i.enc]) 0 ⟨by omega, rfl⟩ ?_ (JDropH.refl _) ?_
  · (try simp only[↓jr,jw,seval,ji,DL])
    exact ⟨SubB.v, SubB.v, SubB.sl rfl (SubBs.pure (encs_pur Con.pur _)), SubB.ptr (by unfold pid; omega), SubB.ptr (by unfold pid; omega)⟩
  rintro k ⟨hk, hI⟩
  (try simp only[↓jr,jw,seval,ji])
  refine wq.intro (fun h1 => ?_) (fun h1 => ?_)
  · have hlt : k < (l).length := by omega
    obtain ⟨c, r, hd⟩ : ∃ c_ l_, List.drop k (l) = c_ :: l_ := ⟨_, _, List.drop_eq_getElem_cons hlt⟩
    have hd1 : List.drop (k + 1) (l) = r := by rw [← List.drop_drop, hd]; rfl
    have hmem : c ∈ l := List.mem_of_mem_drop (hd ▸ List.mem_cons_self)
    rw [hd, List.all_cons] at hI
    (try simp only[↓jr,jw,seval,ji,hd])
    refine wc.intro (by omega) ?_
    (try simp only[↓jr,jw,seval,ji,hd])
    refine JCs.ret (s_Fits c 400 _ (Con.oks_mem hl hmem) (by omega) (by omega)) ?_
    (try simp only[↓jr,jw,seval,ji])
    refine wq.intro (fun h2 => ?_) (fun h2 => ?_)
    · (try simp only[↓jr,jw,seval,ji])
      refine wc.intro (R64_add hlt hll) ?_
      (try simp only[↓jr,jw,seval,ji])
      rw [decide_eq_true h2, Bool.true_and] at hI
      refine JNEXT.of (k + 1) ⟨by omega, by rw [hd1, hI]⟩ (by omega) ?_ JDropH.nx
      (try simp only[↓jr,jw,seval,ji,DL])
      exact ⟨SubB.v, SubB.v, SubB.sl rfl (SubBs.pure (encs_pur Con.pur _)), SubB.ptr (by unfold pid; omega), SubB.ptr (by unfold pid; omega)⟩
    · (try simp only[↓jr,jw,seval,ji])
      rw [decide_eq_false h2, Bool.false_and] at hI
      refine JFIN.rb ?_
      unfold fewI; rw [← hI]; exact SubB.v
  · (try simp only[↓jr,jw,seval,ji])
    rw [List.drop_eq_nil_of_le (by omega), List.all_nil] at hI
    refine JCs.ret (s_FewNames n hn hs _) ?_
    (try simp only[↓jr,jw,seval,ji])
    refine ww.intro (fun h3 => ?_) (fun h3 => ?_)
    · (try simp only[↓jr,jw,seval,ji])
      refine JCs.ret (s_rFew i hok 40 1000 _) ?_
      (try simp only[↓jr,jw,seval,ji])
      refine JFIN.rb ?_
      unfold fewI; rw [← hI, h3, Bool.true_and, Bool.true_and]; exact SubB.v
    · (try simp only[↓jr,jw,seval,ji])
      refine JFIN.rb ?_
      unfold fewI; rw [← hI, h3]; exact SubB.v
def rowTok (n : Nms) (c : Con) (i : Itp) : Tok := if fineI n i [c] = 0 then .none else .nil
theorem sliceI_eq {n : Nms} {c : Con} {i : Itp} : sliceI (elemsI n c i) (fineI n i [c]) = .sl (rowTok n c i) (elemsI n c i).length (ints (elemsI n c i)) := by
  unfold sliceI rowTok elemsI
  split <;> rfl
theorem s_Elements' (n : Nms) (hn : n.ok) (hs : n.short) (i : Itp) (hok : i.ok) (c : Con) (hc : c.ok) (hb : c.nodes ≤ 4000000000) (j : JH) : JC Tryd.prog (GG m) 15 [.agg n.enc, .agg c.enc, .agg i.enc] j (RET (.tup [.sl (rowTok n c i) (elemsI n c i).length (ints (elemsI n c i)), I64 (fineI n i [c])]) j) := by
  rw [← sliceI_eq]; exact s_Elements n hn hs i hok c hc hb j
def ir4 : IFn := ⟨90, [⟨8, none⟩], (.seq (.reg [oA 4 (.box 24 (.r 0)), oA 5 (.box 44 (.r 1)), oA 6 (.box 44 (.r 2)), oA 7 (.box 29 (.r 3)), oA 8 (.mov (kB false))]) (.seq (.seq (.reg [oL 15 4 (some 3), oL 16 7 (some 4), oL 17 5 (some 3), oL 18 6 (some 3), oA 19 (.bsl 2 3 [.v (.int .i64 0), .v (.int .i64 0), .sl .nil 0 []] [(0, (3, .r 17)), (3, (3, .r 18))]), oA 20 (.call 7 [.r 15, .r 16, .r 19]), oA 21 (.not (.r 20))]) (.cond (.r 21) (.seq (.reg [oA 22 (.call 8 []), oA 8 (kM 22)]) .ret) .skip)) (.seq (.reg [oL 24 4 (some 3), oL 25 5 (some 3), oL 26 7 (some 4), oA 27 (.call 15 [.r 24, .r 25, .r 26]), oA 23 (kM 27), oA 28 (.ext (.r 23) 0), oA 29 (.ext (.r 23) 1), oA 9 (kM 28), oA 10 (kM 29)]) (.seq (.reg [oL 31 4 (some 3), oL 32 5 (some 3), oL 33 6 (some 3), oL 34 7 (some 4), oA 35 (.call 16 [.r 31, .r 32, .r 33, .r 34]), oA 30 (kM 35), oA 36 (.ext (.r 30) 0), oA 37 (.ext (.r 30) 1), oA 11 (kM 36), oA 12 (kM 37)]) (.seq (.reg [oA 13 (.mov (.k (.sl .nil 0 [])))]) (.seq (.seq (.reg [oL 38 4 (some 3), oL 39 7 (some 4), oL 40 5 (some 3), oA 41 (.bsl 1 3 [.v (.int .i64 0), .v (.int .i64 0), .sl .nil 0 []] [(0, (3, .r 40))]), oA 42 (.call 10 [.r 38, .r 39, .r 41]), oA 43 (.bin .eql (.r 42) (kI 0))]) (.cond (.r 43) (.reg [oL 44 5 (some 3), oL 45 7 (some 4), oA 46 (.call 17 [.r 44, .r 45]), oA 13 (kM 46)]) .skip)) (.seq (.reg [oL 47 4 (some 3), oL 48 7 (some 4), oL 49 5 (some 3), oL 50 6 (some 3), oA 51 (.bsl 2 3 [.v (.int .i64 0), .v (.int .i64 0), .sl .nil 0 []] [(0, (3, .r 49)), (3, (3, .r 50))]), oA 52 (.call 10 [.r 47, .r 48, .r 51]), oA 53 (.bin .eql (.r 52) (kI 0)), oA 54 (kM 53), ⟨(some 55), (some ((54, true))), (some (.r 5)), (.load (some 3) (.r 5))⟩, ⟨(some 56), (some ((54, true))), (some (.r 6)), (.load (some 3) (.r 6))⟩, ⟨(some 57), (some ((54, true))), (some (.r 7)), (.load (some 4) (.r 7))⟩, ⟨(some 58), (some ((54, true))), none, (.call 18 [.r 55, .r 56, .r 57])⟩, oA 59 (.pick (.r 54) (.r 58) (kB false)), oA 14 (kM 59)]) (.seq (.reg [oA 60 (kM 10), oL 61 4 (some 3), oL 62 7 (some 4), oL 63 5 (some 3), oA 64 (.bsl 1 3 [.v (.int .i64 0), .v (.int .i64 0), .sl .nil 0 []] [(0, (3, .r 63))]), oA 65 (.call 10 [.r 61, .r 62, .r 64]), oA 66 (.bin .eql (.r 60) (.r 65)), oA 67 (kM 66), ⟨(some 68), (some ((67, true))), none, (kM 9)⟩, ⟨(some 69), (some ((67, true))), none, (kM 13)⟩, ⟨(some 70), (some ((67, true))), none, (.call 19 [.r 68, .r 69])⟩, oA 71 (.pick (.r 67) (.r 70) (kB false)), oA 72 (kM 71), ⟨(some 73), (some ((72, true))), none, (kM 12)⟩, ⟨(some 74), (some ((72, true))), (some (.r 4)), (.load (some 3) (.r 4))⟩, ⟨(some 75), (some ((72, true))), (some (.r 7)), (.load (some 4) (.r 7))⟩, ⟨(some 76), (some ((72, true))), (some (.r 5)), (.load (some 3) (.r 5))⟩, ⟨(some 77), (some ((72, true))), (some (.r 6)), (.load (some 3) (.r 6))⟩, ⟨(some 78), (some ((72, true))), none, (.bsl 2 3 [.v (.int .i64 0), .v (.int .i64 0), .sl .nil 0 []] [(0, (3, .r 76)), (3, (3, .r 77))])⟩, ⟨(some 79), (some ((72, true))), none, (.call 10 [.r 74, .r 75, .r 78])⟩, ⟨(some 80), (some ((72, true))), none, (.bin .eql (.r 73) (.r 79))⟩, oA 81 (.pick (.r 72) (.r 80) (kB false)), oA 82 (kM 81), ⟨(some 83), (some ((82, true))), none, (kM 11)⟩, ⟨(some 84), (some ((82, true))), none, (kM 14)⟩, ⟨(some 85), (some ((82, true))), none, (.beq false (.r 83) (.r 84))⟩, oA 86 (.pick (.r 82) (.r 85) (kB false)), oA 87 (kM 86), ⟨(some 88), (some ((87, true))), none, (.call 8 [])⟩, oA 89 (.pick (.r 87) (.r 88) (kB false)), oA 8 (kM 89)]) .ret))))))))⟩
theorem c4 : cfunc Tryd.prog 4 = some ir4 := by kernel_rfl
theorem k4 : okIR (max 4 ir4.n) ir4.ir = true := by decide +kernel
end
end Go.Proofs.YtnkkeenclhncmaaDoor.Pg
