/-
  The document's Parse.
-/
import Derived.Test.YtcajjicdbphkpaaDoorQj
set_option linter.unusedVariables false
set_option linter.unusedSimpArgs false
set_option maxRecDepth 100000
set_option maxHeartbeats 8000000
namespace Go.Proofs.YtcajjicdbphkpaaDoor.Pg
open Go
/-- A token: a word, or a sign. -/
def tkOK (sg : List UInt8) (t : List UInt8) : Prop := ∃ b l, t = b :: l ∧ b ≠ 32 ∧ (letB b = true → l.all witB = true) ∧ (letB b = false → l = [] ∧ sg.contains b = true)
theorem toks_spec {sg : List UInt8} : ∀ (k : Nat) (l : List UInt8) (ts : List (List UInt8)), l.length ≤ k → toks sg l = some ts → ts.length ≤ l.length ∧ ∀ t ∈ ts, t.length ≤ l.length ∧ tkOK sg t := by
  intro k
  induction k with
  | zero =>
    intro l ts hl h
    have : l = [] := List.eq_nil_of_length_eq_zero (by omega)
    subst this
    rw [toks_nil] at h; cases h
    simp
  | succ k ih =>
    intro l ts hl h
    cases l with
    | nil => rw [toks_nil] at h; cases h; simp
    | cons b l =>
      simp only [List.length_cons] at hl
      have hdw := (List.dropWhile_sublist witB (l := l)).length_le
      have htw := (List.takeWhile_sublist witB (l := l)).length_le
      rw [toks_cons] at h
      split at h
      · obtain ⟨h1, h2⟩ := ih l ts (by omega) h
        exact ⟨by simp only [List.length_cons]; omega, fun t ht => ⟨by have := (h2 t ht).1; simp only [List.length_cons]; omega, (h2 t ht).2⟩⟩
      · rename_i h32
        split at h
        · rename_i hlet
          obtain ⟨r, hr, rfl⟩ := Option.map_eq_some_iff.1 h
          obtain ⟨h1, h2⟩ := ih _ r (by omega) hr
          refine ⟨by simp only [List.length_cons]; omega, fun t ht => ?_⟩
          rcases List.mem_cons.1 ht with rfl | ht
          · exact ⟨by simp only [List.length_cons]; omega, b, _, rfl, h32, fun _ => List.all_takeWhile, fun q => by rw [hlet] at q; cases q⟩
          · exact ⟨by have := (h2 t ht).1; simp only [List.length_cons]; omega, (h2 t ht).2⟩
        · rename_i hlet
          split at h
          · rename_i hc
            obtain ⟨r, hr, rfl⟩ := Option.map_eq_some_iff.1 h
            obtain ⟨h1, h2⟩ := ih _ r (by omega) hr
            refine ⟨by simp only [List.length_cons]; omega, fun t ht => ?_⟩
            rcases List.mem_cons.1 ht with rfl | ht
            · exact ⟨by simp, b, [], rfl, h32, fun q => absurd q hlet, fun _ => ⟨rfl, hc⟩⟩
            · exact ⟨by have := (h2 t ht).1; simp only [List.length_cons]; omega, (h2 t ht).2⟩
          · cases h
abbrev sgC : List UInt8 := [40, 41, 45]
def rParT (n : Nms) (ts : List (List UInt8)) : Con × Int :=
  if ((rcF n ts.length ⟨ts, false, false⟩).2.bad || !(rcF n ts.length ⟨ts, false, false⟩).2.ts.isEmpty) = true then (nilC, 11)
  else if ((rcF n ts.length ⟨ts, false, false⟩).2.wr || !conOK n (rcF n ts.length ⟨ts, false, false⟩).1) = true then (nilC, 10) else ((rcF n ts.length ⟨ts, false, false⟩).1, 0)
def rPar (n : Nms) (s : ByteArray) : Con × Int :=
  if 30000 < s.size then (nilC, 2) else match toks sgC (bs s) with
    | none => (nilC, 11)
    | some ts => rParT n ts
section
variable {m : Int} {G : Nat → Option (List AV)}
def ir16 : IFn := ⟨58, [⟨4, (some (some 3))⟩, ⟨5, none⟩], (.seq (.reg [oA 2 (.box 24 (.r 0)), oA 4 (.alloc 27 [.v (.int .i64 0), .v (.int .i64 0), .sl .nil 0 []]), oA 5 (.mov (kI 0))]) (.seq (.seq (.reg [oA 10 (kM 1), oT 11 10 (.lens (.r 10)), oA 12 (.bin .gtr (.r 11) (kI 30000))]) (.cond (.r 12) (.seq (.reg [oA 13 (.build [.v (.int .i64 0), .v (.int .i64 0), .sl .nil 0 []] []), oN (.store 3 (.r 4) (.r 13)), oA 5 (.mov (kI 2))]) .ret) .skip)) (.seq (.reg [oA 15 (kM 1), oA 16 (.call 51 [.r 15, .k (.v (.string ⟨#[]⟩))]), oA 14 (kM 16), oA 17 (.ext (.r 14) 0), oA 18 (.ext (.r 14) 1), oA 6 (kM 17), oA 7 (kM 18)]) (.seq (.reg [oL 19 2 (some 3), oA 20 (kM 6), oA 21 (.build [.sl .nil 0 [], .sl .nil 0 [], .sl .nil 0 [], .sl .nil 0 [], .v (.bool false), .v (.bool false)] [(0, (3, .r 19)), (3, (1, .r 20))]), oA 22 (.box 85 (.r 21)), oA 8 (kM 22)]) (.seq (.reg [oA 23 (.build [.v (.int .i64 0), .v (.int .i64 0), .sl .nil 0 []] []), oA 9 (.alloc 27 [.v (.int .i64 0), .v (.int .i64 0), .sl .nil 0 []]), oN (.store 3 (.r 9) (.r 23))]) (.seq (.seq (.reg [oA 24 (kM 7)]) (.cond (.r 24) (.reg [oA 25 (kM 8), oT 26 25 (.call 52 [.r 25]), oN (.store 3 (.r 9) (.r 26))]) .skip)) (.seq (.block 0 (.seq (.reg [oA 28 (kM 7), oA 29 (.not (.r 28)), oA 30 (kM 29), ⟨(some 31), (some ((30, false))), none, (kM 8)⟩, ⟨(some 32), (some ((30, false))), none, (.nchk (.r 31))⟩, ⟨(some 33), (some ((30, false))), none, (.fadr 4 (.r 32))⟩, ⟨(some 34), (some ((30, false))), (some (.r 33)), (.load none (.r 33))⟩, oA 35 (.pick (.r 30) (kB true) (.r 34)), oA 36 (kM 35), ⟨(some 37), (some ((36, false))), none, (kM 8)⟩, ⟨(some 38), (some ((36, false))), none, (.nchk (.r 37))⟩, ⟨(some 39), (some ((36, false))), none, (.fadr 3 (.r 38))⟩, ⟨(some 40), (some ((36, false))), (some (.r 39)), (.load none (.r 39))⟩, ⟨(some 41), (some ((36, false))), (some (.r 40)), (.lenl (.r 40))⟩, ⟨(some 42), (some ((36, false))), none, (.bin .gtr (.r 41) (kI 0))⟩, oA 43 (.pick (.r 36) (kB true) (.r 42)), oA 27 (kM 43)]) (.cond (.r 27) (.seq (.reg [oA 44 (.build [.v (.int .i64 0), .v (.int .i64 0), .sl .nil 0 []] []), oN (.store 3 (.r 4) (.r 44)), oA 5 (.mov (kI 11))]) .ret) (.seq (.reg [oA 46 (kM 8), oA 47 (.nchk (.r 46)), oA 48 (.fadr 5 (.r 47)), oL 49 48 none, oA 50 (kM 49), ⟨(some 51), (some ((50, false))), (some (.r 2)), (.load (some 3) (.r 2))⟩, ⟨(some 52), (some ((50, false))), (some (.r 9)), (.load (some 3) (.r 9))⟩, ⟨(some 53), (some ((50, false))), none, (.call 37 [.r 51, .r 52])⟩, ⟨(some 54), (some ((50, false))), none, (.not (.r 53))⟩, oA 55 (.pick (.r 50) (kB true) (.r 54)), oA 45 (kM 55)]) (.cond (.r 45) (.seq (.reg [oA 56 (.build [.v (.int .i64 0), .v (.int .i64 0), .sl .nil 0 []] []), oN (.store 3 (.r 4) (.r 56)), oA 5 (.mov (kI 10))]) .ret) .skip))))) (.seq (.reg [oL 57 9 (some 3), oN (.store 3 (.r 4) (.r 57)), oA 5 (.mov (kI 0))]) .ret))))))))⟩
theorem c16 : cfunc Tryd.prog 16 = some ir16 := by kernel_rfl
theorem k16 : okIR (max 2 ir16.n) ir16.ir = true := by decide +kernel
theorem s_rParse (n : Nms) (hn : n.ok) (h1 : n.cs.length ≤ 1000000) (h2 : n.rs.length ≤ 1000000) (s : ByteArray) (hs : s.size ≤ 1000000) (j : JH) : JC Tryd.prog G 16 [.agg n.enc, STR s] j (RET (.tup [.agg (rPar n s).1.enc, I64 (rPar n s).2]) j) := by
  refine JC.run hmix c16 (by exact k16) ?_
  (try simp only[↓jr,jw,seval,ir16])
  refine wq.intro (fun h => ?_) (fun h => ?_)
  · (try simp only[↓jr,jw,seval])
    refine JFIN.rb ?_
    have e : rPar n s = (nilC, 2) := by unfold rPar; rw [if_pos (by omega)]
    rw [e]
    exact SubB.tup ⟨SubB.agg nilC_sub, SubB.v, True.intro⟩
  (try simp only[↓jr,jw,seval])
  have e0 : rPar n s = match toks sgC (bs s) with | none => (nilC, 11) | some ts => rParT n ts := by unfold rPar; rw [if_neg (by omega)]
  refine JCs.ret (s_rTokens s ⟨#[]⟩ hs (by decide) sgC rfl _) ?_
  cases ht : toks sgC (bs s) with
  | none =>
    rw [ht] at e0
    simp only [rTOKV]
    (try simp only[↓jr,jw,seval])
    refine JFIN.rb ?_
    rw [e0]
    exact SubB.tup ⟨SubB.agg nilC_sub, SubB.v, True.intro⟩
  | some ts =>
    rw [ht] at e0
    simp only at e0
    have htk := toks_spec _ _ _ (Nat.le_refl _) ht
    have hbl := bs_len s
    have hok : RSok ⟨ts, false, false⟩ := ⟨by simp only; omega, fun t ht => by have := (htk.2 t ht).1; omega⟩
    simp only [rTOKV]
    (try simp only[↓jr,jw,seval])
    rw [show n.enc ++ [AV.sl Tok.none ts.length (strs (List.map ofL ts)), AV.v (Value.bool false), AV.v (Value.bool false)] = rdC n ⟨ts, false, false⟩ from rfl]
    refine JCs.ret (s_rConcept n h1 h2 ts.length ⟨ts, false, false⟩ _ (pid j.next 2) hok (Nat.le_refl _) (by rw [ext_next]; unfold pid; simp) (by (try simp only[↓jr,jw,seval]))) ?_
    have hcok := rcF_ok n h1 h2 ts.length ⟨ts, false, false⟩
    generalize hp : rcF n ts.length ⟨ts, false, false⟩ = p at hcok ⊢
    obtain ⟨c, us, bd, w⟩ := p
    have e1 : rPar n s = if (bd || !us.isEmpty) = true then (nilC, 11) else if (w || !conOK n c) = true then (nilC, 10) else (c, 0) := by rw [e0]; unfold rParT; rw [hp]
    (try simp only[↓jr,jw,seval])
    refine ww.intro (fun g1 => ?_) (fun g1 => ?_)
    · (try simp only[↓jr,jw,seval])
      refine JFIN.rb ?_
      rw [e1, g1, Bool.true_or, if_pos rfl]
      exact SubB.tup ⟨SubB.agg nilC_sub, SubB.v, True.intro⟩
    rw [g1, Bool.false_or] at e1
    (try simp only[↓jr,jw,seval])
    refine wq.intro (fun g2 => ?_) (fun g2 => ?_)
    · (try simp only[↓jr,jw,seval])
      refine JFIN.rb ?_
      have : us.isEmpty = false := by cases us with | nil => simp at g2 | cons _ _ => rfl
      rw [e1, this, if_pos (by rfl)]
      exact SubB.tup ⟨SubB.agg nilC_sub, SubB.v, True.intro⟩
    have hus : us.isEmpty = true := by cases us with | nil => rfl | cons _ _ => simp at g2
    rw [hus, if_neg (by simp)] at e1
    (try simp only[↓jr,jw,seval])
    refine ww.intro (fun g3 => ?_) (fun g3 => ?_)
    · (try simp only[↓jr,jw,seval])
      refine JFIN.rb ?_
      rw [e1, g3, Bool.true_or, if_pos rfl]
      exact SubB.tup ⟨SubB.agg nilC_sub, SubB.v, True.intro⟩
    rw [g3, Bool.false_or] at e1
    (try simp only[↓jr,jw,seval])
    refine JCs.ret (s_Is n c _ hn hcok) ?_
    (try simp only[↓jr,jw,seval])
    refine ww.intro (fun g4 => ?_) (fun g4 => ?_)
    · (try simp only[↓jr,jw,seval])
      refine JFIN.rb ?_
      rw [e1, g4, if_neg (by simp)]
      exact SubB.tup ⟨SubB.agg (SubBs.pure (Con.pur _)), SubB.v, True.intro⟩
    · (try simp only[↓jr,jw,seval])
      refine JFIN.rb ?_
      rw [e1, g4, if_pos (by rfl)]
      exact SubB.tup ⟨SubB.agg nilC_sub, SubB.v, True.intro⟩
end
end Go.Proofs.YtcajjicdbphkpaaDoor.Pg
