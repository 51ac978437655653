/-
  The document's reader.
-/
import Derived.Test.YtcajjicdbphkpaaDoorQg
set_option linter.unusedVariables false
set_option linter.unusedSimpArgs false
set_option maxRecDepth 100000
set_option maxHeartbeats 8000000
namespace Go.Proofs.YtcajjicdbphkpaaDoor.Pg
open Go
/-- What a reader of the document is at. -/
structure RS where
  ts : List (List UInt8)
  bad : Bool
  wr : Bool
def sees (s : RS) (t : List UInt8) : Bool := decide (s.ts.head? = some t)
def take (s : RS) (t : List UInt8) : RS := if sees s t then ⟨s.ts.tail, s.bad, s.wr⟩ else ⟨s.ts, true, s.wr⟩
def wordK (t : List UInt8) : Bool := word t && !resB (ofL t)
def wordR (s : RS) : List UInt8 × RS := match s.ts with
  | t :: r => if wordK t then (t, ⟨r, s.bad, s.wr⟩) else ([], ⟨s.ts, true, s.wr⟩)
  | [] => ([], ⟨s.ts, true, s.wr⟩)
def indexR (l : List ByteArray) (s : RS) : Int × RS :=
  if findS l (ofL (wordR s).1) < 0 then (0, ⟨(wordR s).2.ts, (wordR s).2.bad, true⟩) else (findS l (ofL (wordR s).1), (wordR s).2)
def roleR (n : Nms) (s : RS) : Int × RS :=
  if sees (indexR n.rs s).2 [45] then (2 * (indexR n.rs s).1 + 1, take (indexR n.rs s).2 [45]) else (2 * (indexR n.rs s).1, (indexR n.rs s).2)
abbrev tTop : List UInt8 := [116, 111, 112]
abbrev tBot : List UInt8 := [98, 111, 116]
abbrev tNot : List UInt8 := [110, 111, 116]
abbrev tSome : List UInt8 := [115, 111, 109, 101]
abbrev tAll : List UInt8 := [97, 108, 108]
abbrev tAnd : List UInt8 := [97, 110, 100]
abbrev tOr : List UInt8 := [111, 114]
abbrev RE : TypeId := 85
abbrev rdC (n : Nms) (s : RS) : List AV := [.sl .none n.cs.length (strs n.cs), .sl .none n.rs.length (strs n.rs), .sl .none n.is.length (strs n.is), .sl .none s.ts.length (strs (s.ts.map ofL)), BOO s.bad, BOO s.wr]
def RSok (s : RS) : Prop := s.ts.length ≤ 1000000 ∧ ∀ t ∈ s.ts, t.length ≤ 1000000
theorem ofL_size (l : List UInt8) : (ofL l).size = l.length := by rw [← bs_len, bs_ofL]
theorem rdC_pur (n : Nms) (s : RS) : AV.pures (rdC n s) = true := by
  have h1 := strs_pur n.cs; have h2 := strs_pur n.rs; have h3 := strs_pur n.is; have h4 := strs_pur (s.ts.map ofL)
  simp only [rdC, AV.pures, AV.pure, h1, h2, h3, h4, Bool.and_self]
theorem slc_tail {x : ByteArray} {r : List ByteArray} {n : Nat} (h : n = r.length) : islc 1 (some (I64 1)) none (.sl .none (n + 1) (strs (x :: r))) = some (.sl .none n (strs r)) := by
  subst h
  simp only [islc, abound, aint]
  rw [if_pos (by omega)]
  simp only [Int.toNat_one]
  rw [if_pos (by simp [d_len7])]
  simp [strs, List.take_of_length_le]
theorem slc_tail' {x : List UInt8} {r : List (List UInt8)} : islc 1 (some (I64 1)) none (.sl .none (r.length + 1) (STR (ofL x) :: strs (r.map ofL))) = some (.sl .none r.length (strs (r.map ofL))) := slc_tail (by simp)
theorem sees_nil {b w : Bool} {t : List UInt8} : sees ⟨[], b, w⟩ t = false := rfl
theorem sees_cons {b w : Bool} {t x : List UInt8} {r : List (List UInt8)} : sees ⟨x :: r, b, w⟩ t = decide (ofL x = ofL t) := by
  unfold sees
  refine decide_eq_decide.2 ?_
  simp only [List.head?_cons, Option.some.injEq]
  exact ⟨fun h => by rw [h], fun h => ofL_inj h⟩
section
variable {m : Int} {G : Nat → Option (List AV)}
def ir84 : IFn := ⟨21, [⟨4, none⟩], (.seq (.reg [oA 4 (.mov (kB false))]) (.seq (.reg [oA 5 (kM 0), oA 6 (.nchk (.r 5)), oA 7 (.fadr 3 (.r 6)), oL 8 7 none, oT 9 8 (.lenl (.r 8)), oA 10 (.bin .gtr (.r 9) (kI 0)), oA 11 (kM 10), ⟨(some 12), (some ((11, true))), none, (kM 0)⟩, ⟨(some 13), (some ((11, true))), none, (.nchk (.r 12))⟩, ⟨(some 14), (some ((11, true))), none, (.fadr 3 (.r 13))⟩, ⟨(some 15), (some ((11, true))), (some (.r 14)), (.load none (.r 14))⟩, ⟨(some 16), (some ((11, true))), none, (.iasl 1 (.r 15) (kI 0))⟩, ⟨(some 17), (some ((11, true))), (some (.r 16)), (.load none (.r 16))⟩, ⟨(some 18), (some ((11, true))), none, (kM 1)⟩, ⟨(some 19), (some ((11, true))), none, (.bin .eql (.r 17) (.r 18))⟩, oA 20 (.pick (.r 11) (.r 19) (kB false)), oA 4 (kM 20)]) .ret))⟩
theorem c84 : cfunc Tryd.prog 84 = some ir84 := by kernel_rfl
theorem k84 : okIR (max 2 ir84.n) ir84.ir = true := by decide +kernel
theorem s_Sees (n : Nms) (s : RS) (t : List UInt8) (j : JH) (o : Nat) (ho : o < j.next) (hg : j.get o = some (.cells RE (rdC n s))) : JC Tryd.prog G 84 [.ptr o 0, STR (ofL t)] j (RET (BOO (sees s t)) j) := by
  obtain ⟨ts, b, w⟩ := s
  cases ts with
  | nil =>
    refine JC.run hmix c84 (by exact k84) ?_
    (try simp only[↓jr,jw,seval,ext_get_old,ext_set_old,ho,hg,set_get,set_set,List.map_cons,List.drop_zero,slc_tail',List.length_cons,ir84])
    refine JFIN.rb ?_
    exact SubB.v
  | cons x r =>
    refine JC.run hmix c84 (by exact k84) ?_
    (try simp only[↓jr,jw,seval,ext_get_old,ext_set_old,ho,hg,set_get,set_set,List.map_cons,List.drop_zero,slc_tail',List.length_cons,ir84])
    refine wq.intro (fun h => ?_) (fun h => absurd (show (0 : Int) < ((r.length + 1 : Nat) : Int) by omega) h)
    (try simp only[↓jr,jw,seval,ext_get_old,ext_set_old,ho,hg,set_get,set_set,List.map_cons,List.drop_zero,slc_tail',List.length_cons])
    refine wc.intro ⟨by omega, by simp⟩ ?_
    (try simp only[↓jr,jw,seval,ext_get_old,ext_set_old,ho,hg,set_get,set_set,List.map_cons,List.drop_zero,slc_tail',List.length_cons])
    refine JFIN.rb ?_
    rw [sees_cons]; exact SubB.v
def ir85 : IFn := ⟨19, [], (.seq (.seq (.reg [oA 4 (kM 0), oA 5 (kM 1), oA 6 (.call 84 [.r 4, .r 5]), oA 7 (.not (.r 6))]) (.cond (.r 7) (.seq (.reg [oA 8 (kM 0), oA 9 (.nchk (.r 8)), oA 10 (.fadr 4 (.r 9)), oN (.store 1 (.r 10) (kB true))]) .ret) .skip)) (.reg [oA 11 (kM 0), oA 12 (kM 0), oA 13 (.nchk (.r 12)), oA 14 (.fadr 3 (.r 13)), oL 15 14 none, oA 16 (.slc 1 (.r 15) (some (kI 1)) none), oA 17 (.nchk (.r 11)), oA 18 (.fadr 3 (.r 17)), oN (.store 1 (.r 18) (.r 16))]))⟩
theorem c85 : cfunc Tryd.prog 85 = some ir85 := by kernel_rfl
theorem k85 : okIR (max 2 ir85.n) ir85.ir = true := by decide +kernel
theorem s_Take (n : Nms) (s : RS) (t : List UInt8) (j : JH) (o : Nat) (ho : o < j.next) (hg : j.get o = some (.cells RE (rdC n s))) : JC Tryd.prog G 85 [.ptr o 0, STR (ofL t)] j (RET (aret []) (j.set o (.cells RE (rdC n (take s t))))) := by
  refine JC.run hmix c85 (by exact k85) ?_
  (try simp only[↓jr,jw,seval,ext_get_old,ext_set_old,ho,hg,set_get,set_set,List.map_cons,List.drop_zero,slc_tail',List.length_cons,ir85])
  refine JCs.ret (s_Sees n s t _ o (by rw [ext_next]; unfold pid; omega) (by rw [ext_get_old ho]; exact hg)) ?_
  (try simp only[↓jr,jw,seval,ext_get_old,ext_set_old,ho,hg,set_get,set_set,List.map_cons,List.drop_zero,slc_tail',List.length_cons])
  refine ww.intro (fun h => ?_) (fun h => ?_)
  · obtain ⟨ts, b, w⟩ := s
    cases ts with
    | nil => cases h
    | cons x r =>
      (try simp only[↓jr,jw,seval,ext_get_old,ext_set_old,ho,hg,set_get,set_set,List.map_cons,List.drop_zero,slc_tail',List.length_cons])
      have e : take ⟨x :: r, b, w⟩ t = ⟨r, b, w⟩ := by unfold take; rw [h]; rfl
      rw [e]
      exact JFIN.ret (JDropH.back1 (TokExt.refl _) ho (OSub.pure (rdC_pur n ⟨r, b, w⟩))).of_ext (SubB.pure rfl)
  · (try simp only[↓jr,jw,seval,ext_get_old,ext_set_old,ho,hg,set_get,set_set,List.map_cons,List.drop_zero,slc_tail',List.length_cons])
    have e : take s t = ⟨s.ts, true, s.wr⟩ := by unfold take; rw [h]; rfl
    rw [e]
    exact JFIN.ret (JDropH.back1 (TokExt.refl _) ho (OSub.pure (rdC_pur n ⟨s.ts, true, s.wr⟩))).of_ext (SubB.pure rfl)
def ir102 : IFn := ⟨47, [⟨2, none⟩], (.seq (.reg [oA 2 (.mov (.k (.v (.string ⟨#[]⟩))))]) (.seq (.seq (.reg [oA 4 (kM 0), oA 5 (.nchk (.r 4)), oA 6 (.fadr 3 (.r 5)), oL 7 6 none, oT 8 7 (.lenl (.r 7)), oA 9 (.bin .eql (.r 8) (kI 0)), oA 10 (kM 9), ⟨(some 11), (some ((10, false))), none, (kM 0)⟩, ⟨(some 12), (some ((10, false))), none, (.nchk (.r 11))⟩, ⟨(some 13), (some ((10, false))), none, (.fadr 3 (.r 12))⟩, ⟨(some 14), (some ((10, false))), (some (.r 13)), (.load none (.r 13))⟩, ⟨(some 15), (some ((10, false))), none, (.iasl 1 (.r 14) (kI 0))⟩, ⟨(some 16), (some ((10, false))), (some (.r 15)), (.load none (.r 15))⟩, ⟨(some 17), (some ((10, false))), (some (.r 16)), (.call 79 [.r 16])⟩, ⟨(some 18), (some ((10, false))), none, (.not (.r 17))⟩, oA 19 (.pick (.r 10) (kB true) (.r 18)), oA 20 (kM 19), ⟨(some 21), (some ((20, false))), none, (kM 0)⟩, ⟨(some 22), (some ((20, false))), none, (.nchk (.r 21))⟩, ⟨(some 23), (some ((20, false))), none, (.fadr 3 (.r 22))⟩, ⟨(some 24), (some ((20, false))), (some (.r 23)), (.load none (.r 23))⟩, ⟨(some 25), (some ((20, false))), none, (.iasl 1 (.r 24) (kI 0))⟩, ⟨(some 26), (some ((20, false))), (some (.r 25)), (.load none (.r 25))⟩, ⟨(some 27), (some ((20, false))), (some (.r 26)), (.call 80 [.r 26])⟩, oA 28 (.pick (.r 20) (kB true) (.r 27))]) (.cond (.r 28) (.seq (.reg [oA 29 (kM 0), oA 30 (.nchk (.r 29)), oA 31 (.fadr 4 (.r 30)), oN (.store 1 (.r 31) (kB true))]) (.seq (.reg [oA 2 (.mov (.k (.v (.string ⟨#[]⟩))))]) .ret)) .skip)) (.seq (.reg [oA 32 (kM 0), oA 33 (.nchk (.r 32)), oA 34 (.fadr 3 (.r 33)), oL 35 34 none, oA 36 (.iasl 1 (.r 35) (kI 0)), oL 37 36 none, oA 3 (kM 37)]) (.seq (.reg [oA 38 (kM 0), oA 39 (kM 0), oA 40 (.nchk (.r 39)), oA 41 (.fadr 3 (.r 40)), oL 42 41 none, oA 43 (.slc 1 (.r 42) (some (kI 1)) none), oA 44 (.nchk (.r 38)), oA 45 (.fadr 3 (.r 44)), oN (.store 1 (.r 45) (.r 43))]) (.seq (.reg [oA 46 (kM 3), oA 2 (kM 46)]) .ret)))))⟩
theorem c102 : cfunc Tryd.prog 102 = some ir102 := by kernel_rfl
theorem k102 : okIR (max 1 ir102.n) ir102.ir = true := by decide +kernel
theorem s_WordR (n : Nms) (s : RS) (hs : RSok s) (j : JH) (o : Nat) (ho : o < j.next) (hg : j.get o = some (.cells RE (rdC n s))) : JC Tryd.prog G 102 [.ptr o 0] j (RET (STR (ofL (wordR s).1)) (j.set o (.cells RE (rdC n (wordR s).2)))) := by
  obtain ⟨ts, b, w⟩ := s
  cases ts with
  | nil =>
    refine JC.run hmix c102 (by exact k102) ?_
    (try simp only[↓jr,jw,seval,ext_get_old,ext_set_old,ho,hg,set_get,set_set,List.map_cons,List.drop_zero,slc_tail',List.length_cons,ir102])
    exact JFIN.ret (JDropH.back1 (TokExt.refl _) ho (OSub.pure (rdC_pur n ⟨[], true, w⟩))).of_ext SubB.v
  | cons x r =>
    have hx : x.length ≤ 1000000 := hs.2 x (by simp)
    refine JC.run hmix c102 (by exact k102) ?_
    (try simp only[↓jr,jw,seval,ext_get_old,ext_set_old,ho,hg,set_get,set_set,List.map_cons,List.drop_zero,slc_tail',List.length_cons,ir102])
    refine wq.intro (fun h => absurd h (by omega)) (fun h => ?_)
    (try simp only[↓jr,jw,seval,ext_get_old,ext_set_old,ho,hg,set_get,set_set,List.map_cons,List.drop_zero,slc_tail',List.length_cons])
    refine wc.intro ⟨by omega, by simp⟩ ?_
    (try simp only[↓jr,jw,seval,ext_get_old,ext_set_old,ho,hg,set_get,set_set,List.map_cons,List.drop_zero,slc_tail',List.length_cons])
    refine JCs.ret (s_Word _ _ (by rw [ofL_size]; omega)) ?_
    rw [bs_ofL]
    (try simp only[↓jr,jw,seval,ext_get_old,ext_set_old,ho,hg,set_get,set_set,List.map_cons,List.drop_zero,slc_tail',List.length_cons])
    have bad : wordK x = false → wordR ⟨x :: r, b, w⟩ = ([], ⟨x :: r, true, w⟩) := by intro h; simp only [wordR, h, Bool.false_eq_true, if_false]
    refine ww.intro (fun h1 => ?_) (fun h1 => ?_)
    · (try simp only[↓jr,jw,seval,ext_get_old,ext_set_old,ho,hg,set_get,set_set,List.map_cons,List.drop_zero,slc_tail',List.length_cons])
      refine wc.intro ⟨by omega, by simp⟩ ?_
      (try simp only[↓jr,jw,seval,ext_get_old,ext_set_old,ho,hg,set_get,set_set,List.map_cons,List.drop_zero,slc_tail',List.length_cons])
      refine JCs.ret (s_Reserved _ _) ?_
      (try simp only[↓jr,jw,seval,ext_get_old,ext_set_old,ho,hg,set_get,set_set,List.map_cons,List.drop_zero,slc_tail',List.length_cons])
      refine ww.intro (fun h2 => ?_) (fun h2 => ?_)
      · (try simp only[↓jr,jw,seval,ext_get_old,ext_set_old,ho,hg,set_get,set_set,List.map_cons,List.drop_zero,slc_tail',List.length_cons])
        rw [bad (by unfold wordK; rw [h2, Bool.not_true, Bool.and_false])]
        exact JFIN.ret (JDropH.back1 (TokExt.refl _) ho (OSub.pure (rdC_pur n ⟨x :: r, true, w⟩))).of_ext SubB.v
      · (try simp only[↓jr,jw,seval,ext_get_old,ext_set_old,ho,hg,set_get,set_set,List.map_cons,List.drop_zero,slc_tail',List.length_cons])
        refine wc.intro ⟨by omega, by simp⟩ ?_
        (try simp only[↓jr,jw,seval,ext_get_old,ext_set_old,ho,hg,set_get,set_set,List.map_cons,List.drop_zero,slc_tail',List.length_cons])
        have e : wordR ⟨x :: r, b, w⟩ = (x, ⟨r, b, w⟩) := by simp only [wordR, wordK, h1, h2, Bool.not_false, Bool.and_self, if_true]
        rw [e]
        exact JFIN.ret (JDropH.back1 (TokExt.refl _) ho (OSub.pure (rdC_pur n ⟨r, b, w⟩))).of_ext SubB.v
    · (try simp only[↓jr,jw,seval,ext_get_old,ext_set_old,ho,hg,set_get,set_set,List.map_cons,List.drop_zero,slc_tail',List.length_cons])
      rw [bad (by unfold wordK; rw [h1, Bool.false_and])]
      exact JFIN.ret (JDropH.back1 (TokExt.refl _) ho (OSub.pure (rdC_pur n ⟨x :: r, true, w⟩))).of_ext SubB.v
end
end Go.Proofs.YtcajjicdbphkpaaDoor.Pg
