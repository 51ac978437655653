/-
  The document's reader: indexes, roles, concepts.
-/
import Derived.Test.YtcajjicdbphkpaaDoorQh
set_option linter.unusedVariables false
set_option linter.unusedSimpArgs false
set_option maxRecDepth 100000
set_option maxHeartbeats 8000000
namespace Go.Proofs.YtcajjicdbphkpaaDoor.Pg
open Go
theorem take_sfx (s : RS) (t : List UInt8) : (take s t).ts <:+ s.ts := by
  unfold take; split
  · exact List.tail_suffix _
  · exact List.suffix_refl _
theorem wordR_sfx (s : RS) : (wordR s).2.ts <:+ s.ts := by
  obtain ⟨ts, b, w⟩ := s
  cases ts with
  | nil => exact List.suffix_refl _
  | cons t r =>
    simp only [wordR]
    split
    · exact List.suffix_cons _ _
    · exact List.suffix_refl _
theorem indexR_sfx (l : List ByteArray) (s : RS) : (indexR l s).2.ts <:+ s.ts := by
  unfold indexR; split <;> exact wordR_sfx s
theorem roleR_sfx (n : Nms) (s : RS) : (roleR n s).2.ts <:+ s.ts := by
  unfold roleR; split
  · exact (take_sfx _ _).trans (indexR_sfx _ _)
  · exact indexR_sfx _ _
theorem RSok.sfx {s s' : RS} (h : RSok s) (k : s'.ts <:+ s.ts) : RSok s' := ⟨Nat.le_trans k.length_le h.1, fun t ht => h.2 t (k.subset ht)⟩
theorem findS_lt : ∀ (l : List ByteArray) (s : ByteArray), findS l s < l.length
  | [], s => by simp [findS]
  | x :: l, s => by
    have := findS_lt l s
    have := findS_ge l s
    simp only [findS, List.length_cons]
    repeat' split
    all_goals omega
theorem indexR_in (l : List ByteArray) (s : RS) : 0 ≤ (indexR l s).1 ∧ (indexR l s).1 ≤ l.length := by
  unfold indexR
  have := findS_lt l (ofL (wordR s).1)
  split
  · simp
  · simp only; omega
theorem roleR_in (n : Nms) (s : RS) : 0 ≤ (roleR n s).1 ∧ (roleR n s).1 ≤ 2 * n.rs.length + 1 := by
  have := indexR_in n.rs s
  unfold roleR; split <;> (simp only; omega)
def rcF (n : Nms) : Nat → RS → Con × RS
  | 0, s => (nilC, ⟨s.ts, true, s.wr⟩)
  | f + 1, s =>
    if (s.bad || s.ts.isEmpty) = true then (nilC, ⟨s.ts, true, s.wr⟩)
    else if sees s tTop = true then (.mk 1 0 [], take s tTop)
    else if sees s tBot = true then (.mk 2 0 [], take s tBot)
    else if sees s tNot = true then (.mk 3 0 [(rcF n f (take s tNot)).1], (rcF n f (take s tNot)).2)
    else if sees s tSome = true then (.mk 6 (roleR n (take s tSome)).1 [(rcF n f (roleR n (take s tSome)).2).1], (rcF n f (roleR n (take s tSome)).2).2)
    else if sees s tAll = true then (.mk 7 (roleR n (take s tAll)).1 [(rcF n f (roleR n (take s tAll)).2).1], (rcF n f (roleR n (take s tAll)).2).2)
    else if sees s [40] = true then
      if sees (rcF n f (take s [40])).2 tOr = true then (.mk 5 0 [(rcF n f (take s [40])).1, (rcF n f (take (rcF n f (take s [40])).2 tOr)).1], take (rcF n f (take (rcF n f (take s [40])).2 tOr)).2 [41])
      else (.mk 4 0 [(rcF n f (take s [40])).1, (rcF n f (take (rcF n f (take s [40])).2 tAnd)).1], take (rcF n f (take (rcF n f (take s [40])).2 tAnd)).2 [41])
    else (.mk 0 (indexR n.cs s).1 [], (indexR n.cs s).2)
theorem rcF_sfx (n : Nms) : ∀ (f : Nat) (s : RS), (rcF n f s).2.ts <:+ s.ts
  | 0, s => List.suffix_refl _
  | f + 1, s => by
    have ih := rcF_sfx n f
    have tk := take_sfx
    simp only [rcF]
    repeat' split
    · exact List.suffix_refl _
    · exact tk _ _
    · exact tk _ _
    · exact (ih _).trans (tk _ _)
    · exact (ih _).trans ((roleR_sfx _ _).trans (tk _ _))
    · exact (ih _).trans ((roleR_sfx _ _).trans (tk _ _))
    · exact (tk _ _).trans ((ih _).trans ((tk _ _).trans ((ih _).trans (tk _ _))))
    · exact (tk _ _).trans ((ih _).trans ((tk _ _).trans ((ih _).trans (tk _ _))))
    · exact indexR_sfx _ _
theorem rcF_ok (n : Nms) (h1 : n.cs.length ≤ 1000000) (h2 : n.rs.length ≤ 1000000) : ∀ (f : Nat) (s : RS), (rcF n f s).1.ok
  | 0, s => nilC_ok
  | f + 1, s => by
    have ih := rcF_ok n h1 h2 f
    have r : ∀ i : Int, -10 ≤ i → i ≤ 3000000 → R64 i := fun i a b => by unfold R64; omega
    have q1 := fun t => roleR_in n (take s t)
    have q2 := indexR_in n.cs s
    simp only [rcF]
    repeat' split
    all_goals first
      | exact nilC_ok
      | (refine ⟨r _ (by omega) (by omega), r _ (by omega) (by omega), by simp, ?_⟩; simp only [Con.oks, ih, and_self]; done)
      | (refine ⟨r _ (by omega) (by omega), r _ (by have := q1 tSome; have := q1 tAll; omega) (by have := q1 tSome; have := q1 tAll; omega), by simp, ?_⟩; simp only [Con.oks, ih, and_self]; done)
theorem sees_len {s : RS} {t : List UInt8} (h : sees s t = true) : (take s t).ts.length + 1 = s.ts.length := by
  obtain ⟨ts, b, w⟩ := s
  cases ts with
  | nil => cases h
  | cons x r => unfold take; rw [h]; rfl
section
variable {m : Int} {G : Nat → Option (List AV)}
theorem b1 {o : Nat} {j : JH} {e : TypeId} {n : Nms} {s : RS} {l : List AObj} (ho : o < j.next) : JDropH (ext j []) (ext (j.set o (.cells e (rdC n s))) l) (j.set o (.cells e (rdC n s))) := (JDropH.back1 (TokExt.refl _) ho (OSub.pure (rdC_pur n s))).of_ext
def ir88 : IFn := ⟨18, [⟨4, none⟩], (.seq (.reg [oA 4 (.mov (kI 0))]) (.seq (.reg [oA 7 (kM 0), oT 8 7 (.call 102 [.r 7]), oA 5 (kM 8)]) (.seq (.reg [oA 9 (kM 1), oA 10 (kM 5), oA 11 (.call 50 [.r 9, .r 10]), oA 6 (kM 11)]) (.seq (.seq (.reg [oA 12 (kM 6), oA 13 (.bin .lss (.r 12) (kI 0))]) (.cond (.r 13) (.seq (.reg [oA 14 (kM 0), oA 15 (.nchk (.r 14)), oA 16 (.fadr 5 (.r 15)), oN (.store 1 (.r 16) (kB true))]) (.seq (.reg [oA 4 (.mov (kI 0))]) .ret)) .skip)) (.seq (.reg [oA 17 (kM 6), oA 4 (kM 17)]) .ret)))))⟩
theorem c88 : cfunc Tryd.prog 88 = some ir88 := by kernel_rfl
theorem k88 : okIR (max 2 ir88.n) ir88.ir = true := by decide +kernel
theorem s_Index (n : Nms) (s : RS) (hs : RSok s) (l : List ByteArray) (hl : l.length ≤ 1000000) (j : JH) (o : Nat) (ho : o < j.next) (hg : j.get o = some (.cells RE (rdC n s))) : JC Tryd.prog G 88 [.ptr o 0, .sl .none l.length (strs l)] j (RET (I64 (indexR l s).1) (j.set o (.cells RE (rdC n (indexR l s).2)))) := by
  refine JC.run hmix c88 (by exact k88) ?_
  (try simp only[↓jr,jw,seval,ext_get_old,ext_set_old,ho,hg,set_get,set_set,List.map_cons,List.drop_zero,slc_tail',List.length_cons,ir88])
  refine JCs.ret (s_WordR n s hs _ o (by rw [ext_next]; unfold pid; omega) (by rw [ext_get_old ho]; exact hg)) ?_
  (try simp only[↓jr,jw,seval,ext_get_old,ext_set_old,ho,hg,set_get,set_set,List.map_cons,List.drop_zero,slc_tail',List.length_cons])
  refine JCs.ret (s_Find l _ .none _ (by omega)) ?_
  (try simp only[↓jr,jw,seval,ext_get_old,ext_set_old,ho,hg,set_get,set_set,List.map_cons,List.drop_zero,slc_tail',List.length_cons])
  refine wq.intro (fun h => ?_) (fun h => ?_)
  · (try simp only[↓jr,jw,seval,ext_get_old,ext_set_old,ho,hg,set_get,set_set,List.map_cons,List.drop_zero,slc_tail',List.length_cons])
    have e : indexR l s = (0, ⟨(wordR s).2.ts, (wordR s).2.bad, true⟩) := by unfold indexR; rw [if_pos h]
    rw [e]
    exact JFIN.ret (b1 (n := n) (s := ⟨(wordR s).2.ts, (wordR s).2.bad, true⟩) ho) SubB.v
  · (try simp only[↓jr,jw,seval,ext_get_old,ext_set_old,ho,hg,set_get,set_set,List.map_cons,List.drop_zero,slc_tail',List.length_cons])
    have e : indexR l s = (findS l (ofL (wordR s).1), (wordR s).2) := by unfold indexR; rw [if_neg h]
    rw [e]
    exact JFIN.ret (b1 ho) SubB.v
def ir87 : IFn := ⟨19, [⟨2, none⟩], (.seq (.reg [oA 2 (.mov (kI 0))]) (.seq (.reg [oA 4 (kM 0), oA 5 (kM 0), oA 6 (.nchk (.r 5)), oA 7 (.fadr 0 (.r 6)), oA 8 (.fadr 1 (.r 7)), oL 9 8 none, oA 10 (.call 88 [.r 4, .r 9]), oA 11 (.bin .mul (kI 2) (.r 10)), oA 3 (kM 11)]) (.seq (.seq (.reg [oA 12 (kM 0), oA 13 (.call 84 [.r 12, .k (.v (.string ⟨#[45]⟩))])]) (.cond (.r 13) (.seq (.reg [oA 14 (kM 0), oA 15 (.call 85 [.r 14, .k (.v (.string ⟨#[45]⟩))])]) (.reg [oA 16 (kM 3), oA 17 (.bin .add (.r 16) (kI 1)), oA 3 (kM 17)])) .skip)) (.seq (.reg [oA 18 (kM 3), oA 2 (kM 18)]) .ret))))⟩
theorem c87 : cfunc Tryd.prog 87 = some ir87 := by kernel_rfl
theorem k87 : okIR (max 1 ir87.n) ir87.ir = true := by decide +kernel
theorem s_RoleR (n : Nms) (s : RS) (hs : RSok s) (hl : n.rs.length ≤ 1000000) (j : JH) (o : Nat) (ho : o < j.next) (hg : j.get o = some (.cells RE (rdC n s))) : JC Tryd.prog G 87 [.ptr o 0] j (RET (I64 (roleR n s).1) (j.set o (.cells RE (rdC n (roleR n s).2)))) := by
  have hin := indexR_in n.rs s
  refine JC.run hmix c87 (by exact k87) ?_
  (try simp only[↓jr,jw,seval,ext_get_old,ext_set_old,ho,hg,set_get,set_set,List.map_cons,List.drop_zero,slc_tail',List.length_cons,ir87])
  refine JCs.ret (s_Index n s hs n.rs hl _ o (by rw [ext_next]; unfold pid; omega) (by rw [ext_get_old ho]; exact hg)) ?_
  (try simp only[↓jr,jw,seval,ext_get_old,ext_set_old,ho,hg,set_get,set_set,List.map_cons,List.drop_zero,slc_tail',List.length_cons])
  refine wr.in (by unfold R64; omega) ?_
  (try simp only[↓jr,jw,seval,ext_get_old,ext_set_old,ho,hg,set_get,set_set,List.map_cons,List.drop_zero,slc_tail',List.length_cons])
  refine JCs.ret (s_Sees n (indexR n.rs s).2 [45] _ o (by rw [ext_next, set_next]; unfold pid; omega) (by rw [ext_get_old (by rw [set_next]; exact ho), set_get, if_pos rfl])) ?_
  (try simp only[↓jr,jw,seval,ext_get_old,ext_set_old,ho,hg,set_get,set_set,List.map_cons,List.drop_zero,slc_tail',List.length_cons])
  refine ww.intro (fun h => ?_) (fun h => ?_)
  · (try simp only[↓jr,jw,seval,ext_get_old,ext_set_old,ho,hg,set_get,set_set,List.map_cons,List.drop_zero,slc_tail',List.length_cons])
    refine JCs.ret (s_Take n (indexR n.rs s).2 [45] _ o (by rw [ext_next, set_next]; unfold pid; omega) (by rw [ext_get_old (by rw [set_next]; exact ho), set_get, if_pos rfl])) ?_
    (try simp only[↓jr,jw,seval,ext_get_old,ext_set_old,ho,hg,set_get,set_set,List.map_cons,List.drop_zero,slc_tail',List.length_cons])
    refine wc.intro (by unfold R64; omega) ?_
    (try simp only[↓jr,jw,seval,ext_get_old,ext_set_old,ho,hg,set_get,set_set,List.map_cons,List.drop_zero,slc_tail',List.length_cons])
    have e : roleR n s = (2 * (indexR n.rs s).1 + 1, take (indexR n.rs s).2 [45]) := by unfold roleR; rw [if_pos h]
    rw [e]
    exact JFIN.ret (b1 ho) SubB.v
  · (try simp only[↓jr,jw,seval,ext_get_old,ext_set_old,ho,hg,set_get,set_set,List.map_cons,List.drop_zero,slc_tail',List.length_cons])
    have e : roleR n s = (2 * (indexR n.rs s).1, (indexR n.rs s).2) := by unfold roleR; rw [if_neg (by rw [h]; exact Bool.false_ne_true)]
    rw [e]
    exact JFIN.ret (b1 ho) SubB.v
end
end Go.Proofs.YtcajjicdbphkpaaDoor.Pg
