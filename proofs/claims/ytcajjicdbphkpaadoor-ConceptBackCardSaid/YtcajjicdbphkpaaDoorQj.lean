/-
  The document's reader: concepts.
-/
import Derived.Test.YtcajjicdbphkpaaDoorQi
set_option linter.unusedVariables false
set_option linter.unusedSimpArgs false
set_option maxRecDepth 100000
set_option maxHeartbeats 8000000
namespace Go.Proofs.YtcajjicdbphkpaaDoor.Pg
open Go
section
variable {m : Int} {G : Nat → Option (List AV)}
theorem b2 {o : Nat} {j : JH} {e : TypeId} {n : Nms} {s : RS} {l : List AObj} {k : Nat} (ho : o < j.next) : JDropH (ext j []) (ext ((j.set o (.cells e (rdC n s))).pushTok k) l) (j.set o (.cells e (rdC n s))) := (JDropH.back1 (TokExt.push (TokExt.refl _) _) ho (OSub.pure (rdC_pur n s))).of_ext
theorem s_Of1 (o n : Int) (c : Con) (tok : Tok) (j : JH) : JC Tryd.prog G 86 [I64 o, I64 n, .sl tok 1 c.enc] j (RET (.agg (Con.mk o n [c]).enc) j) := by
  have := s_Of (G := G) o n [c] tok j
  rwa [encs_cons, encs_nil, List.append_nil] at this
theorem s_Of2 (o n : Int) (c d : Con) (tok : Tok) (j : JH) : JC Tryd.prog G 86 [I64 o, I64 n, .sl tok 2 (c.enc ++ d.enc)] j (RET (.agg (Con.mk o n [c, d]).enc) j) := by
  have := s_Of (G := G) o n [c, d] tok j
  rwa [encs_cons, encs_cons, encs_nil, List.append_nil] at this
def ir52 : IFn := ⟨100, [⟨2, (some (some 3))⟩], (.seq (.reg [oA 2 (.alloc 27 [.v (.int .i64 0), .v (.int .i64 0), .sl .nil 0 []])]) (.seq (.block 0 (.seq (.reg [oA 9 (kM 0), oA 10 (.nchk (.r 9)), oA 11 (.fadr 4 (.r 10)), oL 12 11 none, oA 13 (kM 12), ⟨(some 14), (some ((13, false))), none, (kM 0)⟩, ⟨(some 15), (some ((13, false))), none, (.nchk (.r 14))⟩, ⟨(some 16), (some ((13, false))), none, (.fadr 3 (.r 15))⟩, ⟨(some 17), (some ((13, false))), (some (.r 16)), (.load none (.r 16))⟩, ⟨(some 18), (some ((13, false))), (some (.r 17)), (.lenl (.r 17))⟩, ⟨(some 19), (some ((13, false))), none, (.bin .eql (.r 18) (kI 0))⟩, oA 20 (.pick (.r 13) (kB true) (.r 19)), oA 8 (kM 20)]) (.cond (.r 8) (.seq (.reg [oA 21 (kM 0), oA 22 (.nchk (.r 21)), oA 23 (.fadr 4 (.r 22)), oN (.store 1 (.r 23) (kB true))]) (.seq (.reg [oA 24 (.build [.v (.int .i64 0), .v (.int .i64 0), .sl .nil 0 []] []), oN (.store 3 (.r 2) (.r 24))]) .ret)) (.seq (.reg [oA 26 (kM 0), oA 27 (.call 84 [.r 26, .k (.v (.string ⟨#[116, 111, 112]⟩))]), oA 25 (kM 27)]) (.cond (.r 25) (.seq (.reg [oA 28 (kM 0), oA 29 (.call 85 [.r 28, .k (.v (.string ⟨#[116, 111, 112]⟩))])]) (.seq (.reg [oA 30 (.call 86 [.k (.v (.int .i64 1)), .k (.v (.int .i64 0)), .k (.sl .nil 0 [])]), oN (.store 3 (.r 2) (.r 30))]) .ret)) (.seq (.reg [oA 32 (kM 0), oA 33 (.call 84 [.r 32, .k (.v (.string ⟨#[98, 111, 116]⟩))]), oA 31 (kM 33)]) (.cond (.r 31) (.seq (.reg [oA 34 (kM 0), oA 35 (.call 85 [.r 34, .k (.v (.string ⟨#[98, 111, 116]⟩))])]) (.seq (.reg [oA 36 (.call 86 [.k (.v (.int .i64 2)), .k (.v (.int .i64 0)), .k (.sl .nil 0 [])]), oN (.store 3 (.r 2) (.r 36))]) .ret)) (.seq (.reg [oA 38 (kM 0), oA 39 (.call 84 [.r 38, .k (.v (.string ⟨#[110, 111, 116]⟩))]), oA 37 (kM 39)]) (.cond (.r 37) (.seq (.reg [oA 40 (kM 0), oA 41 (.call 85 [.r 40, .k (.v (.string ⟨#[110, 111, 116]⟩))])]) (.seq (.reg [oA 42 (kM 0), oT 43 42 (.call 52 [.r 42]), oA 44 (.bsl 1 3 [.v (.int .i64 0), .v (.int .i64 0), .sl .nil 0 []] [(0, (3, .r 43))]), oA 45 (.call 86 [.k (.v (.int .i64 3)), .k (.v (.int .i64 0)), .r 44]), oN (.store 3 (.r 2) (.r 45))]) .ret)) (.seq (.reg [oA 47 (kM 0), oA 48 (.call 84 [.r 47, .k (.v (.string ⟨#[115, 111, 109, 101]⟩))]), oA 46 (kM 48)]) (.cond (.r 46) (.seq (.reg [oA 49 (kM 0), oA 50 (.call 85 [.r 49, .k (.v (.string ⟨#[115, 111, 109, 101]⟩))])]) (.seq (.reg [oA 51 (kM 0), oT 52 51 (.call 87 [.r 51]), oA 3 (kM 52)]) (.seq (.reg [oA 53 (kM 3), oA 54 (kM 0), oT 55 54 (.call 52 [.r 54]), oA 56 (.bsl 1 3 [.v (.int .i64 0), .v (.int .i64 0), .sl .nil 0 []] [(0, (3, .r 55))]), oA 57 (.call 86 [.k (.v (.int .i64 6)), .r 53, .r 56]), oN (.store 3 (.r 2) (.r 57))]) .ret))) (.seq (.reg [oA 59 (kM 0), oA 60 (.call 84 [.r 59, .k (.v (.string ⟨#[97, 108, 108]⟩))]), oA 58 (kM 60)]) (.cond (.r 58) (.seq (.reg [oA 61 (kM 0), oA 62 (.call 85 [.r 61, .k (.v (.string ⟨#[97, 108, 108]⟩))])]) (.seq (.reg [oA 63 (kM 0), oT 64 63 (.call 87 [.r 63]), oA 4 (kM 64)]) (.seq (.reg [oA 65 (kM 4), oA 66 (kM 0), oT 67 66 (.call 52 [.r 66]), oA 68 (.bsl 1 3 [.v (.int .i64 0), .v (.int .i64 0), .sl .nil 0 []] [(0, (3, .r 67))]), oA 69 (.call 86 [.k (.v (.int .i64 7)), .r 65, .r 68]), oN (.store 3 (.r 2) (.r 69))]) .ret))) (.seq (.reg [oA 71 (kM 0), oA 72 (.call 84 [.r 71, .k (.v (.string ⟨#[40]⟩))]), oA 70 (kM 72)]) (.cond (.r 70) (.seq (.reg [oA 73 (kM 0), oA 74 (.call 85 [.r 73, .k (.v (.string ⟨#[40]⟩))])]) (.seq (.reg [oA 75 (kM 0), oT 76 75 (.call 52 [.r 75]), oA 5 (.alloc 27 [.v (.int .i64 0), .v (.int .i64 0), .sl .nil 0 []]), oN (.store 3 (.r 5) (.r 76))]) (.seq (.reg [oA 6 (.mov (kI 4))]) (.seq (.seq (.reg [oA 77 (kM 0), oA 78 (.call 84 [.r 77, .k (.v (.string ⟨#[111, 114]⟩))])]) (.cond (.r 78) (.seq (.reg [oA 6 (.mov (kI 5))]) (.reg [oA 79 (kM 0), oA 80 (.call 85 [.r 79, .k (.v (.string ⟨#[111, 114]⟩))])])) (.reg [oA 81 (kM 0), oA 82 (.call 85 [.r 81, .k (.v (.string ⟨#[97, 110, 100]⟩))])]))) (.seq (.reg [oA 83 (kM 0), oT 84 83 (.call 52 [.r 83]), oA 7 (.alloc 27 [.v (.int .i64 0), .v (.int .i64 0), .sl .nil 0 []]), oN (.store 3 (.r 7) (.r 84))]) (.seq (.reg [oA 85 (kM 0), oA 86 (.call 85 [.r 85, .k (.v (.string ⟨#[41]⟩))])]) (.seq (.reg [oA 87 (kM 6), oL 88 5 (some 3), oL 89 7 (some 3), oA 90 (.bsl 2 3 [.v (.int .i64 0), .v (.int .i64 0), .sl .nil 0 []] [(0, (3, .r 88)), (3, (3, .r 89))]), oA 91 (.call 86 [.r 87, .k (.v (.int .i64 0)), .r 90]), oN (.store 3 (.r 2) (.r 91))]) .ret))))))) .skip))))))))))))))) (.seq (.reg [oA 92 (kM 0), oA 93 (kM 0), oA 94 (.nchk (.r 93)), oA 95 (.fadr 0 (.r 94)), oA 96 (.fadr 0 (.r 95)), oL 97 96 none, oA 98 (.call 88 [.r 92, .r 97]), oA 99 (.call 86 [.k (.v (.int .i64 0)), .r 98, .k (.sl .nil 0 [])]), oN (.store 3 (.r 2) (.r 99))]) .ret)))⟩
theorem c52 : cfunc Tryd.prog 52 = some ir52 := by kernel_rfl
theorem k52 : okIR (max 1 ir52.n) ir52.ir = true := by decide +kernel
theorem s_rConcept (n : Nms) (h1 : n.cs.length ≤ 1000000) (h2 : n.rs.length ≤ 1000000) : ∀ (f : Nat) (s : RS) (j : JH) (o : Nat), RSok s → s.ts.length ≤ f → o < j.next → j.get o = some (.cells RE (rdC n s)) →
    JC Tryd.prog G 52 [.ptr o 0] j (RET (.agg (rcF n f s).1.enc) (j.set o (.cells RE (rdC n (rcF n f s).2)))) := by
  intro f
  induction f with
  | zero =>
    intro s j o hs hf ho hg
    obtain ⟨ts, b, w⟩ := s
    have hts : ts = [] := List.eq_nil_of_length_eq_zero (by simpa using hf)
    subst hts
    refine JC.run hmix c52 (by exact k52) ?_
    (try simp only[↓jr,jw,seval,ext_get_old,ext_set_old,ho,hg,set_get,set_set,List.map_cons,List.drop_zero,slc_tail',List.length_cons,List.length_nil,ir52])
    refine ww.intro (fun g => ?_) (fun g => ?_)
    all_goals
      (try simp only[↓jr,jw,seval,ext_get_old,ext_set_old,ho,hg,set_get,set_set,List.map_cons,List.drop_zero,slc_tail',List.length_cons,List.length_nil])
      exact JFIN.ret (b1 (n := n) (s := ⟨[], true, w⟩) ho) (SubB.agg nilC_sub)
  | succ f ih =>
    intro s j o hs hf ho hg
    refine JC.run hmix c52 (by exact k52) ?_
    (try simp only[↓jr,jw,seval,ext_get_old,ext_set_old,ho,hg,set_get,set_set,List.map_cons,List.drop_zero,slc_tail',List.length_cons,ir52])
    refine ww.intro (fun g => ?_) (fun g => ?_)
    · (try simp only[↓jr,jw,seval,ext_get_old,ext_set_old,ho,hg,set_get,set_set,List.map_cons,List.drop_zero,slc_tail',List.length_cons])
      have e : rcF n (f + 1) s = (nilC, ⟨s.ts, true, s.wr⟩) := by simp only [rcF]; rw [if_pos (by rw [g]; rfl)]
      rw [e]
      exact JFIN.ret (b1 (n := n) (s := ⟨s.ts, true, s.wr⟩) ho) (SubB.agg nilC_sub)
    (try simp only[↓jr,jw,seval,ext_get_old,ext_set_old,ho,hg,set_get,set_set,List.map_cons,List.drop_zero,slc_tail',List.length_cons])
    refine wq.intro (fun g' => ?_) (fun g' => ?_)
    · (try simp only[↓jr,jw,seval,ext_get_old,ext_set_old,ho,hg,set_get,set_set,List.map_cons,List.drop_zero,slc_tail',List.length_cons])
      have hts : s.ts = [] := List.eq_nil_of_length_eq_zero (by omega)
      have e : rcF n (f + 1) s = (nilC, ⟨s.ts, true, s.wr⟩) := by simp only [rcF]; rw [if_pos (by rw [hts]; simp)]
      rw [e]
      exact JFIN.ret (b1 (n := n) (s := ⟨s.ts, true, s.wr⟩) ho) (SubB.agg nilC_sub)
    have k0 : ¬ ((s.bad || s.ts.isEmpty) = true) := by
      rw [g, Bool.false_or, List.isEmpty_iff]
      intro h; rw [h] at g'; exact g' rfl
    (try simp only[↓jr,jw,seval,ext_get_old,ext_set_old,ho,hg,set_get,set_set,List.map_cons,List.drop_zero,slc_tail',List.length_cons])
    refine JCs.ret (s_Sees n s tTop _ o (by rw [ext_next]; unfold pid; omega) (by rw [ext_get_old ho]; exact hg)) ?_
    (try simp only[↓jr,jw,seval,ext_get_old,ext_set_old,ho,hg,set_get,set_set,List.map_cons,List.drop_zero,slc_tail',List.length_cons])
    refine ww.intro (fun k1 => ?_) (fun k1 => ?_)
    · have hl := sees_len k1
      (try simp only[↓jr,jw,seval,ext_get_old,ext_set_old,ho,hg,set_get,set_set,List.map_cons,List.drop_zero,slc_tail',List.length_cons])
      refine JCs.ret (s_Take n s tTop _ o (by rw [ext_next]; unfold pid; omega) (by rw [ext_get_old ho]; exact hg)) ?_
      (try simp only[↓jr,jw,seval,ext_get_old,ext_set_old,ho,hg,set_get,set_set,List.map_cons,List.drop_zero,slc_tail',List.length_cons])
      refine JCs.ret (s_Of 1 0 [] .nil _) ?_
      (try simp only[↓jr,jw,seval,ext_get_old,ext_set_old,ho,hg,set_get,set_set,List.map_cons,List.drop_zero,slc_tail',List.length_cons])
      have e : rcF n (f + 1) s = (.mk 1 0 [], take s tTop) := by simp only [rcF]; rw [if_neg k0, if_pos k1]
      rw [e]
      exact JFIN.ret (b1 ho) (SubB.pure (by simp only [AV.pure]; exact Con.pur _))
    replace k1 : ¬ sees s tTop = true := by rw [k1]; exact Bool.false_ne_true
    (try simp only[↓jr,jw,seval,ext_get_old,ext_set_old,ho,hg,set_get,set_set,List.map_cons,List.drop_zero,slc_tail',List.length_cons])
    refine JCs.ret (s_Sees n s tBot _ o (by rw [ext_next]; unfold pid; omega) (by rw [ext_get_old ho]; exact hg)) ?_
    (try simp only[↓jr,jw,seval,ext_get_old,ext_set_old,ho,hg,set_get,set_set,List.map_cons,List.drop_zero,slc_tail',List.length_cons])
    refine ww.intro (fun k2 => ?_) (fun k2 => ?_)
    · have hl := sees_len k2
      (try simp only[↓jr,jw,seval,ext_get_old,ext_set_old,ho,hg,set_get,set_set,List.map_cons,List.drop_zero,slc_tail',List.length_cons])
      refine JCs.ret (s_Take n s tBot _ o (by rw [ext_next]; unfold pid; omega) (by rw [ext_get_old ho]; exact hg)) ?_
      (try simp only[↓jr,jw,seval,ext_get_old,ext_set_old,ho,hg,set_get,set_set,List.map_cons,List.drop_zero,slc_tail',List.length_cons])
      refine JCs.ret (s_Of 2 0 [] .nil _) ?_
      (try simp only[↓jr,jw,seval,ext_get_old,ext_set_old,ho,hg,set_get,set_set,List.map_cons,List.drop_zero,slc_tail',List.length_cons])
      have e : rcF n (f + 1) s = (.mk 2 0 [], take s tBot) := by simp only [rcF]; rw [if_neg k0, if_neg k1, if_pos k2]
      rw [e]
      exact JFIN.ret (b1 ho) (SubB.pure (by simp only [AV.pure]; exact Con.pur _))
    replace k2 : ¬ sees s tBot = true := by rw [k2]; exact Bool.false_ne_true
    (try simp only[↓jr,jw,seval,ext_get_old,ext_set_old,ho,hg,set_get,set_set,List.map_cons,List.drop_zero,slc_tail',List.length_cons])
    refine JCs.ret (s_Sees n s tNot _ o (by rw [ext_next]; unfold pid; omega) (by rw [ext_get_old ho]; exact hg)) ?_
    (try simp only[↓jr,jw,seval,ext_get_old,ext_set_old,ho,hg,set_get,set_set,List.map_cons,List.drop_zero,slc_tail',List.length_cons])
    refine ww.intro (fun k3 => ?_) (fun k3 => ?_)
    · have hl := sees_len k3
      (try simp only[↓jr,jw,seval,ext_get_old,ext_set_old,ho,hg,set_get,set_set,List.map_cons,List.drop_zero,slc_tail',List.length_cons])
      refine JCs.ret (s_Take n s tNot _ o (by rw [ext_next]; unfold pid; omega) (by rw [ext_get_old ho]; exact hg)) ?_
      (try simp only[↓jr,jw,seval,ext_get_old,ext_set_old,ho,hg,set_get,set_set,List.map_cons,List.drop_zero,slc_tail',List.length_cons])
      have hq := hs.sfx (take_sfx s tNot)
      refine JCs.ret (ih (take s tNot) _ o hq (by omega) (by rw [ext_next]; simp only [set_next, pushTok_next]; unfold pid; omega) (by rw [ext_get_old (by simp only [set_next]; exact ho), set_get, if_pos rfl])) ?_
      (try simp only[↓jr,jw,seval,ext_get_old,ext_set_old,ho,hg,set_get,set_set,List.map_cons,List.drop_zero,slc_tail',List.length_cons])
      refine JCs.ret (s_Of1 3 0 _ _ _) ?_
      (try simp only[↓jr,jw,seval,ext_get_old,ext_set_old,ho,hg,set_get,set_set,List.map_cons,List.drop_zero,slc_tail',List.length_cons])
      have e : rcF n (f + 1) s = (.mk 3 0 [(rcF n f (take s tNot)).1], (rcF n f (take s tNot)).2) := by simp only [rcF]; rw [if_neg k0, if_neg k1, if_neg k2, if_pos k3]
      rw [e]
      exact JFIN.ret (b2 ho) (SubB.pure (by simp only [AV.pure]; exact Con.pur _))
    replace k3 : ¬ sees s tNot = true := by rw [k3]; exact Bool.false_ne_true
    (try simp only[↓jr,jw,seval,ext_get_old,ext_set_old,ho,hg,set_get,set_set,List.map_cons,List.drop_zero,slc_tail',List.length_cons])
    refine JCs.ret (s_Sees n s tSome _ o (by rw [ext_next]; unfold pid; omega) (by rw [ext_get_old ho]; exact hg)) ?_
    (try simp only[↓jr,jw,seval,ext_get_old,ext_set_old,ho,hg,set_get,set_set,List.map_cons,List.drop_zero,slc_tail',List.length_cons])
    refine ww.intro (fun k4 => ?_) (fun k4 => ?_)
    · have hl := sees_len k4
      (try simp only[↓jr,jw,seval,ext_get_old,ext_set_old,ho,hg,set_get,set_set,List.map_cons,List.drop_zero,slc_tail',List.length_cons])
      refine JCs.ret (s_Take n s tSome _ o (by rw [ext_next]; unfold pid; omega) (by rw [ext_get_old ho]; exact hg)) ?_
      (try simp only[↓jr,jw,seval,ext_get_old,ext_set_old,ho,hg,set_get,set_set,List.map_cons,List.drop_zero,slc_tail',List.length_cons])
      have hq := hs.sfx (take_sfx s tSome)
      have hr := (roleR_sfx n (take s tSome)).length_le
      refine JCs.ret (s_RoleR n (take s tSome) hq h2 _ o (by rw [ext_next]; simp only [set_next, pushTok_next]; unfold pid; omega) (by rw [ext_get_old (by simp only [set_next]; exact ho), set_get, if_pos rfl])) ?_
      (try simp only[↓jr,jw,seval,ext_get_old,ext_set_old,ho,hg,set_get,set_set,List.map_cons,List.drop_zero,slc_tail',List.length_cons])
      refine JCs.ret (ih (roleR n (take s tSome)).2 _ o (hq.sfx (roleR_sfx _ _)) (by omega) (by rw [ext_next]; simp only [set_next, pushTok_next]; unfold pid; omega) (by rw [ext_get_old (by simp only [set_next]; exact ho), set_get, if_pos rfl])) ?_
      (try simp only[↓jr,jw,seval,ext_get_old,ext_set_old,ho,hg,set_get,set_set,List.map_cons,List.drop_zero,slc_tail',List.length_cons])
      refine JCs.ret (s_Of1 6 (roleR n (take s tSome)).1 _ _ _) ?_
      (try simp only[↓jr,jw,seval,ext_get_old,ext_set_old,ho,hg,set_get,set_set,List.map_cons,List.drop_zero,slc_tail',List.length_cons])
      have e : rcF n (f + 1) s = (.mk 6 (roleR n (take s tSome)).1 [(rcF n f (roleR n (take s tSome)).2).1], (rcF n f (roleR n (take s tSome)).2).2) := by simp only [rcF]; rw [if_neg k0, if_neg k1, if_neg k2, if_neg k3, if_pos k4]
      rw [e]
      exact JFIN.ret (b2 ho) (SubB.pure (by simp only [AV.pure]; exact Con.pur _))
    replace k4 : ¬ sees s tSome = true := by rw [k4]; exact Bool.false_ne_true
    (try simp only[↓jr,jw,seval,ext_get_old,ext_set_old,ho,hg,set_get,set_set,List.map_cons,List.drop_zero,slc_tail',List.length_cons])
    refine JCs.ret (s_Sees n s tAll _ o (by rw [ext_next]; unfold pid; omega) (by rw [ext_get_old ho]; exact hg)) ?_
    (try simp only[↓jr,jw,seval,ext_get_old,ext_set_old,ho,hg,set_get,set_set,List.map_cons,List.drop_zero,slc_tail',List.length_cons])
    refine ww.intro (fun k5 => ?_) (fun k5 => ?_)
    · have hl := sees_len k5
      (try simp only[↓jr,jw,seval,ext_get_old,ext_set_old,ho,hg,set_get,set_set,List.map_cons,List.drop_zero,slc_tail',List.length_cons])
      refine JCs.ret (s_Take n s tAll _ o (by rw [ext_next]; unfold pid; omega) (by rw [ext_get_old ho]; exact hg)) ?_
      (try simp only[↓jr,jw,seval,ext_get_old,ext_set_old,ho,hg,set_get,set_set,List.map_cons,List.drop_zero,slc_tail',List.length_cons])
      have hq := hs.sfx (take_sfx s tAll)
      have hr := (roleR_sfx n (take s tAll)).length_le
      refine JCs.ret (s_RoleR n (take s tAll) hq h2 _ o (by rw [ext_next]; simp only [set_next, pushTok_next]; unfold pid; omega) (by rw [ext_get_old (by simp only [set_next]; exact ho), set_get, if_pos rfl])) ?_
      (try simp only[↓jr,jw,seval,ext_get_old,ext_set_old,ho,hg,set_get,set_set,List.map_cons,List.drop_zero,slc_tail',List.length_cons])
      refine JCs.ret (ih (roleR n (take s tAll)).2 _ o (hq.sfx (roleR_sfx _ _)) (by omega) (by rw [ext_next]; simp only [set_next, pushTok_next]; unfold pid; omega) (by rw [ext_get_old (by simp only [set_next]; exact ho), set_get, if_pos rfl])) ?_
      (try simp only[↓jr,jw,seval,ext_get_old,ext_set_old,ho,hg,set_get,set_set,List.map_cons,List.drop_zero,slc_tail',List.length_cons])
      refine JCs.ret (s_Of1 7 (roleR n (take s tAll)).1 _ _ _) ?_
      (try simp only[↓jr,jw,seval,ext_get_old,ext_set_old,ho,hg,set_get,set_set,List.map_cons,List.drop_zero,slc_tail',List.length_cons])
      have e : rcF n (f + 1) s = (.mk 7 (roleR n (take s tAll)).1 [(rcF n f (roleR n (take s tAll)).2).1], (rcF n f (roleR n (take s tAll)).2).2) := by simp only [rcF]; rw [if_neg k0, if_neg k1, if_neg k2, if_neg k3, if_neg k4, if_pos k5]
      rw [e]
      exact JFIN.ret (b2 ho) (SubB.pure (by simp only [AV.pure]; exact Con.pur _))
    replace k5 : ¬ sees s tAll = true := by rw [k5]; exact Bool.false_ne_true
    (try simp only[↓jr,jw,seval,ext_get_old,ext_set_old,ho,hg,set_get,set_set,List.map_cons,List.drop_zero,slc_tail',List.length_cons])
    refine JCs.ret (s_Sees n s [40] _ o (by rw [ext_next]; unfold pid; omega) (by rw [ext_get_old ho]; exact hg)) ?_
    (try simp only[↓jr,jw,seval,ext_get_old,ext_set_old,ho,hg,set_get,set_set,List.map_cons,List.drop_zero,slc_tail',List.length_cons])
    refine ww.intro (fun k6 => ?_) (fun k6 => ?_)
    · have hl := sees_len k6
      (try simp only[↓jr,jw,seval,ext_get_old,ext_set_old,ho,hg,set_get,set_set,List.map_cons,List.drop_zero,slc_tail',List.length_cons])
      refine JCs.ret (s_Take n s [40] _ o (by rw [ext_next]; unfold pid; omega) (by rw [ext_get_old ho]; exact hg)) ?_
      (try simp only[↓jr,jw,seval,ext_get_old,ext_set_old,ho,hg,set_get,set_set,List.map_cons,List.drop_zero,slc_tail',List.length_cons])
      have hq := hs.sfx (take_sfx s [40])
      have hr1 := (rcF_sfx n f (take s [40])).length_le
      refine JCs.ret (ih (take s [40]) _ o hq (by omega) (by rw [ext_next]; simp only [set_next, pushTok_next]; unfold pid; omega) (by rw [ext_get_old (by simp only [set_next]; exact ho), set_get, if_pos rfl])) ?_
      (try simp only[↓jr,jw,seval,ext_get_old,ext_set_old,ho,hg,set_get,set_set,List.map_cons,List.drop_zero,slc_tail',List.length_cons])
      have hq2 := hq.sfx (rcF_sfx n f (take s [40]))
      refine JCs.ret (s_Sees n (rcF n f (take s [40])).2 tOr _ o (by rw [ext_next]; simp only [set_next, pushTok_next]; unfold pid; omega) (by rw [ext_get_old (by simp only [set_next]; exact ho), set_get, if_pos rfl])) ?_
      (try simp only[↓jr,jw,seval,ext_get_old,ext_set_old,ho,hg,set_get,set_set,List.map_cons,List.drop_zero,slc_tail',List.length_cons])
      refine ww.intro (fun g7 => ?_) (fun g7 => ?_)
      · (try simp only[↓jr,jw,seval,ext_get_old,ext_set_old,ho,hg,set_get,set_set,List.map_cons,List.drop_zero,slc_tail',List.length_cons])
        have hr2 := (take_sfx (rcF n f (take s [40])).2 tOr).length_le
        refine JCs.ret (s_Take n (rcF n f (take s [40])).2 tOr _ o (by rw [ext_next]; simp only [set_next, pushTok_next]; unfold pid; omega) (by rw [ext_get_old (by simp only [set_next]; exact ho), set_get, if_pos rfl])) ?_
        (try simp only[↓jr,jw,seval,ext_get_old,ext_set_old,ho,hg,set_get,set_set,List.map_cons,List.drop_zero,slc_tail',List.length_cons])
        refine JCs.ret (ih (take (rcF n f (take s [40])).2 tOr) _ o (hq2.sfx (take_sfx _ _)) (by omega) (by rw [ext_next]; simp only [set_next, pushTok_next]; unfold pid; omega) (by rw [ext_get_old (by simp only [set_next]; exact ho), set_get, if_pos rfl])) ?_
        (try simp only[↓jr,jw,seval,ext_get_old,ext_set_old,ho,hg,set_get,set_set,List.map_cons,List.drop_zero,slc_tail',List.length_cons])
        refine JCs.ret (s_Take n (rcF n f (take (rcF n f (take s [40])).2 tOr)).2 [41] _ o (by rw [ext_next]; simp only [set_next, pushTok_next]; unfold pid; omega) (by rw [ext_get_old (by simp only [set_next]; exact ho), set_get, if_pos rfl])) ?_
        (try simp only[↓jr,jw,seval,ext_get_old,ext_set_old,ho,hg,set_get,set_set,List.map_cons,List.drop_zero,slc_tail',List.length_cons])
        refine JCs.ret (s_Of2 5 0 _ _ _ _) ?_
        (try simp only[↓jr,jw,seval,ext_get_old,ext_set_old,ho,hg,set_get,set_set,List.map_cons,List.drop_zero,slc_tail',List.length_cons])
        have e : rcF n (f + 1) s = (.mk 5 0 [(rcF n f (take s [40])).1, (rcF n f (take (rcF n f (take s [40])).2 tOr)).1], take (rcF n f (take (rcF n f (take s [40])).2 tOr)).2 [41]) := by simp only [rcF]; rw [if_neg k0, if_neg k1, if_neg k2, if_neg k3, if_neg k4, if_neg k5, if_pos k6, if_pos g7]
        rw [e]
        exact JFIN.ret (b2 ho) (SubB.pure (by simp only [AV.pure]; exact Con.pur _))
      · (try simp only[↓jr,jw,seval,ext_get_old,ext_set_old,ho,hg,set_get,set_set,List.map_cons,List.drop_zero,slc_tail',List.length_cons])
        have hr2 := (take_sfx (rcF n f (take s [40])).2 tAnd).length_le
        refine JCs.ret (s_Take n (rcF n f (take s [40])).2 tAnd _ o (by rw [ext_next]; simp only [set_next, pushTok_next]; unfold pid; omega) (by rw [ext_get_old (by simp only [set_next]; exact ho), set_get, if_pos rfl])) ?_
        (try simp only[↓jr,jw,seval,ext_get_old,ext_set_old,ho,hg,set_get,set_set,List.map_cons,List.drop_zero,slc_tail',List.length_cons])
        refine JCs.ret (ih (take (rcF n f (take s [40])).2 tAnd) _ o (hq2.sfx (take_sfx _ _)) (by omega) (by rw [ext_next]; simp only [set_next, pushTok_next]; unfold pid; omega) (by rw [ext_get_old (by simp only [set_next]; exact ho), set_get, if_pos rfl])) ?_
        (try simp only[↓jr,jw,seval,ext_get_old,ext_set_old,ho,hg,set_get,set_set,List.map_cons,List.drop_zero,slc_tail',List.length_cons])
        refine JCs.ret (s_Take n (rcF n f (take (rcF n f (take s [40])).2 tAnd)).2 [41] _ o (by rw [ext_next]; simp only [set_next, pushTok_next]; unfold pid; omega) (by rw [ext_get_old (by simp only [set_next]; exact ho), set_get, if_pos rfl])) ?_
        (try simp only[↓jr,jw,seval,ext_get_old,ext_set_old,ho,hg,set_get,set_set,List.map_cons,List.drop_zero,slc_tail',List.length_cons])
        refine JCs.ret (s_Of2 4 0 _ _ _ _) ?_
        (try simp only[↓jr,jw,seval,ext_get_old,ext_set_old,ho,hg,set_get,set_set,List.map_cons,List.drop_zero,slc_tail',List.length_cons])
        have e : rcF n (f + 1) s = (.mk 4 0 [(rcF n f (take s [40])).1, (rcF n f (take (rcF n f (take s [40])).2 tAnd)).1], take (rcF n f (take (rcF n f (take s [40])).2 tAnd)).2 [41]) := by simp only [rcF]; rw [if_neg k0, if_neg k1, if_neg k2, if_neg k3, if_neg k4, if_neg k5, if_pos k6, if_neg (by rw [g7]; exact Bool.false_ne_true)]
        rw [e]
        exact JFIN.ret (b2 ho) (SubB.pure (by simp only [AV.pure]; exact Con.pur _))
    replace k6 : ¬ sees s [40] = true := by rw [k6]; exact Bool.false_ne_true
    (try simp only[↓jr,jw,seval,ext_get_old,ext_set_old,ho,hg,set_get,set_set,List.map_cons,List.drop_zero,slc_tail',List.length_cons])
    refine JCs.ret (s_Index n s hs n.cs h1 _ o (by rw [ext_next]; unfold pid; omega) (by rw [ext_get_old ho]; exact hg)) ?_
    (try simp only[↓jr,jw,seval,ext_get_old,ext_set_old,ho,hg,set_get,set_set,List.map_cons,List.drop_zero,slc_tail',List.length_cons])
    refine JCs.ret (s_Of 0 (indexR n.cs s).1 [] .nil _) ?_
    (try simp only[↓jr,jw,seval,ext_get_old,ext_set_old,ho,hg,set_get,set_set,List.map_cons,List.drop_zero,slc_tail',List.length_cons])
    have e : rcF n (f + 1) s = (.mk 0 (indexR n.cs s).1 [], (indexR n.cs s).2) := by simp only [rcF]; rw [if_neg k0, if_neg k1, if_neg k2, if_neg k3, if_neg k4, if_neg k5, if_neg k6]
    rw [e]
    exact JFIN.ret (b1 ho) (SubB.pure (by simp only [AV.pure]; exact Con.pur _))
end
end Go.Proofs.YtcajjicdbphkpaaDoor.Pg
