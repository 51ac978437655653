/-
  What the program says of inclusions.
-/
import Derived.Test.YtkcbhebbjpiibaaDoorLt
set_option linter.unusedVariables false
set_option linter.unusedSimpArgs false
set_option linter.defProp false
set_option maxRecDepth 20000
set_option maxHeartbeats 1000000
namespace Go.Proofs.YtkcbhebbjpiibaaDoor.Pg
open Go
theorem sbLu {A : Prop} (h : A := by repeat' (first | exact trivial | refine And.intro ?_ ?_ | exact SubB.v | exact SubB.any | ((first | refine SubB.ptr ?_ | refine SubB.arr ?_ | refine SubB.mp ?_) <;> first | assumption | (unfold pid; omega)) | ((first | refine SubB.pure ?_ | refine SubBs.pure ?_) <;> (simp only [AV.pure, AV.pures, pures_append, jpu, rrow_pur, rb_pur, Bool.and_self, Bool.and_true, Bool.true_and]; done)) | refine SubB.fn ?_ ?_ | refine SubB.sl ?_ ?_ | refine SubB.agg ?_ | refine SubB.tup ?_ | rfl)) : A := h
variable {m : Int} {G : Nat → Option (List AV)}
theorem numC_lt {n : Nms} (hn : namesOK n = true) {c : Con} (h : shaped n.cs.length n.rs.length c = true) : ∃ k : Nat, numC c = k ∧ k < 28 := by
  have hf := names_few hn
  unfold numC
  split
  · rename_i hb
    obtain ⟨op, k, l⟩ := c
    have h' := basC_op hb
    rw [shaped_mk] at h
    obtain ⟨⟨h1, h2, h3, h4, h5⟩, _⟩ := h
    simp only [Con.op] at h'
    simp only [basN]
    rcases h' with rfl | rfl
    · have := h3 rfl
      refine ⟨k.toNat, ?_, ?_⟩
      · rw [if_pos rfl]; omega
      · omega
    · have := h4 (by decide) rfl
      refine ⟨(16 + k).toNat, ?_, ?_⟩
      · rw [if_neg (by decide)]; omega
      · omega
  · exact ⟨0, rfl, by decide⟩
theorem rhsC_lt {n : Nms} (hn : namesOK n = true) {c : Con} (h : shaped n.cs.length n.rs.length c = true) : ∃ k : Nat, (rhsC c).1 = k ∧ k < 28 := by
  unfold rhsC
  split
  · exact ⟨0, rfl, by decide⟩
  · obtain ⟨op, k, l⟩ := c
    cases l with
    | nil => exact numC_lt hn h
    | cons a l =>
      simp only
      split
      · rw [shaped_mk] at h
        exact numC_lt hn (shapedL_mem h.2 List.mem_cons_self)
      · exact numC_lt hn h
theorem basR_roles {b : Bas} (h : basR b = true) : ∀ x ∈ b.roles, rolOK b.nms x.sub = true ∧ rolOK b.nms x.sup = true := by
  unfold basR at h
  simp only [Bool.and_eq_true] at h
  intro x hx
  have := List.all_eq_true.1 h.2.2.1 x hx
  simpa [Bool.and_eq_true] using this
theorem rolOK_lt {n : Nms} (hn : namesOK n = true) {r : Int} (h : rolOK n r = true) : ∃ s : Nat, r = s ∧ s < 12 := by
  have hf := names_few hn
  unfold rolOK at h
  simp only [Bool.and_eq_true, decide_eq_true_eq] at h
  exact ⟨r.toNat, by omega, by omega⟩
theorem basR_lite {b : Bas} (h : basR b = true) : b.lite where
  hds := basR_hds h
  rs := basR_rs h
  rol := fun x hx => by
    obtain ⟨h1, h2⟩ := basR_roles h x hx
    obtain ⟨s, e1, l1⟩ := rolOK_lt (basR_names h) h1
    obtain ⟨p, e2, l2⟩ := rolOK_lt (basR_names h) h2
    exact ⟨s, p, e1, e2, l1, l2⟩
  inc := fun x hx => by
    obtain ⟨h1, h2⟩ := basR_incl h hx
    obtain ⟨c, e1, l1⟩ := numC_lt (basR_names h) (conOK_shaped h1)
    obtain ⟨d, e2, l2⟩ := rhsC_lt (basR_names h) (conOK_shaped h2)
    exact ⟨c, d, e1, e2, l1, l2⟩
theorem fineE_one {n : Nms} {c : Con} (h : namesOK n = true) : fineE n [c] = if conOK n c then 0 else 10 := by
  unfold fineE; rw [h]; simp
def impE (b : Bas) (c d : Con) : Int := if basV b = false then 20 else if (conOK b.nms c && conOK b.nms d) = false then 10 else if (fitR b && basC c && supC d) = false then 100 else 0
def impV (b : Bas) (c d : Con) : Bool := implR (rulesN b) (numC c).toNat (rhsC d).1.toNat (rhsC d).2.1 (rhsC d).2.2
def impB (b : Bas) (c d : Con) : Bool := decide (impE b c d = 0) && impV b c d
theorem ext_ext {j : JH} {l k : List AObj} : ext (ext j l) k = ext j (l ++ k) := by
  unfold ext
  simp only [JH.mk.injEq, true_and, and_true, List.length_append]
  refine ⟨by omega, funext fun o => ?_⟩
  by_cases h : o < j.next
  · rw [if_pos (by omega), if_pos h]; simp [h]
  · rw [if_neg h]
    by_cases h2 : o < j.next + l.length
    · rw [if_pos h2, List.getElem?_append_left (by omega)]; simp [h]
    · rw [if_neg h2, List.getElem?_append_right (by omega), show o - (j.next + l.length) = o - j.next - l.length from by omega, if_neg h]
theorem pid_pid {b k n : Nat} : pid (pid b k) n = pid b (k + n) := by unfold pid; omega
def ir18 : IFn := ⟨53, [⟨6, none⟩, ⟨7, none⟩], (.seq (.reg [oA 3 (.box 30 (.r 0)), oA 4 (.box 43 (.r 1)), oA 5 (.box 43 (.r 2)), oA 6 (.mov (kB false)), oA 7 (.mov (kI 0))]) (.seq (.seq (.reg [oL 12 3 (some 7), oT 13 12 (.call 53 [.r 12]), oA 14 (.bin .neq (.r 13) (kI 0))]) (.cond (.r 14) (.seq (.reg [oA 6 (.mov (kB false)), oA 7 (.mov (kI 20))]) .ret) .skip)) (.seq (.seq (.reg [oA 15 (.fadr 0 (.r 3)), oL 16 15 (some 3), oL 17 4 (some 3), oA 18 (.call 54 [.r 16, .r 17]), oA 19 (.bin .neq (.r 18) (kI 0)), oA 20 (kM 19), ⟨(some 21), (some ((20, false))), none, (.fadr 0 (.r 3))⟩, ⟨(some 22), (some ((20, false))), (some (.r 21)), (.load (some 3) (.r 21))⟩, ⟨(some 23), (some ((20, false))), (some (.r 5)), (.load (some 3) (.r 5))⟩, ⟨(some 24), (some ((20, false))), none, (.call 54 [.r 22, .r 23])⟩, ⟨(some 25), (some ((20, false))), none, (.bin .neq (.r 24) (kI 0))⟩, oA 26 (.pick (.r 20) (kB true) (.r 25))]) (.cond (.r 26) (.seq (.reg [oA 6 (.mov (kB false)), oA 7 (.mov (kI 10))]) .ret) .skip)) (.seq (.reg [oL 28 4 (some 3), oT 29 28 (.call 55 [.r 28]), oA 27 (kM 29), oA 30 (.ext (.r 27) 0), oA 31 (.ext (.r 27) 1), oA 8 (kM 30), oA 9 (kM 31)]) (.seq (.reg [oL 33 5 (some 3), oT 34 33 (.call 56 [.r 33]), oA 32 (kM 34), oA 35 (.ext (.r 32) 0), oA 36 (.ext (.r 32) 1), oA 10 (.alloc 101 [.v (.int .i64 0), .v (.bool false), .v (.bool false)]), oN (.store 3 (.r 10) (.r 35)), oA 11 (kM 36)]) (.seq (.seq (.reg [oL 37 3 (some 7), oT 38 37 (.call 57 [.r 37]), oA 39 (.not (.r 38)), oA 40 (kM 39), ⟨(some 41), (some ((40, false))), none, (kM 9)⟩, ⟨(some 42), (some ((40, false))), none, (.not (.r 41))⟩, oA 43 (.pick (.r 40) (kB true) (.r 42)), oA 44 (kM 43), ⟨(some 45), (some ((44, false))), none, (kM 11)⟩, ⟨(some 46), (some ((44, false))), none, (.not (.r 45))⟩, oA 47 (.pick (.r 44) (kB true) (.r 46))]) (.cond (.r 47) (.seq (.reg [oA 6 (.mov (kB false)), oA 7 (.mov (kI 100))]) .ret) .skip)) (.seq (.draw [oL 48 3 (some 7), oT 49 48 (.call 58 [.r 48]), oA 50 (kM 8), oL 51 10 (some 3), oA 52 (.call 59 [.r 49, .r 50, .r 51]), oA 6 (kM 52), oA 7 (.mov (kI 0))] [(3, 1)]) .ret)))))))⟩
theorem c18 : cfunc Tryd.prog 18 = some ir18 := by kernel_rfl
theorem k18 : okIR (max 3 ir18.n) ir18.ir = true := by decide +kernel
theorem s_Implies (b : Bas) (c d : Con) (hb : b.ok) (hf : b.few) (hs : b.nms.short) (hc : c.ok) (hd : d.ok) (hc4 : c.nodes ≤ 4000000000) (hd4 : d.nodes ≤ 4000000000) (j : JH) : JC Tryd.prog (GG m) 18 [.agg b.enc, .agg c.enc, .agg d.enc] j (RET (.tup [BOO (impB b c d), I64 (impE b c d)]) j) := by
  have fls : ∀ {l : List AObj} {e : Int}, impE b c d = e → e ≠ 0 → @JFIN (ext j []) (ext j l) (.tup [BOO false, I64 e]) ⟨fun y j' => RET (.tup [BOO (impB b c d), I64 (impE b c d)]) j (.ret y) j'⟩ := by
    intro l e h1 h2
    refine JFIN.rb ?_
    unfold impB; rw [h1, decide_eq_false h2, Bool.false_and]; exact sbLu
  refine JC.run hmix c18 (by exact k18) ?_
  (try simp only[↓jr,jw,seval,rb_ld,rb_len,jq2,ext_ext,pid_pid,ir18])
  refine JCs.ret (s_kbCheck b hb hf _) ?_
  by_cases h : basV b = true
  · have h' : basR b = true := by rw [basR_eq]; exact h
    have hn := basR_names h'
    rw [if_pos h]
    (try simp only[↓jr,jw,seval,rb_ld,rb_len,jq2,ext_ext,pid_pid])
    refine JCs.ret (s_Check b.nms hb.nms hs c hc hc4 _) ?_
    rw [fineE_one hn]
    by_cases q1 : conOK b.nms c = true
    · rw [if_pos q1]
      (try simp only[↓jr,jw,seval,rb_ld,rb_len,jq2,ext_ext,pid_pid])
      refine JCs.ret (s_Check b.nms hb.nms hs d hd hd4 _) ?_
      rw [fineE_one hn]
      by_cases q2 : conOK b.nms d = true
      · rw [if_pos q2]
        (try simp only[↓jr,jw,seval,rb_ld,rb_len,jq2,ext_ext,pid_pid])
        have sc := conOK_shaped q1
        have sd := conOK_shaped q2
        obtain ⟨x, e1, l1⟩ := numC_lt hn sc
        obtain ⟨y, e2, l2⟩ := rhsC_lt hn sd
        refine JCs.ret (s_of c (shaped_hd sc) (shaped_r16 hn sc) _) ?_
        (try simp only[↓jr,jw,seval,rb_ld,rb_len,jq2,ext_ext,pid_pid])
        refine JCs.ret (s_right d (shaped_hd2 sd) (shaped_r162 hn sd) _) ?_
        (try simp only[↓jr,jw,seval,rb_ld,rb_len,jq2,ext_ext,pid_pid])
        refine JCs.ret (s_fits b hb (basR_hds h') (basR_rs h') _) ?_
        (try simp only[↓jr,jw,seval,rb_ld,rb_len,jq2,ext_ext,pid_pid])
        have bad : (fitR b && basC c && supC d) = false → impE b c d = 100 := fun q => by
          unfold impE; rw [h, q1, q2, q]; simp
        refine ww.intro (fun q3 => ?_) (fun q3 => by (try simp only[↓jr,jw,seval,rb_ld,rb_len,jq2,ext_ext,pid_pid]); exact fls (bad (by rw [q3]; rfl)) (by decide))
        (try simp only[↓jr,jw,seval,rb_ld,rb_len,jq2,ext_ext,pid_pid])
        refine ww.intro (fun q4 => ?_) (fun q4 => by (try simp only[↓jr,jw,seval,rb_ld,rb_len,jq2,ext_ext,pid_pid]); exact fls (bad (by rw [q3, q4]; rfl)) (by decide))
        (try simp only[↓jr,jw,seval,rb_ld,rb_len,jq2,ext_ext,pid_pid])
        refine ww.intro (fun q5 => ?_) (fun q5 => by (try simp only[↓jr,jw,seval,rb_ld,rb_len,jq2,ext_ext,pid_pid]); exact fls (bad (by rw [q3, q4, q5]; rfl)) (by decide))
        (try simp only[↓jr,jw,seval,rb_ld,rb_len,jq2,ext_ext,pid_pid])
        have e0 : impE b c d = 0 := by unfold impE; rw [h, q1, q2, q3, q4, q5]; simp
        refine JDC.use (s_RulesOf b hb (basR_lite h') _) ?_
        (try simp only[↓jr,jw,seval,rb_ld,rb_len,jq2,ext_ext,pid_pid])
        rw [e1, e2]
        refine JDC.use (s_implies (pid j.next 5) 117 (rulesN b) x y l1 l2 _ _ _ (by rw [ext_next]; unfold pid; simp) (by (try simp only[↓jr,jw,seval,rb_ld,rb_len,jq2,ext_ext,pid_pid]))) ?_
        (try simp only[↓jr,jw,seval,rb_ld,rb_len,jq2,ext_ext,pid_pid])
        refine JDRAW.oc (by (try simp only[↓jr,jw,seval,rb_ld,rb_len,jq2,ext_ext,pid_pid,jq]) <;> exact orq) ?_; (try simp only[↓jr,jw,seval,rb_ld,rb_len,jq2,ext_ext,pid_pid])
        refine JFIN.rb ?_
        have e : impB b c d = implR (rulesN b) x y (rhsC d).2.1 (rhsC d).2.2 := by
          unfold impB impV; rw [e0, e1, e2, decide_eq_true rfl, Bool.true_and, Int.toNat_natCast, Int.toNat_natCast]
        rw [e, e0]
        exact sbLu
      · rw [if_neg q2]
        (try simp only[↓jr,jw,seval,rb_ld,rb_len,jq2,ext_ext,pid_pid])
        exact fls (by unfold impE; rw [h, q1]; simp [q2]) (by decide)
    · rw [if_neg q1]
      (try simp only[↓jr,jw,seval,rb_ld,rb_len,jq2,ext_ext,pid_pid])
      exact fls (by unfold impE; rw [h]; simp [q1]) (by decide)
  · rw [if_neg h]
    (try simp only[↓jr,jw,seval,rb_ld,rb_len,jq2,ext_ext,pid_pid])
    exact fls (by unfold impE; simp [h]) (by decide)
end Go.Proofs.YtkcbhebbjpiibaaDoor.Pg
