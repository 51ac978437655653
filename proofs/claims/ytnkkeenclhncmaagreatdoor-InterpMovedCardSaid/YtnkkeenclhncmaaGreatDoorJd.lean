/-
  The statement about renumbered interpretations.
-/
import Derived.Test.YtnkkeenclhncmaaGreatDoorJc
set_option linter.unusedVariables false
set_option linter.unusedSimpArgs false
set_option maxRecDepth 100000
set_option maxHeartbeats 8000000
namespace Go.Proofs.YtnkkeenclhncmaaGreatDoor.Pg
open Go
theorem jnil_arr' {ne : Bool} {o off n : Nat} {K : AOut → JH → Prop} {j : JH} : jnil ne (.arr o off n) K j = K (.ret (BOO ne)) j := rfl
theorem fewB_few {b : Bas} (h : fewB 400 b = true) : b.few := by
  refine few_of fun c hc => ?_
  unfold fewB at h
  simp only [Bool.and_eq_true, List.all_eq_true, decide_eq_true_eq] at h
  have h1 := h.2
  have h2 := sumN_mem hc
  omega
theorem mov_Iok {i : Itp} {y : Int} (hi : i.wf) (hok : i.ok) : (movI i y).ok := by
  obtain ⟨e1, e2, e3⟩ := sz_size hi
  refine ⟨hok.s, by simpa [movI] using hok.c1, fun l hl => ?_, by simpa [movI] using hok.r1, fun l hl => ?_, by simpa [movI] using hok.i1, fun x hx => ?_⟩
  · obtain ⟨l', _, rfl⟩ := List.mem_map.1 hl
    refine ⟨by have := @bitsL_len (memF (l'.map (plc y i.size))) (sz i); omega, fun x hx => ?_⟩
    have := bits_lt x hx
    unfold R64; omega
  · obtain ⟨l', _, rfl⟩ := List.mem_map.1 hl
    refine ⟨?_, fun p hp => ?_⟩
    · have h1 := @sortQ_len (sz i) (l'.map (plp y i.size)) (sz i)
      rw [sortQ_all] at h1
      have h2 : sz i * sz i ≤ 256 * 256 := Nat.mul_le_mul e2 e2
      omega
    · obtain ⟨_, a, b, c, d⟩ := sortP_mem.1 hp
      unfold R64; omega
  · obtain ⟨x', _, rfl⟩ := List.mem_map.1 hx
    have := Int.tmod_lt_of_pos (i.size - 1 - x' + (y.tmod i.size + i.size)) (b := i.size) (by have := hi.s1; omega)
    have := Int.lt_tmod_of_pos (i.size - 1 - x' + (y.tmod i.size + i.size)) (b := i.size) (by have := hi.s1; omega)
    have := hi.s2
    unfold R64 plc; omega
section
variable {m : GM} {G : Nat → Option (List AV)}
def ir3 : IFn := ⟨107, [⟨8, none⟩], (.seq (.reg [oA 4 (.box 30 (.r 0)), oA 5 (.box 33 (.r 1)), oA 6 (.box 38 (.r 2)), oA 8 (.mov (kB false))]) (.seq (.seq (.reg [oL 17 4 (some 7), oA 18 (.call 5 [.r 17, .k (.v (.int .i64 400))]), oA 19 (.not (.r 18)), oA 20 (kM 19), ⟨(some 21), (some ((20, false))), none, (.fadr 0 (.r 4))⟩, ⟨(some 22), (some ((20, false))), (some (.r 21)), (.load (some 3) (.r 21))⟩, ⟨(some 23), (some ((20, false))), (some (.r 6)), (.load (some 4) (.r 6))⟩, ⟨(some 24), (some ((20, false))), (some (.r 5)), (.load (some 3) (.r 5))⟩, ⟨(some 25), (some ((20, false))), none, (.bsl 1 3 [.v (.int .i64 0), .v (.int .i64 0), .sl .nil 0 []] [(0, (3, .r 24))])⟩, ⟨(some 26), (some ((20, false))), none, (.call 6 [.r 22, .r 23, .r 25])⟩, ⟨(some 27), (some ((20, false))), none, (.not (.r 26))⟩, oA 28 (.pick (.r 20) (kB true) (.r 27)), oA 29 (kM 28), ⟨(some 30), (some ((29, false))), (some (.r 4)), (.load (some 7) (.r 4))⟩, ⟨(some 31), (some ((29, false))), (some (.r 30)), (.call 7 [.r 30])⟩, ⟨(some 32), (some ((29, false))), none, (.not (.r 31))⟩, oA 33 (.pick (.r 29) (kB true) (.r 32)), oA 34 (kM 33), ⟨(some 35), (some ((34, false))), none, (.fadr 0 (.r 4))⟩, ⟨(some 36), (some ((34, false))), (some (.r 35)), (.load (some 3) (.r 35))⟩, ⟨(some 37), (some ((34, false))), (some (.r 6)), (.load (some 4) (.r 6))⟩, ⟨(some 38), (some ((34, false))), (some (.r 5)), (.load (some 3) (.r 5))⟩, ⟨(some 39), (some ((34, false))), none, (.bsl 1 3 [.v (.int .i64 0), .v (.int .i64 0), .sl .nil 0 []] [(0, (3, .r 38))])⟩, ⟨(some 40), (some ((34, false))), none, (.call 8 [.r 36, .r 37, .r 39])⟩, ⟨(some 41), (some ((34, false))), none, (.bin .neq (.r 40) (kI 0))⟩, oA 42 (.pick (.r 34) (kB true) (.r 41))]) (.cond (.r 42) (.seq (.reg [oA 43 (.call 9 []), oA 8 (kM 43)]) .ret) .skip)) (.seq (.reg [oL 44 6 (some 4), oA 45 (kM 3), oA 46 (.call 10 [.r 44, .r 45]), oA 9 (.alloc 38 [.v (.int .i64 0), .sl .nil 0 [], .sl .nil 0 [], .sl .nil 0 []]), oN (.store 4 (.r 9) (.r 46))]) (.seq (.reg [oL 48 4 (some 7), oL 49 6 (some 4), oA 50 (.call 11 [.r 48, .r 49]), oA 47 (kM 50), oA 51 (.ext (.r 47) 0), oA 52 (.ext (.r 47) 1), oA 10 (kM 51), oA 11 (kM 52)]) (.seq (.reg [oL 54 4 (some 7), oL 55 9 (some 4), oA 56 (.call 11 [.r 54, .r 55]), oA 53 (kM 56), oA 57 (.ext (.r 53) 0), oA 58 (.ext (.r 53) 1), oA 12 (kM 57), oA 13 (kM 58)]) (.seq (.seq (.reg [oA 59 (kM 11), oA 60 (.bin .neq (.r 59) (kI 0)), oA 61 (kM 60), ⟨(some 62), (some ((61, false))), none, (kM 13)⟩, ⟨(some 63), (some ((61, false))), none, (.bin .neq (.r 62) (kI 0))⟩, oA 64 (.pick (.r 61) (kB true) (.r 63)), oA 65 (kM 64), ⟨(some 66), (some ((65, false))), none, (kM 10)⟩, ⟨(some 67), (some ((65, false))), none, (kM 12)⟩, ⟨(some 68), (some ((65, false))), none, (.call 12 [.r 66, .r 67])⟩, ⟨(some 69), (some ((65, false))), none, (.not (.r 68))⟩, oA 70 (.pick (.r 65) (kB true) (.r 69))]) (.cond (.r 70) (.seq (.reg [oA 8 (.mov (kB false))]) .ret) .skip)) (.seq (.draw [oA 71 (.fadr 0 (.r 4)), oL 72 71 (some 3), oL 73 5 (some 3), oL 74 6 (some 4), oA 75 (.call 13 [.r 72, .r 73, .r 74]), oA 76 (.fadr 0 (.r 4)), oL 77 76 (some 3), oL 78 5 (some 3), oL 79 9 (some 4), oA 80 (.call 13 [.r 77, .r 78, .r 79]), oA 14 (kM 75), oA 15 (kM 80)] [(6, 4), (7, 4), (8, 4)]) (.seq (.seq (.reg [oA 81 (kM 14), oA 82 (.gen ⟨(some 82), (.binOp .eql 49 (.tmp 81) (.const (.slice none 0 0)) 49), 4, "law.go:204", #[⟨0, .data⟩], none⟩), oA 83 (kM 82), ⟨(some 84), (some ((83, false))), none, (kM 15)⟩, ⟨(some 85), (some ((83, false))), none, (.gen ⟨(some 85), (.binOp .eql 49 (.tmp 84) (.const (.slice none 0 0)) 49), 4, "law.go:204", #[⟨3, .data⟩, ⟨2, .guard⟩], (some ((2, false)))⟩)⟩, oA 86 (.pick (.r 83) (kB true) (.r 85))]) (.cond (.r 86) (.seq (.reg [oA 8 (.mov (kB false))]) .ret) .skip)) (.seq (.seq (.reg [oA 87 (kM 14), oT 88 87 (.lenl (.r 87)), oA 89 (.mov (kI 0))]) (.block 0 (.loop (.seq (.reg [oA 90 (.bin .lss (.r 89) (.r 88))]) (.seq (.cond (.r 90) .skip (.exit 0)) (.seq (.block 1 (.seq (.reg [oA 91 (kM 89), oA 16 (kM 91)]) (.seq (.draw [oA 92 (kM 14), oA 93 (kM 16), oA 94 (.iasl 1 (.r 92) (.r 93)), oL 95 94 none, oA 96 (kM 15), oA 97 (kM 16), oA 98 (kM 3), oA 99 (.fadr 0 (.r 6)), oL 100 99 none, oA 101 (.call 14 [.r 97, .r 98, .r 100]), oA 102 (.iasl 1 (.r 96) (.r 101)), oL 103 102 none, oA 104 (.beq true (.r 95) (.r 103))] [(3, 9)]) (.cond (.r 104) (.seq (.reg [oA 8 (.mov (kB false))]) .ret) .skip)))) (.reg [oA 105 (.bin .add (.r 89) (kI 1)), oA 89 (kM 105)]))))))) (.seq (.reg [oA 106 (.call 9 []), oA 8 (kM 106)]) .ret))))))))))⟩
theorem c3 : cfunc Tryz.prog 3 = some ir3 := by kernel_rfl
theorem k3 : okIR (max 4 ir3.n) ir3.ir = true := by decide +kernel
theorem s_InterpMoved (aw : ∀ j : JH, JC Tryz.prog (GG m) 9 [] j (RET (BOO true) j)) (b : Bas) (hb : b.ok) (c : Con) (hc : c.ok) (i : Itp) (hok : i.ok) (y : Int) (hy : R64 y) (j : JH) :
    JC Tryz.prog (GG m) 3 [.agg b.enc, .agg c.enc, .agg i.enc, I64 y] j (RET (BOO true) j) := by
  have e2 : ∀ j0 : JH, ∀ tok : Tok, JC Tryz.prog (GG m) 6 [.agg b.nms.enc, .agg i.enc, .sl tok 1 c.enc] j0 (RET (BOO (fewI b.nms i [c])) j0) := by
    intro j0 tok
    have := s_ifew (m := m) b.nms hb.nms hb.short i hok [c] tok ⟨hc, trivial⟩ (by simp) j0
    rwa [encs_cons, encs_nil, List.append_nil] at this
  have f2 : ∀ j0 : JH, ∀ tok : Tok, JC Tryz.prog (GG m) 8 [.agg b.nms.enc, .agg i.enc, .sl tok 1 c.enc] j0 (RET (I64 (fineI b.nms i [c])) j0) := by
    intro j0 tok
    have := s_fault (m := m) b.nms hb.nms hb.short i hok [c] tok ⟨hc, trivial⟩ (by simp) j0
    rwa [encs_cons, encs_nil, List.append_nil] at this
  refine JC.run hmix c3 (by exact k3) ?_
  (try simp only[↓jr,jw,seval,ji,ext_ext,pid_pid,ir3])
  refine JCs.ret (s_Few b hb 400 (by decide) (by decide) _) ?_
  (try simp only[↓jr,jw,seval,ji,ext_ext,pid_pid])
  refine ww.intro (fun h0 => ?_) (fun h0 => by (try simp only[↓jr,jw,seval,ji,ext_ext,pid_pid]); refine JCs.ret (aw _) ?_; (try simp only[↓jr,jw,seval,ji,ext_ext,pid_pid]); refine JFIN.rb ?_; exact SubB.v)
  have hf := fewB_few h0
  (try simp only[↓jr,jw,seval,ji,ext_ext,pid_pid])
  refine JCs.ret (e2 _ _) ?_
  (try simp only[↓jr,jw,seval,ji,ext_ext,pid_pid])
  refine ww.intro (fun h1 => ?_) (fun h1 => by (try simp only[↓jr,jw,seval,ji,ext_ext,pid_pid]); refine JCs.ret (aw _) ?_; (try simp only[↓jr,jw,seval,ji,ext_ext,pid_pid]); refine JFIN.rb ?_; exact SubB.v)
  have hb1 : c.nodes ≤ 4000000000 := by unfold fewI at h1; simp at h1; omega
  (try simp only[↓jr,jw,seval,ji,ext_ext,pid_pid])
  refine JCs.ret (s_kIs b hb _) ?_
  rw [basR_eq]
  (try simp only[↓jr,jw,seval,ji,ext_ext,pid_pid])
  refine ww.intro (fun h2 => ?_) (fun h2 => by (try simp only[↓jr,jw,seval,ji,ext_ext,pid_pid]); refine JCs.ret (aw _) ?_; (try simp only[↓jr,jw,seval,ji,ext_ext,pid_pid]); refine JFIN.rb ?_; exact SubB.v)
  (try simp only[↓jr,jw,seval,ji,ext_ext,pid_pid])
  refine JCs.ret (f2 _ _) ?_
  (try simp only[↓jr,jw,seval,ji,ext_ext,pid_pid])
  refine wq.intro (fun h3 => ?_) (fun h3 => by (try simp only[↓jr,jw,seval,ji,ext_ext,pid_pid]); refine JCs.ret (aw _) ?_; (try simp only[↓jr,jw,seval,ji,ext_ext,pid_pid]); refine JFIN.rb ?_; exact SubB.v)
  obtain ⟨n1, n2, n3⟩ := fineI_zero h3
  have n2' : conOK b.nms c = true := by simpa using n2
  have hbs := basV_iff h2
  have hwf := (Itp.wf_of n3).1
  obtain ⟨e1, e2', e3'⟩ := sz_size hwf
  have hrr : ∀ l ∈ i.rols, rolOKp i.size l = true := by
    have h := n3
    unfold itpOK at h
    simp only [Bool.and_eq_true, List.all_eq_true] at h
    exact h.1.2
  have hii : ∀ x ∈ i.inds, 0 ≤ x ∧ x < i.size := by
    have h := n3
    unfold itpOK at h
    simp only [Bool.and_eq_true, List.all_eq_true] at h
    intro x hx
    have := h.2 x hx
    unfold inR at this
    simpa using this
  have hN := n1
  unfold namesOK at hN
  simp only [Bool.and_eq_true, decide_eq_true_eq] at hN
  have hcl := (Itp.wf_of n3).2.1
  have hrl := (Itp.wf_of n3).2.2.1
  have hil := (Itp.wf_of n3).2.2.2
  have hok2 := mov_Iok (y := y) hwf hok
  have n3m := mov_ok (y := y) n3
  have hE : modE b i = 0 := by unfold modE; rw [h2, n3]; rfl
  have hEm : modE b (movI i y) = 0 := by unfold modE; rw [h2, n3m]; rfl
  have hcnt := hbs.c
  have hW : wrongL b (movI i y) = wrongL b i := by
    unfold wrongL
    rw [if_pos hE, if_pos hEm]
    unfold bitsL
    congr 1
    refine List.filter_congr fun k hk => ?_
    rw [trueI_mov hbs n3 (List.mem_range.1 hk)]
  have hWl : (wrongL b i).length ≤ 60 := by
    have h : wrongL b i = bitsL (fun k => !trueI b i k) b.count := if_pos hE
    rw [h]
    have := @bitsL_len (fun k => !trueI b i k) b.count
    omega
  have hcs : shaped i.cons.length i.rols.length c = true := shaped_of n3 n2'
  have ff : fineI b.nms i [c] = 0 := h3
  have fm : fineI b.nms (movI i y) [c] = 0 := by unfold fineI; rw [n1, n3m]; simp [n2']
  (try simp only[↓jr,jw,seval,ji,ext_ext,pid_pid])
  refine JCs.ret (s_moved i hwf hok hrr hii (by omega) y _) ?_
  (try simp only[↓jr,jw,seval,ji,ext_ext,pid_pid])
  refine JCs.ret (s_Wrong b hb hf i hok _) ?_
  rw [hE]
  (try simp only[↓jr,jw,seval,ji,ext_ext,pid_pid])
  refine JCs.ret (s_Wrong b hb hf (movI i y) hok2 _) ?_
  rw [hEm, hW]
  (try simp only[↓jr,jw,seval,ji,ext_ext,pid_pid])
  refine JCs.ret (s_SameIntsI (wrongL b i) (wrongL b i) _ _ (by omega) (by omega) _) ?_
  rw [decide_eq_true rfl]
  (try simp only[↓jr,jw,seval,ji,ext_ext,pid_pid])
  refine JDC.use (s_setI b.nms hb.nms hb.short c hc hb1 i hok ff _) ?_
  (try simp only[↓jr,jw,seval,ji,ext_ext,pid_pid])
  refine JDC.use (s_setI b.nms hb.nms hb.short c hc hb1 (movI i y) hok2 fm _) ?_
  (try simp only[↓jr,jw,seval,ji,ext_ext,pid_pid,mov_sz])
  refine JDRAW.oc (by (try simp only[↓jr,jw,seval,ji,ext_ext,pid_pid,jq,qe2,qe3,ext_next,ext_tnext,pushTok_next,List.length_cons,List.length_nil]) <;> (repeat' (first | exact trivial | refine And.intro ?_ ?_ | exact Nat.le_refl _ | (refine pr_extp ⟨_, rfl⟩ (some_lt ?_)) | (refine pr_extp ⟨_, rfl⟩ (fun _ q => by cases q)) | omega | (unfold pid; omega) | (simp only [pushTok_next, List.length_cons, List.length_nil]; unfold pid; omega)))) ?_; (try simp only[↓jr,jw,seval,ji,ext_ext,pid_pid])
  refine JGEN.nil (ne := false) (t := 81) (by kernel_rfl) ?_
  (try simp only[↓jr,jw,seval,ji,ext_ext,pid_pid,jnil_arr'])
  refine JGEN.nil (ne := false) (t := 84) (by kernel_rfl) ?_
  (try simp only[↓jr,jw,seval,ji,ext_ext,pid_pid,jnil_arr'])
  have ht : TokExt j ((j.pushTok 1).pushTok 1) := by repeat' (first | exact TokExt.refl _ | refine TokExt.push ?_ _)
  generalize (j.pushTok 1).pushTok 1 = jz at ht ⊢
  have hnx := ht.next
  refine JLOOP.of (σ := Nat) (fun k => k ≤ sz i) (fun k => sz i - k) (fun k => [(89, I64 k), (88, I64 (sz i)), (14, .arr (pid j.next 4) 0 (sz i)), (15, .arr (pid j.next 5) 0 (sz i)), (3, I64 y), (6, .ptr (pid j.next 2) 0)]) (fun k => ext jz [.cells 30 b.enc, .cells 33 c.enc, .cells 38 i.enc, .cells 38 (movI i y).enc, .cells BE (bls (semC i c) (sz i)), .cells BE (bls (semC (movI i y) c) (sz i))]) 0 (Nat.zero_le _) ?_ (JDropH.refl _) ?_
  · (try simp only[↓jr,jw,seval,ji,ext_ext,pid_pid,DL])
    exact ⟨SubB.v, SubB.v, SubB.arr (by have := ht.next; unfold pid; omega), SubB.arr (by have := ht.next; unfold pid; omega), SubB.v, SubB.ptr (by have := ht.next; unfold pid; omega)⟩
  intro k hkk
  (try simp only[↓jr,jw,seval,ji,ext_ext,pid_pid,ht.next,e1])
  refine wq.intro (fun g1 => ?_) (fun g1 => ?_)
  · have hlt : k < sz i := by omega
    have hp := plc_in (y := y) (n := (sz i : Int)) (x := (k : Int)) (by omega) (by omega) (by omega)
    obtain ⟨u, hu⟩ : ∃ u : Nat, plc y (sz i) k = u := ⟨(plc y (sz i) k).toNat, by omega⟩
    have hb1 := bls_at (f := semC i c) hlt
    have hb2 := bls_at (f := semC (movI i y) c) (n := sz i) (k := u) (by omega)
    have hm := semC_mov (y := y) hwf c k hcs hlt
    rw [e1, hu, Int.toNat_natCast] at hm
    rw [hm] at hb2
    generalize semC i c k = A at hb1 hb2
    (try simp only[↓jr,jw,seval,ji,ext_ext,pid_pid,ht.next,e1])
    refine wc.intro (by omega) ?_
    (try simp only[↓jr,jw,seval,ji,ext_ext,pid_pid,ht.next,hb1,e1])
    refine JDC.use (s_place y (sz i) k (by omega) e2' (by omega) _) ?_
    rw [hu]
    (try simp only[↓jr,jw,seval,ji,ext_ext,pid_pid,ht.next,e1])
    refine wc.intro (by omega) ?_
    (try simp only[↓jr,jw,seval,ji,ext_ext,pid_pid,ht.next,hb2,e1])
    refine JDRAW.oc (by (try simp only[↓jr,jw,seval,ji,ext_ext,pid_pid,jq,qe2,qe3,ext_next,ext_tnext,pushTok_next,List.length_cons,List.length_nil]) <;> (repeat' (first | exact trivial | refine And.intro ?_ ?_ | exact Nat.le_refl _ | (refine pr_extp ⟨_, rfl⟩ (some_lt ?_)) | (refine pr_extp ⟨_, rfl⟩ (fun _ q => by cases q)) | omega | (unfold pid; omega) | (simp only [pushTok_next, List.length_cons, List.length_nil]; unfold pid; omega)))) ?_; (try simp only[↓jr,jw,seval,ji,ext_ext,pid_pid])
    rw [beq_self_eq_true]
    (try simp only[↓jr,jw,seval,ji,ext_ext,pid_pid,ht.next,e1])
    refine wc.intro (by unfold R64; omega) ?_
    (try simp only[↓jr,jw,seval,ji,ext_ext,pid_pid,ht.next,e1])
    refine JNEXT.of (k + 1) (by omega) (by omega) ?_ (JDropH.next0 (TokExt.refl _) ⟨.inl ⟨rfl, rfl⟩, .inl ⟨rfl, rfl⟩, .inl ⟨rfl, rfl⟩, .inl ⟨rfl, rfl⟩, .inl ⟨rfl, rfl⟩, .inl ⟨rfl, rfl⟩, True.intro⟩)
    (try simp only[↓jr,jw,seval,ji,ext_ext,pid_pid,DL,ht.next])
    exact ⟨SubB.v, SubB.v, SubB.arr (by have := ht.next; unfold pid; omega), SubB.arr (by have := ht.next; unfold pid; omega), SubB.v, SubB.ptr (by have := ht.next; unfold pid; omega)⟩
  · (try simp only[↓jr,jw,seval,ji,ext_ext,pid_pid,ht.next])
    refine JCs.ret (aw _) ?_
    (try simp only[↓jr,jw,seval,ji,ext_ext,pid_pid,ht.next])
    refine JFIN.ret (JDropH.back ht).of_ext SubB.v
end
end Go.Proofs.YtnkkeenclhncmaaGreatDoor.Pg
