/-
  interp.Elements, interp.Included.
-/
import Derived.Test.YtnkkeenclhncmaaDoorIf
set_option linter.unusedVariables false
set_option linter.unusedSimpArgs false
set_option maxRecDepth 100000
set_option maxHeartbeats 8000000
namespace Go.Proofs.YtnkkeenclhncmaaDoor.Pg
open Go
theorem Itp.wf_of {n : Nms} {i : Itp} (h : itpOK n i = true) : i.wf ∧ i.cons.length = n.cs.length ∧ i.rols.length = n.rs.length ∧ i.inds.length = n.is.length := by
  unfold itpOK at h
  simp only [Bool.and_eq_true, decide_eq_true_eq, List.all_eq_true] at h
  obtain ⟨⟨⟨h1, h2⟩, h3⟩, h4⟩ := h
  have ris : ∀ (l : List Int) (p lim : Int), -1 ≤ p → risF lim p l = true → ∀ x ∈ l, 0 ≤ x ∧ x < lim := by
    intro l
    induction l with
    | nil => intro p lim _ _ x hx; cases hx
    | cons y l ih =>
      intro p lim hp h x hx
      simp only [risF, Bool.and_eq_true, decide_eq_true_eq] at h
      rcases List.mem_cons.1 hx with rfl | hx
      · omega
      · exact ih y lim (by omega) h.2 x hx
  refine ⟨⟨h1.1, h1.2.1, fun l hl x hx => ris l (-1) _ (Int.le_refl _) (h2 l hl) x hx, fun l hl p hp => ?_⟩, h1.2.2.1, h1.2.2.2.1, h1.2.2.2.2⟩
  have := h3 l hl
  unfold rolOKp at this
  simp only [Bool.and_eq_true, List.all_eq_true] at this
  exact prIn_iff.1 (this.1 p hp)
def fineI (n : Nms) (i : Itp) (l : List Con) : Int := if namesOK n = false then 20 else if l.all (conOK n) then (if itpOK n i then 0 else 30) else 10
section
variable {m : GM}
def ir37 : IFn := ⟨28, [⟨6, none⟩], (.seq (.reg [oA 3 (.box 24 (.r 0)), oA 4 (.box 29 (.r 1)), oA 6 (.mov (kI 0))]) (.seq (.seq (.reg [oL 10 3 (some 3), oT 11 10 (.call 42 [.r 10]), oA 12 (.not (.r 11))]) (.cond (.r 12) (.seq (.reg [oA 6 (.mov (kI 20))]) .ret) .skip)) (.seq (.seq (.reg [oA 13 (kM 2), oT 14 13 (.lenl (.r 13)), oA 15 (.mov (kI 0))]) (.block 0 (.loop (.seq (.reg [oA 16 (.bin .lss (.r 15) (.r 14))]) (.seq (.cond (.r 16) .skip (.exit 0)) (.seq (.block 1 (.seq (.reg [oA 17 (.iasl 3 (.r 13) (.r 15)), oL 18 17 (some 3), oA 8 (.alloc 44 [.v (.int .i64 0), .v (.int .i64 0), .sl .nil 0 []]), oN (.store 3 (.r 8) (.r 18))]) (.seq (.reg [oA 9 (.alloc 3 [.v (.int .i64 0)]), oN (.store 1 (.r 9) (kI 400))]) (.seq (.reg [oL 19 3 (some 3), oL 20 8 (some 3), oA 21 (.call 58 [.r 19, .r 20, .r 9]), oA 22 (.not (.r 21))]) (.cond (.r 22) (.seq (.reg [oA 6 (.mov (kI 10))]) .ret) .skip))))) (.reg [oA 23 (.bin .add (.r 15) (kI 1)), oA 15 (kM 23)]))))))) (.seq (.seq (.reg [oL 24 3 (some 3), oL 25 4 (some 4), oA 26 (.call 43 [.r 24, .r 25]), oA 27 (.not (.r 26))]) (.cond (.r 27) (.seq (.reg [oA 6 (.mov (kI 30))]) .ret) .skip)) (.seq (.reg [oA 6 (.mov (kI 0))]) .ret)))))⟩
theorem c37 : cfunc Tryd.prog 37 = some ir37 := by kernel_rfl
theorem k37 : okIR (max 3 ir37.n) ir37.ir = true := by decide +kernel
theorem s_ifine (i : Itp) (hok : i.ok) (n : Nms) (hn : n.ok) (hs : n.short) (l : List Con) (tok : Tok) (hl : Con.oks l) (hll : l.length < 4611686018427387904) (hb : ∀ c ∈ l, c.nodes ≤ 4000000000) (j : JH) :
    JC Tryd.prog (GG m) 37 [.agg n.enc, .agg i.enc, .sl tok l.length (encs Con.enc l)] j (RET (I64 (fineI n i l)) j) := by
  refine JC.run hmix c37 (by exact k37) ?_
  (try simp only[↓jr,jw,seval,ji,ir37])
  refine JCs.ret (s_ValidNames n hn hs _) ?_
  (try simp only[↓jr,jw,seval,ji])
  refine ww.intro (fun h0 => ?_) (fun h0 => ?_)
  · (try simp only[↓jr,jw,seval,ji])
    refine JLOOP.of (σ := Nat) (fun k => k ≤ l.length ∧ (l.drop k).all (conOK n) = l.all (conOK n)) (fun k => l.length - k)
      (fun k => [(15, I64 k), (14, I64 l.length), (13, .sl .none l.length (encs Con.enc l)), (3, .ptr (pid j.next 0) 0), (4, .ptr (pid j.next 1) 0)]) (fun k => ext j [.cells 24 n.enc, .cells 29 i.enc]) 0 ⟨by omega, rfl⟩ ?_ (JDropH.refl _) ?_
    · (try simp only[↓jr,jw,seval,ji,DL])
      exact ⟨SubB.v, SubB.v, SubB.sl rfl (SubBs.pure (encs_pur Con.pur _)), SubB.ptr (by unfold pid; omega), SubB.ptr (by unfold pid; omega)⟩
    · rintro k ⟨hk, hI⟩
      (try simp only[↓jr,jw,seval,ji])
      refine wq.intro (fun h1 => ?_) (fun h1 => ?_)
      · have hlt : k < (l).length := by omega
        obtain ⟨c, r, hd⟩ : ∃ c_ l_, List.drop k (l) = c_ :: l_ := ⟨_, _, List.drop_eq_getElem_cons hlt⟩
        have hd1 : List.drop (k + 1) (l) = r := by rw [← List.drop_drop, hd]; rfl
        have hmem : c ∈ l := List.mem_of_mem_drop (hd ▸ List.mem_cons_self)
        rw [hd, List.all_cons] at hI
        (try simp only[↓jr,jw,seval,ji,hd])
        refine wc.intro (by omega) ?_
        (try simp only[↓jr,jw,seval,ji,hd])
        refine JCs.ret (s_Valid n hn 3 c (pid j.next 3) 400 (ext j [.cells 24 n.enc, .cells 29 i.enc, .cells 44 c.enc, .cells 3 [I64 400]]) (Con.oks_mem hl hmem) (by rw [ext_next]; unfold pid; simp) (by (try simp only[↓jr,jw,seval,ji])) (consOK_bound (hb c hmem)) (by omega)) ?_
        (try simp only[↓jr,jw,seval,ji])
        rw [vld_conOK]
        refine ww.intro (fun h2 => ?_) (fun h2 => ?_)
        · (try simp only[↓jr,jw,seval,ji])
          refine wc.intro (R64_add hlt hll) ?_
          (try simp only[↓jr,jw,seval,ji])
          rw [h2, Bool.true_and] at hI
          refine JNEXT.of (k + 1) ⟨by omega, by rw [hd1, hI]⟩ (by omega) ?_ JDropH.nx
          ((try simp only[↓jr,jw,seval,ji,DL]) <;> exact sbq)
        · (try simp only[↓jr,jw,seval,ji])
          rw [h2, Bool.false_and] at hI
          refine JFIN.rb ?_
          unfold fineI; rw [h0, ← hI]; exact SubB.v
      · (try simp only[↓jr,jw,seval,ji])
        rw [List.drop_eq_nil_of_le (by omega), List.all_nil] at hI
        refine JCs.ret (s_iValid n hn i hok _) ?_
        (try simp only[↓jr,jw,seval,ji])
        refine ww.intro (fun h5 => ?_) (fun h5 => ?_)
        · (try simp only[↓jr,jw,seval,ji])
          refine JFIN.rb ?_
          unfold fineI; rw [h0, ← hI, h5]; exact SubB.v
        · (try simp only[↓jr,jw,seval,ji])
          refine JFIN.rb ?_
          unfold fineI; rw [h0, ← hI, h5]; exact SubB.v
  · (try simp only[↓jr,jw,seval,ji])
    refine JFIN.rb ?_
    unfold fineI; rw [h0]; exact SubB.v
theorem fineI_zero {n : Nms} {i : Itp} {l : List Con} (h : fineI n i l = 0) : namesOK n = true ∧ l.all (conOK n) = true ∧ itpOK n i = true := by
  unfold fineI at h
  split at h
  · cases h
  · split at h
    · split at h
      · rename_i h1 h2 h3; exact ⟨by simpa using h1, h2, h3⟩
      · cases h
    · cases h
theorem shaped_of {n : Nms} {i : Itp} {c : Con} (h1 : itpOK n i = true) (h2 : conOK n c = true) : shaped i.cons.length i.rols.length c = true := by
  obtain ⟨_, e1, e2, _⟩ := Itp.wf_of h1
  rw [e1, e2]
  unfold conOK at h2
  rw [Bool.and_eq_true] at h2
  exact h2.2
def elemsI (n : Nms) (c : Con) (i : Itp) : List Int := if fineI n i [c] = 0 then bitsL (semC i c) (sz i) else []
def sliceI (l : List Int) (e : Int) : AV := if e = 0 then .sl .none l.length (ints l) else .sl .nil 0 []
def ir15 : IFn := ⟨20, [⟨6, none⟩, ⟨7, none⟩], (.seq (.reg [oA 3 (.box 24 (.r 0)), oA 4 (.box 44 (.r 1)), oA 5 (.box 29 (.r 2)), oA 6 (.mov (.k (.sl .nil 0 []))), oA 7 (.mov (kI 0))]) (.seq (.seq (.reg [oL 9 3 (some 3), oL 10 5 (some 4), oL 11 4 (some 3), oA 12 (.bsl 1 3 [.v (.int .i64 0), .v (.int .i64 0), .sl .nil 0 []] [(0, (3, .r 11))]), oA 13 (.call 37 [.r 9, .r 10, .r 12]), oA 8 (kM 13)]) (.seq (.reg [oA 14 (kM 8), oA 15 (.bin .neq (.r 14) (kI 0))]) (.cond (.r 15) (.seq (.reg [oA 16 (kM 8), oA 6 (.mov (.k (.sl .nil 0 []))), oA 7 (kM 16)]) .ret) .skip))) (.seq (.reg [oL 17 4 (some 3), oL 18 5 (some 4), oA 19 (.call 44 [.r 17, .r 18]), oA 6 (kM 19), oA 7 (.mov (kI 0))]) .ret)))⟩
theorem c15 : cfunc Tryd.prog 15 = some ir15 := by kernel_rfl
theorem k15 : okIR (max 3 ir15.n) ir15.ir = true := by decide +kernel
theorem s_Elements (n : Nms) (hn : n.ok) (hs : n.short) (i : Itp) (hok : i.ok) (c : Con) (hc : c.ok) (hb : c.nodes ≤ 4000000000) (j : JH) : JC Tryd.prog (GG m) 15 [.agg n.enc, .agg c.enc, .agg i.enc] j (RET (.tup [sliceI (elemsI n c i) (fineI n i [c]), I64 (fineI n i [c])]) j) := by
  refine JC.run hmix c15 (by exact k15) ?_
  (try simp only[↓jr,jw,seval,ji,ir15])
  have hf := s_ifine (m := m) i hok n hn hs [c] (.own j.tnext 0 3) ⟨hc, trivial⟩ (by simp) (by simpa using hb) (ext (j.pushTok 1) [.cells 24 n.enc, .cells 44 c.enc, .cells 29 i.enc])
  rw [encs_cons, encs_nil, List.append_nil] at hf
  refine JCs.ret hf ?_
  (try simp only[↓jr,jw,seval,ji])
  refine wq.intro (fun h1 => ?_) (fun h1 => ?_)
  · (try simp only[↓jr,jw,seval,ji])
    obtain ⟨_, h2, h3⟩ := fineI_zero h1
    have h4 : conOK n c = true := by simpa using h2
    refine JCs.ret (s_iOf i (Itp.wf_of h3).1 hok c (shaped_of h3 h4) _) ?_
    (try simp only[↓jr,jw,seval,ji])
    have e1 : elemsI n c i = bitsL (semC i c) (sz i) := if_pos h1
    rw [e1, h1, show sliceI (bitsL (semC i c) (sz i)) 0 = .sl .none (bitsL (semC i c) (sz i)).length (ints (bitsL (semC i c) (sz i))) from if_pos rfl]
    refine JFIN.rb ?_
    exact SubB.tup ⟨SubB.sl rfl (SubBs.pure (ints_pur _)), SubB.v, True.intro⟩
  · (try simp only[↓jr,jw,seval,ji])
    rw [show sliceI (elemsI n c i) (fineI n i [c]) = .sl .nil 0 [] from if_neg h1]
    refine JFIN.rb ?_
    exact SubB.tup ⟨SubB.pure rfl, SubB.v, True.intro⟩
/-! ### Inclusion. -/
theorem iandn_nat {a b : Nat} (ha : a < 2 ^ 64) (hb : b < 2 ^ 64) : iandn (a : Int) (b : Int) = ((a &&& (2 ^ 64 - 1 - b) : Nat) : Int) := by
  have e : (BitVec.ofInt IntKind.u64.bits (a : Int) &&& ~~~BitVec.ofInt IntKind.u64.bits (b : Int)).toNat = a &&& (2 ^ 64 - 1 - b) := by
    show (BitVec.ofInt 64 (a : Int) &&& ~~~BitVec.ofInt 64 (b : Int)).toNat = a &&& (2 ^ 64 - 1 - b)
    rw [BitVec.ofInt_natCast, BitVec.ofInt_natCast, BitVec.toNat_and, BitVec.toNat_not, BitVec.toNat_ofNat, BitVec.toNat_ofNat, Nat.mod_eq_of_lt ha, Nat.mod_eq_of_lt hb]
  unfold iandn
  rw [e]
  exact wrap_u64 (lt64.mp (Nat.lt_of_le_of_lt Nat.and_le_left ha))
theorem wrd_andn {f g : Nat → Bool} {b : Nat} : iandn ((wrd f b 64 : Nat) : Int) ((wrd g b 64 : Nat) : Int) = ((wrd (fun x => f x && !g x) b 64 : Nat) : Int) := by
  rw [iandn_nat (wrd_lt f 64 b) (wrd_lt g 64 b)]
  refine congrArg (fun n : Nat => (n : Int)) (Nat.eq_of_testBit_eq fun i => ?_)
  rw [Nat.testBit_and, wrd_bit, wrd_bit, Nat.sub_sub, Nat.add_comm 1, Nat.testBit_two_pow_sub_succ (wrd_lt g 64 b), wrd_bit]
  cases decide (i < 64) <;> simp
theorem wrd_none {f : Nat → Bool} {b m : Nat} : wrd f b m = 0 ↔ ∀ i, i < m → f (b + i) = false := by
  constructor
  · intro h i hi
    have := wrd_bit f m b i
    rw [h, Nat.zero_testBit, decide_eq_true hi, Bool.true_and] at this
    exact this.symm
  · intro h
    refine Nat.eq_of_testBit_eq fun i => ?_
    rw [wrd_bit, Nat.zero_testBit]
    by_cases hi : i < m
    · rw [h i hi, Bool.and_false]
    · rw [decide_eq_false hi, Bool.false_and]
def inclF (f g : Nat → Bool) (n : Nat) : Bool := (List.range n).all fun x => !f x || g x
theorem inclF_iff {f g : Nat → Bool} {n : Nat} : inclF f g n = true ↔ ∀ x, x < n → f x = true → g x = true := by
  unfold inclF
  rw [List.all_eq_true]
  constructor
  · intro h x hx hf
    have := h x (List.mem_range.2 hx)
    rw [hf] at this; simpa using this
  · intro h x hx
    have := h x (List.mem_range.1 hx)
    cases hf : f x
    · rfl
    · rw [this hf]; rfl
def ir45 : IFn := ⟨34, [⟨6, none⟩], (.seq (.reg [oA 3 (.box 44 (.r 0)), oA 4 (.box 44 (.r 1)), oA 5 (.box 29 (.r 2)), oA 6 (.mov (kB false))]) (.seq (.draw [oL 10 5 (some 4), oA 11 (.build [.v (.int .i64 0), .sl .nil 0 [], .sl .nil 0 [], .sl .nil 0 []] [(0, (4, .r 10))]), oL 12 3 (some 3), oA 13 (.call 70 [.r 11, .r 12]), oL 14 5 (some 4), oA 15 (.build [.v (.int .i64 0), .sl .nil 0 [], .sl .nil 0 [], .sl .nil 0 []] [(0, (4, .r 14))]), oL 16 4 (some 3), oA 17 (.call 70 [.r 15, .r 16]), oA 7 (kM 13), oA 8 (kM 17)] [(4, 3), (6, 3)]) (.seq (.seq (.reg [oA 18 (kM 7), oT 19 18 (.lenl (.r 18)), oA 20 (.mov (kI 0))]) (.block 0 (.loop (.seq (.reg [oA 21 (.bin .lss (.r 20) (.r 19))]) (.seq (.cond (.r 21) .skip (.exit 0)) (.seq (.block 1 (.seq (.reg [oA 22 (kM 20), oA 9 (kM 22)]) (.seq (.draw [oA 23 (kM 7), oA 24 (kM 9), oA 25 (.iasl 1 (.r 23) (.r 24)), oL 26 25 none, oA 27 (kM 8), oA 28 (kM 9), oA 29 (.iasl 1 (.r 27) (.r 28)), oL 30 29 none, oA 31 (.bin .andNot (.r 26) (.r 30)), oA 32 (.bin .neq (.r 31) (.k (.v (.int .u64 0))))] []) (.cond (.r 32) (.seq (.reg [oA 6 (.mov (kB false))]) .ret) .skip)))) (.reg [oA 33 (.bin .add (.r 20) (kI 1)), oA 20 (kM 33)]))))))) (.seq (.reg [oA 6 (.mov (kB true))]) .ret))))⟩
theorem c45 : cfunc Tryd.prog 45 = some ir45 := by kernel_rfl
theorem k45 : okIR (max 3 ir45.n) ir45.ir = true := by decide +kernel
theorem s_iwithin (i : Itp) (hi : i.wf) (hok : i.ok) (c d : Con) (h1 : shaped i.cons.length i.rols.length c = true) (h2 : shaped i.cons.length i.rols.length d = true) (j : JH) : JC Tryd.prog (GG m) 45 [.agg c.enc, .agg d.enc, .agg i.enc] j (RET (BOO (inclF (semC i c) (semC i d) (sz i))) j) := by
  obtain ⟨w1, w2⟩ := nw_le hi
  refine JC.run hmix c45 (by exact k45) ?_
  (try simp only[↓jr,jw,seval,ji,ext_ext,pid_pid,ir45])
  refine JDC.use (s_eof i hi hok c h1 _) ?_
  (try simp only[↓jr,jw,seval,ji,ext_ext,pid_pid])
  refine JDC.use (s_eof i hi hok d h2 _) ?_
  (try simp only[↓jr,jw,seval,ji,ext_ext,pid_pid])
  refine JDRAW.oc (by (try simp only[↓jr,jw,seval,ji,ext_ext,pid_pid,jq,qe2,qe3,ext_next,ext_tnext,pushTok_next,List.length_cons,List.length_nil]) <;> (repeat' (first | exact trivial | refine And.intro ?_ ?_ | exact Nat.le_refl _ | (refine pr_extp ⟨_, rfl⟩ (some_lt ?_)) | (refine pr_extp ⟨_, rfl⟩ (fun _ q => by cases q)) | omega | (unfold pid; omega) | (simp only [pushTok_next, List.length_cons, List.length_nil]; unfold pid; omega)))) ?_; (try simp only[↓jr,jw,seval,ji,ext_ext,pid_pid])
  have hfl : inclF (semC i c) (semC i d) (sz i) = inclF (semC i c) (semC i d) (64 * nw (sz i)) := by
    rw [Bool.eq_iff_iff, inclF_iff, inclF_iff]
    refine ⟨fun h x _ hf => h x (semC_lt hf) hf, fun h x hx hf => h x (by omega) hf⟩
  rw [hfl]
  refine JLOOP.of (σ := Nat) (fun k => k ≤ nw (sz i) ∧ inclF (semC i c) (semC i d) (64 * k) = true) (fun k => nw (sz i) - k)
    (fun k => [(20, I64 k), (19, I64 (nw (sz i))), (18, .arr (pid j.next 3) 0 (nw (sz i))), (7, .arr (pid j.next 3) 0 (nw (sz i))), (8, .arr (pid j.next 4) 0 (nw (sz i)))])
    (fun k => ext j [.cells 44 c.enc, .cells 44 d.enc, .cells 29 i.enc, .cells UE (wds (semC i c) (nw (sz i))), .cells UE (wds (semC i d) (nw (sz i)))]) 0 ⟨Nat.zero_le _, rfl⟩ ?_ ?_ ?_
  · (try simp only[↓jr,jw,seval,ji,ext_ext,pid_pid,DL])
    exact ⟨SubB.v, SubB.v, SubB.arr (by unfold pid; omega), SubB.arr (by unfold pid; omega), SubB.arr (by unfold pid; omega)⟩
  · exact JDropH.refl _
  rintro k ⟨hk, hI⟩
  (try simp only[↓jr,jw,seval,ji,ext_ext,pid_pid])
  refine wq.intro (fun g1 => ?_) (fun g1 => ?_)
  · have hlt : k < nw (sz i) := by omega
    have e1 : icut none (wds (semC i c) (nw (sz i))) k = some (U64 (wrd (semC i c) (64 * k) 64)) := wds_at' hlt
    have e2 : icut none (wds (semC i d) (nw (sz i))) k = some (U64 (wrd (semC i d) (64 * k) 64)) := wds_at' hlt
    (try simp only[↓jr,jw,seval,ji,ext_ext,pid_pid,e1,e2])
    refine wc.intro (by omega) ?_
    (try simp only[↓jr,jw,seval,ji,ext_ext,pid_pid,e1,e2])
    refine wc.intro (by omega) ?_
    (try simp only[↓jr,jw,seval,ji,ext_ext,pid_pid,e1,e2])
    refine JDRAW.oc (by (try simp only[↓jr,jw,seval,ji,ext_ext,pid_pid,jq,qe2,qe3,ext_next,ext_tnext,pushTok_next,List.length_cons,List.length_nil]) <;> (repeat' (first | exact trivial | refine And.intro ?_ ?_ | exact Nat.le_refl _ | (refine pr_extp ⟨_, rfl⟩ (some_lt ?_)) | (refine pr_extp ⟨_, rfl⟩ (fun _ q => by cases q)) | omega | (unfold pid; omega) | (simp only [pushTok_next, List.length_cons, List.length_nil]; unfold pid; omega)))) ?_; (try simp only[↓jr,jw,seval,ji,ext_ext,pid_pid])
    rw [wrd_andn]
    refine wq.intro (fun g2 => ?_) (fun g2 => ?_)
    · have h0 : wrd (fun x => semC i c x && !semC i d x) (64 * k) 64 = 0 := by omega
      have hn : inclF (semC i c) (semC i d) (64 * (k + 1)) = true := by
        rw [inclF_iff] at hI ⊢
        intro x hx hf
        by_cases hx2 : x < 64 * k
        · exact hI x hx2 hf
        · have h3 := wrd_none.1 h0 (x - 64 * k) (by omega)
          rw [show 64 * k + (x - 64 * k) = x by omega, hf, Bool.true_and] at h3
          simpa using h3
      (try simp only[↓jr,jw,seval,ji,ext_ext,pid_pid])
      refine wc.intro (by unfold R64; omega) ?_
      (try simp only[↓jr,jw,seval,ji,ext_ext,pid_pid])
      refine JNEXT.of (k + 1) ⟨by omega, hn⟩ (by omega) ?_ JDropH.nx
      (try simp only[↓jr,jw,seval,ji,ext_ext,pid_pid,DL])
      exact ⟨SubB.v, SubB.v, SubB.arr (by unfold pid; omega), SubB.arr (by unfold pid; omega), SubB.arr (by unfold pid; omega)⟩
    · have hn : inclF (semC i c) (semC i d) (64 * nw (sz i)) = false := by
        rw [Bool.eq_false_iff]
        intro h
        rw [inclF_iff] at h
        refine g2 ?_
        rw [wrd_none.2 fun x hx => ?_]; rfl
        skip
        cases hf : semC i c (64 * k + x)
        · rfl
        · rw [h _ (by omega) hf]; rfl
      rw [hn]
      (try simp only[↓jr,jw,seval,ji,ext_ext,pid_pid])
      refine JFIN.rb ?_
      exact SubB.v
  · (try simp only[↓jr,jw,seval,ji,ext_ext,pid_pid])
    have ek : k = nw (sz i) := by omega
    subst ek
    rw [hI]
    refine JFIN.rb ?_
    exact SubB.v
def incI (n : Nms) (c d : Con) (i : Itp) : Bool := decide (fineI n i [c, d] = 0) && inclF (semC i c) (semC i d) (sz i)
def ir16 : IFn := ⟨24, [⟨8, none⟩, ⟨9, none⟩], (.seq (.reg [oA 4 (.box 24 (.r 0)), oA 5 (.box 44 (.r 1)), oA 6 (.box 44 (.r 2)), oA 7 (.box 29 (.r 3)), oA 8 (.mov (kB false)), oA 9 (.mov (kI 0))]) (.seq (.seq (.reg [oL 11 4 (some 3), oL 12 7 (some 4), oL 13 5 (some 3), oL 14 6 (some 3), oA 15 (.bsl 2 3 [.v (.int .i64 0), .v (.int .i64 0), .sl .nil 0 []] [(0, (3, .r 13)), (3, (3, .r 14))]), oA 16 (.call 37 [.r 11, .r 12, .r 15]), oA 10 (kM 16)]) (.seq (.reg [oA 17 (kM 10), oA 18 (.bin .neq (.r 17) (kI 0))]) (.cond (.r 18) (.seq (.reg [oA 19 (kM 10), oA 8 (.mov (kB false)), oA 9 (kM 19)]) .ret) .skip))) (.seq (.reg [oL 20 5 (some 3), oL 21 6 (some 3), oL 22 7 (some 4), oA 23 (.call 45 [.r 20, .r 21, .r 22]), oA 8 (kM 23), oA 9 (.mov (kI 0))]) .ret)))⟩
theorem c16 : cfunc Tryd.prog 16 = some ir16 := by kernel_rfl
theorem k16 : okIR (max 4 ir16.n) ir16.ir = true := by decide +kernel
theorem s_Included (n : Nms) (hn : n.ok) (hs : n.short) (i : Itp) (hok : i.ok) (c d : Con) (hc : c.ok) (hb : c.nodes ≤ 4000000000) (hc2 : d.ok) (hb2 : d.nodes ≤ 4000000000) (j : JH) : JC Tryd.prog (GG m) 16 [.agg n.enc, .agg c.enc, .agg d.enc, .agg i.enc] j (RET (.tup [BOO (incI n c d i), I64 (fineI n i [c, d])]) j) := by
  refine JC.run hmix c16 (by exact k16) ?_
  (try simp only[↓jr,jw,seval,ji,ir16])
  have hf := s_ifine (m := m) i hok n hn hs [c, d] (.own j.tnext 0 3) ⟨hc, hc2, trivial⟩ (by simp) (by intro x hx; simp only [List.mem_cons, List.not_mem_nil, or_false] at hx; rcases hx with rfl | rfl <;> assumption) (ext (j.pushTok 2) [.cells 24 n.enc, .cells 44 c.enc, .cells 44 d.enc, .cells 29 i.enc])
  rw [encs_cons, encs_cons, encs_nil, List.append_nil] at hf
  refine JCs.ret hf ?_
  (try simp only[↓jr,jw,seval,ji])
  refine wq.intro (fun h1 => ?_) (fun h1 => ?_)
  · (try simp only[↓jr,jw,seval,ji])
    obtain ⟨_, h2, h3⟩ := fineI_zero h1
    have h4 : conOK n c = true ∧ conOK n d = true := by simpa using h2
    refine JCs.ret (s_iwithin i (Itp.wf_of h3).1 hok c d (shaped_of h3 h4.1) (shaped_of h3 h4.2) _) ?_
    (try simp only[↓jr,jw,seval,ji])
    rw [show incI n c d i = inclF (semC i c) (semC i d) (sz i) from by unfold incI; rw [decide_eq_true h1, Bool.true_and], h1]
    refine JFIN.rb ?_
    exact SubB.tup ⟨SubB.v, SubB.v, True.intro⟩
  · (try simp only[↓jr,jw,seval,ji])
    rw [show incI n c d i = false from by unfold incI; rw [decide_eq_false h1, Bool.false_and]]
    refine JFIN.rb ?_
    exact SubB.tup ⟨SubB.v, SubB.v, True.intro⟩
end
end Go.Proofs.YtnkkeenclhncmaaDoor.Pg
