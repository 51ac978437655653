/-
  Sets of numbers: the program's.
-/
import Derived.Test.YtnkkeenclhncmaaDoorIa
import Derived.Test.YtnkkeenclhncmaaDoorLg
set_option linter.unusedVariables false
set_option linter.unusedSimpArgs false
set_option maxRecDepth 100000
set_option maxHeartbeats 4000000
namespace Go.Proofs.YtnkkeenclhncmaaDoor.Pg
open Go
section
variable {m : GM} {G : Nat → Option (List AV)}
abbrev UE : TypeId := 120
def nw (n : Nat) : Nat := (n + 63) / 64
theorem tdivnw {n : Nat} : ((n : Int) + 63).tdiv 64 = ((nw n : Nat) : Int) := by
  rw [show (n : Int) + 63 = ((n + 63 : Nat) : Int) by omega, tdiv64]; rfl
def ir116 : IFn := ⟨7, [⟨2, none⟩], (.seq (.reg [oA 2 (.mov (.k (.sl .nil 0 [])))]) (.seq (.reg [oA 3 (kM 0), oA 4 (.bin .add (.r 3) (kI 63)), oA 5 (.bin .quo (.r 4) (kI 64)), oA 6 (.mks 120 1 8 [.v (.int .u64 0)] (.r 5) (.r 5)), oA 2 (kM 6)]) .ret))⟩
theorem c116 : cfunc Tryd.prog 116 = some ir116 := by kernel_rfl
theorem k116 : okIR (max 1 ir116.n) ir116.ir = true := by decide +kernel
theorem s_NewSet (n : Nat) (h : n ≤ 1000000) (j : JH) : JC Tryd.prog G 116 [I64 n] j (RET (.arr (pid j.next 0) 0 (nw n)) (ext j [.cells UE (wds (fun _ => false) (nw n))])) := by
  have hw : nw n ≤ 1000000 := by unfold nw; omega
  refine JC.run hmix c116 (by exact k116) ?_
  (try simp only[↓jr,jw,seval,tdivnw,ir116])
  refine wc.intro (by unfold R64; omega) ?_
  (try simp only[↓jr,jw,seval,tdivnw])
  try (refine wc.intro (by decide) ?_; (try simp only[↓jr,jw,seval,tdivnw]))
  refine wc.intro (by unfold R64; omega) ?_
  (try simp only[↓jr,jw,seval,tdivnw])
  refine JMKS.same (by omega) (by omega) ?_
  rw [wds_zero]
  (try simp only[↓jr,jw,seval,tdivnw])
  exact JFIN.same (SubB.arr (by rw [ext_next, pid_lt]; simp)) ⟨rfl, rfl⟩
def ir80 : IFn := ⟨15, [⟨4, none⟩], (.seq (.reg [oA 4 (.mov (kB false))]) (.seq (.reg [oA 5 (kM 0), oA 6 (kM 1), oA 7 (.bin .quo (.r 6) (kI 64)), oA 8 (.iasl 1 (.r 5) (.r 7)), oL 9 8 none, oA 10 (kM 1), oA 11 (.bin .rem (.r 10) (kI 64)), oA 12 (.bin .shr (.r 9) (.r 11)), oA 13 (.bin .and (.r 12) (.k (.v (.int .u64 1)))), oA 14 (.bin .eql (.r 13) (.k (.v (.int .u64 1)))), oA 4 (kM 14)]) .ret))⟩
theorem c80 : cfunc Tryd.prog 80 = some ir80 := by kernel_rfl
theorem k80 : okIR (max 2 ir80.n) ir80.ir = true := by decide +kernel
theorem s_Has (f : Nat → Bool) (len o x : Nat) (te : TypeId) (hx : x < 64 * len) (hl : len ≤ 1000000) (j : JH) (ho : o < j.next) (hg : j.get o = some (.cells te (wds f len))) : JC Tryd.prog G 80 [.arr o 0 len, I64 x] j (RET (BOO (f x)) j) := by
  have hk : icut none (wds f len) (x / 64) = some (U64 (wrd f (64 * (x / 64)) 64)) := by unfold icut; exact wds_at (by omega)
  refine JC.run hmix c80 (by exact k80) ?_
  (try simp only[↓jr,jw,seval,ext_get_old,ext_set_old,ho,hg,hk,tdiv64,tmod64,ir80])
  refine wc.intro (by unfold R64; omega) ?_
  (try simp only[↓jr,jw,seval,ext_get_old,ext_set_old,ho,hg,hk,tdiv64,tmod64])
  refine wc.intro (by omega) ?_
  (try simp only[↓jr,jw,seval,ext_get_old,ext_set_old,ho,hg,hk,tdiv64,tmod64])
  rw [bit_has]
  refine JFIN.rb ?_
  exact SubB.v
theorem wds_splice {f g : Nat → Bool} {n k : Nat} (hk : k < n) (h : ∀ i, i / 64 ≠ k → g i = f i) : splice (wds f n) k [U64 (wrd g (64 * k) 64)] = wds g n := by
  rw [← wds_set h]
  unfold splice
  rw [List.set_eq_take_append_cons_drop, if_pos (by rw [wds_len]; exact hk)]
  simp
def ir117 : IFn := ⟨14, [], (.draw [oA 4 (kM 0), oA 5 (kM 1), oA 6 (.bin .quo (.r 5) (kI 64)), oA 7 (.iasl 1 (.r 4) (.r 6)), oL 8 7 none, oA 9 (kM 1), oA 10 (.bin .rem (.r 9) (kI 64)), oA 11 (.bin .shl (.k (.v (.int .u64 1))) (.r 10)), oA 12 (.bin .or (.r 8) (.r 11)), oA 13 (.iasl 1 (.r 4) (.r 6)), oN (.store 1 (.r 13) (.r 12))] [])⟩
theorem c117 : cfunc Tryd.prog 117 = some ir117 := by kernel_rfl
theorem k117 : okIR (max 2 ir117.n) ir117.ir = true := by decide +kernel
theorem s_Add (f : Nat → Bool) (len o x : Nat) (te : TypeId) (hx : x < 64 * len) (hl : len ≤ 1000000) (j : JH) (ho : o < j.next) (hg : j.get o = some (.cells te (wds f len))) : JC Tryd.prog G 117 [.arr o 0 len, I64 x] j (RET (aret []) (j.set o (.cells te (wds (updF f x) len)))) := by
  have hk : icut none (wds f len) (x / 64) = some (U64 (wrd f (64 * (x / 64)) 64)) := by unfold icut; exact wds_at (by omega)
  refine JC.run hmix c117 (by exact k117) ?_
  (try simp only[↓jr,jw,seval,ext_get_old,ext_set_old,ho,hg,hk,tdiv64,tmod64,ir117])
  refine wc.intro (by unfold R64; omega) ?_
  (try simp only[↓jr,jw,seval,ext_get_old,ext_set_old,ho,hg,hk,tdiv64,tmod64])
  refine wc.intro (by omega) ?_
  (try simp only[↓jr,jw,seval,ext_get_old,ext_set_old,ho,hg,hk,tdiv64,tmod64])
  refine wc.intro (by omega) ?_
  (try simp only[↓jr,jw,seval,ext_get_old,ext_set_old,ho,hg,hk,tdiv64,tmod64])
  rw [bit_add]
  refine wc.intro (by rw [wds_len]; omega) ?_
  rw [show (U64 ((wrd (updF f x) (64 * (x / 64)) 64 : Nat) : Int)).cells = [U64 (wrd (updF f x) (64 * (x / 64)) 64)] from rfl, wds_splice (f := f) (g := updF f x) (by omega) (fun i hi => by unfold updF; have : ¬ i = x := fun e => hi (by rw [e]); simp [this])]
  (try simp only[↓jr,jw,seval,ext_get_old,ext_set_old,ho,hg,hk,tdiv64,tmod64])
  refine JDRAW.oc (by (try simp only[↓jr,jw,seval,ext_get_old,ext_set_old,ho,hg,hk,tdiv64,tmod64,jq,qe2,qe3,ext_next,ext_tnext,pushTok_next,List.length_cons,List.length_nil]) <;> (repeat' (first | exact trivial | refine And.intro ?_ ?_ | exact Nat.le_refl _ | omega | (unfold pid; omega)))) ?_
  (try simp only[↓jr,jw,seval,ext_get_old,ext_set_old,ho,hg,hk,tdiv64,tmod64])
  exact JFIN.ret (JDropH.back1 (TokExt.refl _) ho (OSub.pure wds_pur)).of_ext (SubB.pure rfl)
def ir118 : IFn := ⟨23, [⟨4, none⟩], (.seq (.reg [oA 4 (.mov (.k (.sl .nil 0 [])))]) (.seq (.reg [oA 7 (kM 0), oT 8 7 (.lenl (.r 7)), oA 9 (.mks 120 1 8 [.v (.int .u64 0)] (.r 8) (.r 8)), oA 5 (kM 9)]) (.seq (.seq (.reg [oA 6 (.mov (kI 0))]) (.block 0 (.loop (.seq (.seq (.reg [oA 10 (kM 6), oA 11 (kM 1), oA 12 (.bin .lss (.r 10) (.r 11))]) (.cond (.r 12) .skip (.exit 0))) (.seq (.block 1 (.seq (.reg [oA 15 (kM 0), oA 16 (kM 6), oA 17 (.call 80 [.r 15, .r 16]), oA 18 (.not (.r 17))]) (.cond (.r 18) (.reg [oA 19 (kM 5), oA 20 (kM 6), oA 21 (.call 117 [.r 19, .r 20])]) .skip))) (.reg [oA 13 (kM 6), oA 14 (.bin .add (.r 13) (kI 1)), oA 6 (kM 14)])))))) (.seq (.reg [oA 22 (kM 5), oA 4 (kM 22)]) .ret))))⟩
theorem c118 : cfunc Tryd.prog 118 = some ir118 := by kernel_rfl
theorem k118 : okIR (max 2 ir118.n) ir118.ir = true := by decide +kernel
theorem s_compl (f : Nat → Bool) (len o n : Nat) (te : TypeId) (hx : n ≤ 64 * len) (hl : len ≤ 10000) (j : JH) (ho : o < j.next) (hg : j.get o = some (.cells te (wds f len))) : JC Tryd.prog G 118 [.arr o 0 len, I64 n] j (RET (.arr (pid j.next 0) 0 len) (ext j [.cells UE (wds (fun i => decide (i < n) && !f i) len)])) := by
  refine JC.run hmix c118 (by exact k118) ?_
  (try simp only[↓jr,jw,seval,ext_get_old,ext_set_old,ho,hg,ir118])
  refine JMKS.same (by omega) (by omega) ?_
  rw [wds_zero]
  (try simp only[↓jr,jw,seval,ext_get_old,ext_set_old,ho,hg])
  refine JLOOP.of (σ := Nat) (fun k => k ≤ n) (fun k => n - k)
    (fun k => [(6, I64 k), (5, .arr (pid j.next 0) 0 len), (0, .arr o 0 len), (1, I64 n)]) (fun k => ext j [.cells UE (wds (fun i => decide (i < k) && !f i) len)]) 0 (Nat.zero_le _) ?_ ?_ ?_
  · (try simp only[↓jr,jw,seval,ext_get_old,ext_set_old,ho,hg,DL])
    exact ⟨SubB.v, SubB.arr (by unfold pid; omega), SubB.arr (by unfold pid; omega), SubB.v⟩
  · have e : (fun i => decide (i < 0) && !f i) = fun _ => false := by funext i; simp
    simp only [e]; exact JDropH.refl _
  intro k hk
  (try simp only[↓jr,jw,seval,ext_get_old,ext_set_old,ho,hg])
  refine wq.intro (fun g1 => ?_) (fun g1 => ?_)
  · (try simp only[↓jr,jw,seval,ext_get_old,ext_set_old,ho,hg])
    refine JCs.ret (s_Has f len o k te (by omega) (by omega) _ (by rw [ext_next]; unfold pid; omega) (by rw [ext_get_old ho]; exact hg)) ?_
    (try simp only[↓jr,jw,seval,ext_get_old,ext_set_old,ho,hg])
    refine ww.intro (fun g2 => ?_) (fun g2 => ?_)
    · (try simp only[↓jr,jw,seval,ext_get_old,ext_set_old,ho,hg])
      refine wc.intro (by unfold R64; omega) ?_
      (try simp only[↓jr,jw,seval,ext_get_old,ext_set_old,ho,hg])
      refine JNEXT.of (k + 1) (by omega) (by omega) ?_ ?_
      · (try simp only[↓jr,jw,seval,ext_get_old,ext_set_old,ho,hg,DL])
        exact ⟨SubB.v, SubB.arr (by unfold pid; omega), SubB.arr (by unfold pid; omega), SubB.v⟩
      · have e : (fun i => decide (i < k + 1) && !f i) = fun i => decide (i < k) && !f i := by
          funext i
          by_cases q : i = k
          · subst q; simp [g2]
          · congr 1; exact decide_eq_decide.2 (by omega)
        simp only [e]; exact JDropH.refl _
    · (try simp only[↓jr,jw,seval,ext_get_old,ext_set_old,ho,hg])
      refine JCs.ret (s_Add (fun i => decide (i < k) && !f i) len (pid j.next 0) k UE (by omega) (by omega) _ (by rw [ext_next, pid_lt]; simp) (ext_get_new rfl)) ?_
      (try simp only[↓jr,jw,seval,ext_get_old,ext_set_old,ho,hg])
      refine wc.intro (by unfold R64; omega) ?_
      (try simp only[↓jr,jw,seval,ext_get_old,ext_set_old,ho,hg])
      refine JNEXT.of (k + 1) (by omega) (by omega) ?_ ?_
      · (try simp only[↓jr,jw,seval,ext_get_old,ext_set_old,ho,hg,DL])
        exact ⟨SubB.v, SubB.arr (by unfold pid; omega), SubB.arr (by unfold pid; omega), SubB.v⟩
      · have e : (fun i => decide (i < k + 1) && !f i) = updF (fun i => decide (i < k) && !f i) k := by
          funext i
          unfold updF
          by_cases q : i = k
          · subst q; simp [g2]
          · have h1 : decide (i < k + 1) = decide (i < k) := decide_eq_decide.2 (by omega)
            simp [h1, q]
        simp only [e]
        exact JDropH.next0 (TokExt.refl _) ⟨.inr (OSub.pure wds_pur), True.intro⟩
  · (try simp only[↓jr,jw,seval,ext_get_old,ext_set_old,ho,hg])
    have ek : k = n := by omega
    subst ek
    exact JFIN.same (SubB.arr (by rw [ext_next, pid_lt]; simp)) ⟨rfl, rfl⟩
def ir71 : IFn := ⟨20, [⟨4, none⟩], (.seq (.reg [oA 4 (.mov (.k (.sl .nil 0 [])))]) (.seq (.reg [oA 5 (.mov (.k (.sl .nil 0 [])))]) (.seq (.seq (.reg [oA 6 (.mov (kI 0))]) (.block 0 (.loop (.seq (.seq (.reg [oA 7 (kM 6), oA 8 (kM 1), oA 9 (.bin .lss (.r 7) (.r 8))]) (.cond (.r 9) .skip (.exit 0))) (.seq (.block 1 (.seq (.reg [oA 12 (kM 0), oA 13 (kM 6), oA 14 (.call 80 [.r 12, .r 13])]) (.cond (.r 14) (.reg [oA 15 (kM 5), oA 16 (kM 6), oA 17 (.bsl 1 1 [.v (.int .i64 0)] [(0, (1, .r 16))]), oA 18 (.app 1 8 (.r 15) (.r 17)), oA 5 (kM 18)]) .skip))) (.reg [oA 10 (kM 6), oA 11 (.bin .add (.r 10) (kI 1)), oA 6 (kM 11)])))))) (.seq (.reg [oA 19 (kM 5), oA 4 (kM 19)]) .ret))))⟩
theorem c71 : cfunc Tryd.prog 71 = some ir71 := by kernel_rfl
theorem k71 : okIR (max 2 ir71.n) ir71.ir = true := by decide +kernel
theorem s_List (f : Nat → Bool) (len o n : Nat) (te : TypeId) (hx : n ≤ 64 * len) (hl : len ≤ 10000) (j : JH) (ho : o < j.next) (hg : j.get o = some (.cells te (wds f len))) : JC Tryd.prog G 71 [.arr o 0 len, I64 n] j (RET (.sl .none (bitsL f n).length (ints (bitsL f n))) j) := by
  refine JC.run hmix c71 (by exact k71) ?_
  (try simp only[↓jr,jw,seval,ext_get_old,ext_set_old,ho,hg,ir71])
  refine JLOOP.of (σ := Nat × Tok × JH) (fun x => x.1 ≤ n ∧ TokExt j x.2.2 ∧ CanApp j x.2.2 x.2.1 1 (bitsL f x.1).length) (fun x => n - x.1)
    (fun x => [(6, I64 x.1), (5, .sl x.2.1 (bitsL f x.1).length (ints (bitsL f x.1))), (0, .arr o 0 len), (1, I64 n)]) (fun x => ext x.2.2 []) (0, .nil, j) ⟨Nat.zero_le _, TokExt.refl _, CanApp.nil⟩ ?_ (JDropH.refl _) ?_
  · (try simp only[↓jr,jw,seval,ext_get_old,ext_set_old,ho,hg,DL])
    exact ⟨SubB.v, SubB.pure rfl, SubB.arr (by unfold pid; omega), SubB.v⟩
  rintro ⟨k, tk, jx⟩ ⟨hk, ht, hc⟩
  simp only at hk ht hc
  have hox : o < jx.next := by rw [ht.next]; exact ho
  have hgx : jx.get o = some (.cells te (wds f len)) := by rw [ht.get o ho]; exact hg
  (try simp only[↓jr,jw,seval,ext_get_old,ext_set_old,ho,hg,ht.next])
  refine wq.intro (fun g1 => ?_) (fun g1 => ?_)
  · (try simp only[↓jr,jw,seval,ext_get_old,ext_set_old,ho,hg])
    refine JCs.ret (s_Has f len o k te (by omega) (by omega) _ (by rw [ext_next]; unfold pid; omega) (by rw [ext_get_old hox]; exact hgx)) ?_
    (try simp only[↓jr,jw,seval,ext_get_old,ext_set_old,ho,hg])
    have hbl := @bitsL_len f k
    refine ww.intro (fun g2 => ?_) (fun g2 => ?_)
    · (try simp only[↓jr,jw,seval,ext_get_old,ext_set_old,ho,hg])
      refine JAPP.can' hc.push (ht.push 1) (by simp [d_len6]) rfl rfl (by omega) (by omega) ?_
      intro tok1 j1 hcan ht3 hle
      have hle' : jx.tnext ≤ j1.tnext := Nat.le_trans (Nat.le_succ _) hle
      (try simp only[↓jr,jw,seval,ext_get_old,ext_set_old,ho,hg])
      refine wc.intro (by unfold R64; omega) ?_
      (try simp only[↓jr,jw,seval,ext_get_old,ext_set_old,ho,hg])
      have e1 : bitsL f (k + 1) = bitsL f k ++ [(k : Int)] := by rw [bitsL_succ, g2]; rfl
      have e2 : (bitsL f (k + 1)).length = (bitsL f k).length + 1 := by rw [e1]; simp
      have e3 : ints (bitsL f k) ++ [I64 (k : Int)] = ints (bitsL f (k + 1)) := by rw [e1]; simp [ints]
      refine JNEXT.of (k + 1, tok1, j1) ⟨by simp only; omega, ht3, by simp only [e2]; exact hcan⟩ (by simp only; omega) ?_ (JDropH.nextT ht ht3 (TokExt.refl _) hle' True.intro)
      (try simp only[↓jr,jw,seval,ext_get_old,ext_set_old,ho,hg,DL,e2])
      rw [← e3]
      exact ⟨SubB.v, SubB.can hcan (by rw [pures_append, ints_pur]; rfl), SubB.arr (by rw [ht3.next]; unfold pid; omega), SubB.v⟩
    · (try simp only[↓jr,jw,seval,ext_get_old,ext_set_old,ho,hg])
      refine wc.intro (by unfold R64; omega) ?_
      (try simp only[↓jr,jw,seval,ext_get_old,ext_set_old,ho,hg])
      have e1 : bitsL f (k + 1) = bitsL f k := by rw [bitsL_succ, g2]; simp
      refine JNEXT.of (k + 1, tk, jx) ⟨by simp only; omega, ht, by simp only [e1]; exact hc⟩ (by simp only; omega) ?_ (JDropH.nextT ht ht (TokExt.refl _) (Nat.le_refl _) True.intro)
      (try simp only[↓jr,jw,seval,ext_get_old,ext_set_old,ho,hg,DL,e1])
      exact ⟨SubB.v, SubB.can hc (ints_pur _), SubB.arr (by rw [ht.next]; unfold pid; omega), SubB.v⟩
  · (try simp only[↓jr,jw,seval,ext_get_old,ext_set_old,ho,hg])
    have ek : k = n := by omega
    subst ek
    exact JFIN.ret (JDropH.back ht).of_ext (SubB.sl rfl (SubBs.pure (ints_pur _)))
end
end Go.Proofs.YtnkkeenclhncmaaDoor.Pg
