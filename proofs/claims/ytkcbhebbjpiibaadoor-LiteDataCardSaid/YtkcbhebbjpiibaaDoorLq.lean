/-
  Dead concepts, the empty ones, what the rules imply.
-/
import Derived.Test.YtkcbhebbjpiibaaDoorLp
set_option linter.unusedVariables false
set_option linter.unusedSimpArgs false
set_option maxRecDepth 20000
set_option maxHeartbeats 8000000
namespace Go.Proofs.YtkcbhebbjpiibaaDoor.Pg
open Go
theorem sbLq {A : Prop} (h : A := by repeat' (first | exact trivial | refine And.intro ?_ ?_ | exact SubB.v | exact SubB.any | ((first | refine SubB.ptr ?_ | refine SubB.arr ?_ | refine SubB.mp ?_) <;> first | assumption | (unfold pid; omega)) | ((first | refine SubB.pure ?_ | refine SubBs.pure ?_) <;> (simp only [AV.pure, AV.pures, pures_append, jpu, rrow_pur, rb_pur, Bool.and_self, Bool.and_true, Bool.true_and]; done)) | refine SubB.fn ?_ ?_ | refine SubB.sl ?_ ?_ | refine SubB.agg ?_ | refine SubB.tup ?_ | rfl)) : A := h
variable {m : Int} {G : Nat → Option (List AV)}
def ir101 : IFn := ⟨8, [⟨2, none⟩, ⟨3, none⟩], (.seq (.reg [oA 2 (.mov (kI 0)), oA 3 (.mov (kB false))]) (.seq (.reg [oA 4 (kM 0), oA 5 (.bin .sub (.r 4) (kI 16)), oA 6 (kM 0), oA 7 (.bin .geq (.r 6) (kI 16)), oA 2 (kM 5), oA 3 (kM 7)]) .ret))⟩
theorem c101 : cfunc Tryd.prog 101 = some ir101 := by kernel_rfl
theorem k101 : okIR (max 1 ir101.n) ir101.ir = true := by decide +kernel
theorem s_role (c : Nat) (hc : c < 28) (j : JH) : JC Tryd.prog G 101 [I64 c] j (RET (.tup [I64 ((c : Int) - 16), BOO (decide (16 ≤ (c : Int)))]) j) := by
  refine JC.run hmix c101 (by exact k101) ?_
  (try simp only[↓jr,jw,seval,ir101])
  refine wc.intro (by unfold R64; omega) ?_
  (try simp only[↓jr,jw,seval])
  refine JFIN.rb ?_
  exact sbLq
theorem old_lt {j : JH} {o : Nat} {l : List AObj} (ho : o < j.next) : o < (ext j l).next := by rw [ext_next]; unfold pid; omega
theorem old_get {j : JH} {o : Nat} {l : List AObj} {x : AObj} (ho : o < j.next) (hg : j.get o = some x) : (ext j l).get o = some x := by rw [ext_get_old ho]; exact hg
/-- The number of a concept's inverse. -/
def inv (d : Nat) : Nat := 16 + ((d - 16) ^^^ 1)
theorem inv_xor {d : Nat} (h1 : 16 ≤ d) (h2 : d < 28) : 16 + IntKind.i64.wrap (BitVec.ofInt 64 ((d : Int) - 16) ^^^ 1#64).toNat = (inv d : Int) := by
  have : ∀ d : Nat, d < 28 → 16 ≤ d → 16 + IntKind.i64.wrap (BitVec.ofInt 64 ((d : Int) - 16) ^^^ 1#64).toNat = (inv d : Int) := by decide +kernel
  exact this d h2 h1
theorem inv_lt {d : Nat} (h1 : 16 ≤ d) (h2 : d < 28) : inv d < 28 := by
  have : ∀ d < 28, 16 ≤ d → inv d < 28 := by decide
  exact this d h2 h1
theorem some_xor {d : Nat} (h1 : 16 ≤ d) (h2 : d < 28) : ∃ r : Int, IntKind.i64.wrap (BitVec.ofInt 64 ((d : Int) - 16) ^^^ 1#64).toNat = r ∧ 16 + r = (inv d : Int) ∧ R64 (16 + r) := by
  refine ⟨_, rfl, inv_xor h1 h2, ?_⟩
  rw [inv_xor h1 h2]; have := inv_lt h1 h2; unfold R64; omega
def dead (N c : Nat) : Bool := confl N c c || (List.range 28).any fun d => rch N c d && (emp N d || (decide (16 ≤ d) && emp N (inv d)))
def ir95 : IFn := ⟨50, [⟨4, none⟩], (.seq (.reg [oA 4 (.mov (kB false))]) (.seq (.seq (.reg [oA 9 (kM 0), oA 10 (kM 1), oA 11 (kM 1), oA 12 (.call 78 [.r 9, .r 10, .r 11])]) (.cond (.r 12) (.seq (.reg [oA 4 (.mov (kB true))]) .ret) .skip)) (.seq (.seq (.reg [oA 13 (kM 0), oA 14 (kM 1), oA 15 (.nchk (.r 13)), oA 16 (.fadr 0 (.r 15)), oA 17 (.iaar 28 28 (.r 16) (.r 14)), oL 18 17 (some 28), oA 19 (.mov (kI 0))]) (.block 0 (.loop (.seq (.reg [oA 20 (.bin .lss (.r 19) (kI 28))]) (.seq (.cond (.r 20) .skip (.exit 0)) (.seq (.block 1 (.seq (.reg [oA 21 (kM 19), oA 22 (.aidx none 28 1 (.r 18) (.r 19)), oA 5 (kM 21), oA 6 (kM 22)]) (.seq (.seq (.reg [oA 23 (kM 6), oA 24 (.not (.r 23))]) (.cond (.r 24) (.exit 1) .skip)) (.seq (.reg [oA 26 (kM 5), oT 27 26 (.call 101 [.r 26]), oA 25 (kM 27), oA 28 (.ext (.r 25) 0), oA 29 (.ext (.r 25) 1), oA 7 (kM 28), oA 8 (kM 29)]) (.seq (.draw [oA 30 (kM 0), oA 31 (kM 5), oA 32 (.nchk (.r 30)), oA 33 (.fadr 1712 (.r 32)), oA 34 (.iaar 28 1 (.r 33) (.r 31)), oL 35 34 none, oA 36 (kM 35), ⟨(some 37), (some ((36, false))), none, (kM 8)⟩, ⟨(some 38), (some ((36, false))), none, (kM 37)⟩, ⟨(some 39), (some ((38, true))), none, (kM 0)⟩, ⟨(some 40), (some ((38, true))), none, (kM 7)⟩, ⟨(some 41), (some ((38, true))), none, (.bin .xor (.r 40) (kI 1))⟩, ⟨(some 42), (some ((38, true))), (some (.r 41)), (.call 65 [.r 41])⟩, ⟨(some 43), (some ((38, true))), none, (.nchk (.r 39))⟩, ⟨(some 44), (some ((38, true))), none, (.fadr 1712 (.r 43))⟩, ⟨(some 45), (some ((38, true))), none, (.iaar 28 1 (.r 44) (.r 42))⟩, ⟨(some 46), (some ((38, true))), (some (.r 45)), (.load none (.r 45))⟩, ⟨(some 47), (some ((36, false))), none, (.pick (.r 38) (.r 46) (kB false))⟩, oA 48 (.pick (.r 36) (kB true) (.r 47))] []) (.cond (.r 48) (.seq (.reg [oA 4 (.mov (kB true))]) .ret) .skip)))))) (.reg [oA 49 (.bin .add (.r 19) (kI 1)), oA 19 (kM 49)]))))))) (.seq (.reg [oA 4 (.mov (kB false))]) .ret))))⟩
theorem c95 : cfunc Tryd.prog 95 = some ir95 := by kernel_rfl
theorem k95 : okIR (max 2 ir95.n) ir95.ir = true := by decide +kernel
theorem s_dead (o : Nat) (t : TypeId) (N : Nat) (c : Nat) (hc : c < 28) (j : JH) (ho : o < j.next) (hg : j.get o = some (.cells t (rb N))) : JC Tryd.prog G 95 [.ptr o 0, I64 c] j (RET (BOO (dead N c)) j) := by
  refine JC.run hmix c95 (by exact k95) ?_
  (try simp only[↓jr,jw,seval,ext_get_old,ho,hg,rb_ld,rrow_ld,rb_len,rrow_len,ir95])
  refine JCs.ret (s_conflict o t N c c hc hc (ext j []) (old_lt ho) (old_get ho hg)) ?_
  (try simp only[↓jr,jw,seval,ext_get_old,ho,hg,rb_ld,rrow_ld,rb_len,rrow_len])
  refine ww.intro (fun h0 => ?_) (fun h0 => ?_)
  · (try simp only[↓jr,jw,seval,ext_get_old,ho,hg,rb_ld,rrow_ld,rb_len,rrow_len])
    refine JFIN.rb ?_
    unfold dead; rw [h0]; exact SubB.v
  (try simp only[↓jr,jw,seval,ext_get_old,ho,hg,rb_ld,rrow_ld,rb_len,rrow_len])
  refine wc.intro (by omega) ?_
  (try simp only[↓jr,jw,seval,ext_get_old,ho,hg,rb_ld,rrow_ld,rb_len,rrow_len])
  refine wh.row (by omega) ?_
  (try simp only[↓jr,jw,seval,ext_get_old,ho,hg,rb_ld,rrow_ld,rb_len,rrow_len])
  refine JLOOP.of (σ := Nat) (fun x => x ≤ 28 ∧ ((List.range x).any fun d => rch N c d && (emp N d || (decide (16 ≤ d) && emp N (inv d)))) = false) (fun x => 28 - x) (fun x => [(19, I64 x), (18, .agg (rrow N (c * 28) 28)), (0, .ptr o 0)]) (fun x => ext j []) 0 ⟨by omega, rfl⟩ ?_ (JDropH.refl _) ?_
  · ((try simp only[↓jr,jw,seval,ext_get_old,ho,hg,rb_ld,rrow_ld,rb_len,rrow_len,DL]) <;> exact sbLq)
  · rintro x ⟨hx, hI⟩
    (try simp only[↓jr,jw,seval,ext_get_old,ho,hg,rb_ld,rrow_ld,rb_len,rrow_len])
    refine wq.intro (fun h1 => ?_) (fun h1 => ?_)
    · (try simp only[↓jr,jw,seval,ext_get_old,ho,hg,rb_ld,rrow_ld,rb_len,rrow_len])
      refine wc.intro (by omega) ?_
      (try simp only[↓jr,jw,seval,ext_get_old,ho,hg,rb_ld,rrow_ld,rb_len,rrow_len])
      refine wc.intro (by omega) ?_
      (try simp only[↓jr,jw,seval,ext_get_old,ho,hg,rb_ld,rrow_ld,rb_len,rrow_len])
      refine ww.intro (fun h2 => ?_) (fun h2 => ?_)
      · (try simp only[↓jr,jw,seval,ext_get_old,ho,hg,rb_ld,rrow_ld,rb_len,rrow_len])
        refine JCs.ret (s_role x (by omega) _) ?_
        (try simp only[↓jr,jw,seval,ext_get_old,ho,hg,rb_ld,rrow_ld,rb_len,rrow_len])
        refine wc.intro (by omega) ?_
        (try simp only[↓jr,jw,seval,ext_get_old,ho,hg,rb_ld,rrow_ld,rb_len,rrow_len])
        refine wc.intro (by omega) ?_
        (try simp only[↓jr,jw,seval,ext_get_old,ho,hg,rb_ld,rrow_ld,rb_len,rrow_len])
        have tru : (emp N x || (decide (16 ≤ x) && emp N (inv x))) = true → dead N c = true := fun q => by
          unfold dead; rw [any_hit (k := x) (by omega) (by simp only [rch]; rw [h2, q]; rfl), Bool.or_true]
        have nxt : (emp N x || (decide (16 ≤ x) && emp N (inv x))) = false → ((List.range (x + 1)).any fun d => rch N c d && (emp N d || (decide (16 ≤ d) && emp N (inv d)))) = false :=
          fun q => any_step (n := 28) (by omega) (by rw [q, Bool.and_false]) hI
        refine ww.intro (fun h3 => ?_) (fun h3 => ?_)
        · (try simp only[↓jr,jw,seval,ext_get_old,ho,hg,rb_ld,rrow_ld,rb_len,rrow_len])
          refine JDRAW.oc (by (try simp only[↓jr,jw,seval,ext_get_old,ho,hg,rb_ld,rrow_ld,rb_len,rrow_len,jq]) <;> exact orq) ?_; (try simp only[↓jr,jw,seval,ext_get_old,ho,hg,rb_ld,rrow_ld,rb_len,rrow_len])
          refine JFIN.rb ?_
          rw [tru (by simp only [emp]; rw [h3]; rfl)]; exact SubB.v
        · (try simp only[↓jr,jw,seval,ext_get_old,ho,hg,rb_ld,rrow_ld,rb_len,rrow_len])
          refine wq.intro (fun h4 => ?_) (fun h4 => ?_)
          · (try simp only[↓jr,jw,seval,ext_get_old,ho,hg,rb_ld,rrow_ld,rb_len,rrow_len])
            have h4' : 16 ≤ x := by omega
            obtain ⟨r, e1, e2, e3⟩ := some_xor h4' (by omega)
            rw [e1]
            have h5 := inv_lt h4' (by omega)
            refine JDC.use (s_some r e3 _) ?_
            rw [e2]
            (try simp only[↓jr,jw,seval,ext_get_old,ho,hg,rb_ld,rrow_ld,rb_len,rrow_len])
            refine wc.intro (by omega) ?_
            (try simp only[↓jr,jw,seval,ext_get_old,ho,hg,rb_ld,rrow_ld,rb_len,rrow_len])
            refine wc.intro (by omega) ?_
            (try simp only[↓jr,jw,seval,ext_get_old,ho,hg,rb_ld,rrow_ld,rb_len,rrow_len])
            refine JDRAW.oc (by (try simp only[↓jr,jw,seval,ext_get_old,ho,hg,rb_ld,rrow_ld,rb_len,rrow_len,jq]) <;> exact orq) ?_; (try simp only[↓jr,jw,seval,ext_get_old,ho,hg,rb_ld,rrow_ld,rb_len,rrow_len])
            refine ww.intro (fun h6 => ?_) (fun h6 => ?_)
            · (try simp only[↓jr,jw,seval,ext_get_old,ho,hg,rb_ld,rrow_ld,rb_len,rrow_len])
              refine JFIN.rb ?_
              rw [tru (by rw [decide_eq_true h4']; simp only [emp]; rw [h6]; simp)]; exact SubB.v
            · (try simp only[↓jr,jw,seval,ext_get_old,ho,hg,rb_ld,rrow_ld,rb_len,rrow_len])
              refine wc.intro (by unfold R64; omega) ?_
              (try simp only[↓jr,jw,seval,ext_get_old,ho,hg,rb_ld,rrow_ld,rb_len,rrow_len])
              refine JNEXT.of (x + 1) ⟨by omega, nxt (by rw [decide_eq_true h4']; simp only [emp]; rw [h3, h6]; rfl)⟩ (by omega) ?_ JDropH.nx
              ((try simp only[↓jr,jw,seval,ext_get_old,ho,hg,rb_ld,rrow_ld,rb_len,rrow_len,DL]) <;> exact sbLq)
          · (try simp only[↓jr,jw,seval,ext_get_old,ho,hg,rb_ld,rrow_ld,rb_len,rrow_len])
            refine JDRAW.oc (by (try simp only[↓jr,jw,seval,ext_get_old,ho,hg,rb_ld,rrow_ld,rb_len,rrow_len,jq]) <;> exact orq) ?_; (try simp only[↓jr,jw,seval,ext_get_old,ho,hg,rb_ld,rrow_ld,rb_len,rrow_len])
            refine wc.intro (by unfold R64; omega) ?_
            (try simp only[↓jr,jw,seval,ext_get_old,ho,hg,rb_ld,rrow_ld,rb_len,rrow_len])
            refine JNEXT.of (x + 1) ⟨by omega, nxt (by rw [decide_eq_false (by omega)]; simp only [emp]; rw [h3]; rfl)⟩ (by omega) ?_ JDropH.nx
            ((try simp only[↓jr,jw,seval,ext_get_old,ho,hg,rb_ld,rrow_ld,rb_len,rrow_len,DL]) <;> exact sbLq)
      · (try simp only[↓jr,jw,seval,ext_get_old,ho,hg,rb_ld,rrow_ld,rb_len,rrow_len])
        refine wc.intro (by unfold R64; omega) ?_
        (try simp only[↓jr,jw,seval,ext_get_old,ho,hg,rb_ld,rrow_ld,rb_len,rrow_len])
        refine JNEXT.of (x + 1) ⟨by omega, any_step (n := 28) (by omega) (by simp only [rch]; rw [h2]; rfl) hI⟩ (by omega) ?_ JDropH.nx
        ((try simp only[↓jr,jw,seval,ext_get_old,ho,hg,rb_ld,rrow_ld,rb_len,rrow_len,DL]) <;> exact sbLq)
    · (try simp only[↓jr,jw,seval,ext_get_old,ho,hg,rb_ld,rrow_ld,rb_len,rrow_len])
      refine JFIN.rb ?_
      have e : x = 28 := by omega
      subst e
      have e : dead N c = false := by unfold dead; rw [h0, hI]; rfl
      rw [e]; exact SubB.v
theorem set_self {j : JH} {o : Nat} {x : AObj} (h : j.get o = some x) : j.set o x = j := by
  unfold JH.set
  obtain ⟨n, g, tn, tk⟩ := j
  simp only [JH.mk.injEq, true_and, and_true]
  funext p
  by_cases e : p = o
  · subst e; rw [if_pos rfl]; exact h.symm
  · rw [if_neg e]
theorem sold_lt {j : JH} {o : Nat} {l : List AObj} {x : AObj} (ho : o < j.next) : o < (ext (j.set o x) l).next := by rw [ext_next, set_next]; unfold pid; omega
theorem sold_get {j : JH} {o : Nat} {l : List AObj} {x : AObj} (ho : o < j.next) : (ext (j.set o x) l).get o = some x := by rw [ext_get_old (by rw [set_next]; exact ho), set_get, if_pos rfl]
theorem JDropH.backS {j : JH} {o : Nat} {a b : AObj} {l : List AObj} (ho : o < j.next) (hb : OSub j.next j.tnext b b) : JDropH (j.set o a) (ext (j.set o b) l) (j.set o b) := by
  have := JDropH.back1 (j := j.set o a) (j1 := (j.set o a).set o b) (l := l) (o := o) (x := b) (TokExt.refl _) ho hb
  rwa [set_set] at this
def vstep (s : Nat × Bool) (c : Nat) : Nat × Bool := if !emp s.1 c && dead s.1 c then (put s.1 (1712 + c), true) else s
def vpass (N k : Nat) : Nat × Bool := (List.range k).foldl vstep (N, false)
def vfree (N : Nat) : Nat := (List.range 28).countP fun c => !emp N c
def voids : Nat → Nat → Nat
  | 0, N => N
  | f + 1, N => if (vpass N 28).2 then voids f (vpass N 28).1 else (vpass N 28).1
def voidN (N : Nat) : Nat := voids 29 N
theorem countP_lt {p q : Nat → Bool} : ∀ {l : List Nat}, (∀ x ∈ l, q x = true → p x = true) → (∃ x ∈ l, p x = true ∧ q x = false) → l.countP q < l.countP p
  | [], _, h => by obtain ⟨x, hx, _⟩ := h; cases hx
  | y :: l, h1, h2 => by
    rw [List.countP_cons, List.countP_cons]
    have hle : l.countP q ≤ l.countP p := List.countP_mono_left fun x hx => h1 x (List.mem_cons_of_mem _ hx)
    by_cases hy : p y = true ∧ q y = false
    · rw [hy.1, hy.2]; simp; omega
    · have : l.countP q < l.countP p := countP_lt (fun x hx => h1 x (List.mem_cons_of_mem _ hx)) (by
        obtain ⟨x, hx, e⟩ := h2
        rcases List.mem_cons.1 hx with rfl | hx
        · exact absurd e hy
        · exact ⟨x, hx, e⟩)
      have hy2 := h1 y List.mem_cons_self
      cases e1 : q y with
      | false => simp; omega
      | true => rw [hy2 e1]; simp; exact this
theorem vfree_put {N c : Nat} (hc : c < 28) (h : emp N c = false) : vfree (put N (1712 + c)) < vfree N := by
  refine countP_lt (fun x hx e => ?_) ⟨c, List.mem_range.2 hc, by rw [h]; rfl, ?_⟩
  · simp only [emp, put_bit, Bool.not_eq_true', Bool.or_eq_false_iff] at e ⊢; exact e.1
  · simp only [emp, put_bit, decide_true, Bool.or_true, Bool.not_true]
theorem vpass_succ (N k : Nat) : vpass N (k + 1) = vstep (vpass N k) k := by unfold vpass; rw [List.range_succ, List.foldl_append]; rfl
theorem vpass_free (N : Nat) : ∀ k, k ≤ 28 → vfree (vpass N k).1 ≤ vfree N ∧ ((vpass N k).2 = true → vfree (vpass N k).1 < vfree N)
  | 0, _ => by simp [vpass]
  | k + 1, h => by
    obtain ⟨h1, h2⟩ := vpass_free N k (by omega)
    rw [vpass_succ]
    unfold vstep
    split
    · rename_i q
      rw [Bool.and_eq_true] at q
      have := vfree_put (N := (vpass N k).1) (c := k) (by omega) (by simpa using q.1)
      exact ⟨by simp only; omega, fun _ => by simp only; omega⟩
    · exact ⟨h1, h2⟩
theorem vfree_le (N : Nat) : vfree N ≤ 28 := by
  have := List.countP_le_length (p := fun c => !emp N c) (l := List.range 28)
  rw [List.length_range] at this; exact this
def ir87 : IFn := ⟨26, [], (.seq (.reg [oA 2 (.mov (kB true))]) (.block 0 (.loop (.seq (.seq (.reg [oA 4 (kM 2)]) (.cond (.r 4) .skip (.exit 0))) (.block 1 (.seq (.reg [oA 2 (.mov (kB false))]) (.seq (.reg [oA 5 (.mov (kI 0))]) (.block 2 (.loop (.seq (.reg [oA 6 (.bin .lss (.r 5) (kI 28))]) (.seq (.cond (.r 6) .skip (.exit 2)) (.seq (.block 3 (.seq (.reg [oA 7 (kM 5), oA 3 (kM 7)]) (.seq (.reg [oA 8 (kM 0), oA 9 (kM 3), oA 10 (.nchk (.r 8)), oA 11 (.fadr 1712 (.r 10)), oA 12 (.iaar 28 1 (.r 11) (.r 9)), oL 13 12 none, oA 14 (.not (.r 13)), oA 15 (kM 14), ⟨(some 16), (some ((15, true))), none, (kM 0)⟩, ⟨(some 17), (some ((15, true))), none, (kM 3)⟩, ⟨(some 18), (some ((15, true))), none, (.call 95 [.r 16, .r 17])⟩, oA 19 (.pick (.r 15) (.r 18) (kB false))]) (.cond (.r 19) (.reg [oA 20 (kM 0), oA 21 (kM 3), oA 22 (.nchk (.r 20)), oA 23 (.fadr 1712 (.r 22)), oA 24 (.iaar 28 1 (.r 23) (.r 21)), oN (.store 1 (.r 24) (kB true)), oA 2 (.mov (kB true))]) .skip)))) (.reg [oA 25 (.bin .add (.r 5) (kI 1)), oA 5 (kM 25)])))))))))))))⟩
theorem c87 : cfunc Tryd.prog 87 = some ir87 := by kernel_rfl
theorem k87 : okIR (max 1 ir87.n) ir87.ir = true := by decide +kernel
theorem s_void' (o : Nat) (t : TypeId) (N : Nat) (j : JH) (ho : o < j.next) : JC Tryd.prog G 87 [.ptr o 0] (j.set o (.cells t (rb N))) (RET (.tup []) (j.set o (.cells t (rb (voidN N))))) := by
  have hV : voids 29 N = voidN N := by unfold voidN; rfl
  generalize voidN N = V at hV ⊢
  refine JC.run hmix c87 (by exact k87) ?_
  (try simp only[↓jr,jw,seval,ext_get_old,ext_set_old,ho,rb_ld,rb_len,set_get,set_set,ir87])
  refine JLOOP.of (σ := Nat × Bool × Nat) (fun s => (s.2.1 = true → vfree s.1 < s.2.2 ∧ voids s.2.2 s.1 = V) ∧ (s.2.1 = false → s.1 = V)) (fun s => if s.2.1 then vfree s.1 + 1 else 0) (fun s => [(2, BOO s.2.1), (0, .ptr o 0)]) (fun s => ext (j.set o (.cells t (rb s.1))) []) (N, true, 29) ⟨fun _ => ⟨by have := vfree_le N; simp only; omega, by simp only; exact hV⟩, fun q => by cases q⟩ ?_ (JDropH.refl _) ?_
  · ((try simp only[↓jr,jw,seval,ext_get_old,ext_set_old,ho,rb_ld,rb_len,set_get,set_set,DL]) <;> exact sbLq)
  rintro ⟨M, b, f⟩ ⟨hI1, hI2⟩
  simp only at hI1 hI2
  (try simp only[↓jr,jw,seval,ext_get_old,ext_set_old,ho,rb_ld,rb_len,set_get,set_set])
  refine ww.intro (fun h0 => ?_) (fun h0 => ?_)
  · obtain ⟨hf, hv⟩ := hI1 h0
    (try simp only[↓jr,jw,seval,ext_get_old,ext_set_old,ho,rb_ld,rb_len,set_get,set_set])
    refine JLOOP.of (σ := Nat) (fun c => c ≤ 28) (fun c => 28 - c) (fun c => [(5, I64 c), (2, BOO (vpass M c).2), (0, .ptr o 0)]) (fun c => ext (j.set o (.cells t (rb (vpass M c).1))) []) 0 (by omega) ?_ (JDropH.refl _) ?_
    · ((try simp only[↓jr,jw,seval,ext_get_old,ext_set_old,ho,rb_ld,rb_len,set_get,set_set,DL]) <;> exact sbLq)
    rintro c hc
    (try simp only[↓jr,jw,seval,ext_get_old,ext_set_old,ho,rb_ld,rb_len,set_get,set_set])
    refine wq.intro (fun h1 => ?_) (fun h1 => ?_)
    · (try simp only[↓jr,jw,seval,ext_get_old,ext_set_old,ho,rb_ld,rb_len,set_get,set_set])
      refine wc.intro (by omega) ?_
      (try simp only[↓jr,jw,seval,ext_get_old,ext_set_old,ho,rb_ld,rb_len,set_get,set_set])
      refine wc.intro (by omega) ?_
      (try simp only[↓jr,jw,seval,ext_get_old,ext_set_old,ho,rb_ld,rb_len,set_get,set_set])
      have nx : ∀ {q : Nat × Bool}, vstep (vpass M c) c = q → vpass M (c + 1) = q := fun e => by rw [vpass_succ]; exact e
      have stay : (!emp (vpass M c).1 c && dead (vpass M c).1 c) = false → vpass M (c + 1) = vpass M c := fun q => nx (by unfold vstep; rw [if_neg (by rw [q]; exact Bool.false_ne_true)])
      refine ww.intro (fun h2 => ?_) (fun h2 => ?_)
      · (try simp only[↓jr,jw,seval,ext_get_old,ext_set_old,ho,rb_ld,rb_len,set_get,set_set])
        refine wc.intro (by unfold R64; omega) ?_
        (try simp only[↓jr,jw,seval,ext_get_old,ext_set_old,ho,rb_ld,rb_len,set_get,set_set])
        have e := stay (by simp only [emp]; rw [h2]; rfl)
        refine JNEXT.of (c + 1) (by omega) (by omega) ?_ (by simp only [e]; exact JDropH.nextS (OSub.pure (rb_pur _)) True.intro)
        rw [e]
        ((try simp only[↓jr,jw,seval,ext_get_old,ext_set_old,ho,rb_ld,rb_len,set_get,set_set,DL]) <;> exact sbLq)
      · (try simp only[↓jr,jw,seval,ext_get_old,ext_set_old,ho,rb_ld,rb_len,set_get,set_set])
        refine JCs.ret (s_dead o t (vpass M c).1 c (by omega) _ (sold_lt ho) (sold_get ho)) ?_
        (try simp only[↓jr,jw,seval,ext_get_old,ext_set_old,ho,rb_ld,rb_len,set_get,set_set])
        refine ww.intro (fun h3 => ?_) (fun h3 => ?_)
        · (try simp only[↓jr,jw,seval,ext_get_old,ext_set_old,ho,rb_ld,rb_len,set_get,set_set])
          refine wc.intro (by omega) ?_
          (try simp only[↓jr,jw,seval,ext_get_old,ext_set_old,ho,rb_ld,rb_len,set_get,set_set])
          refine wc.put (by omega) (by omega) ?_
          (try simp only[↓jr,jw,seval,ext_get_old,ext_set_old,ho,rb_ld,rb_len,set_get,set_set])
          refine wc.intro (by unfold R64; omega) ?_
          (try simp only[↓jr,jw,seval,ext_get_old,ext_set_old,ho,rb_ld,rb_len,set_get,set_set])
          have e : vpass M (c + 1) = (put (vpass M c).1 (1712 + c), true) := nx (by unfold vstep; rw [if_pos (by simp only [emp]; rw [h2, h3]; rfl)])
          refine JNEXT.of (c + 1) (by omega) (by omega) ?_ (by simp only [e]; exact JDropH.nextS (OSub.pure (rb_pur _)) True.intro)
          rw [e]
          ((try simp only[↓jr,jw,seval,ext_get_old,ext_set_old,ho,rb_ld,rb_len,set_get,set_set,DL]) <;> exact sbLq)
        · (try simp only[↓jr,jw,seval,ext_get_old,ext_set_old,ho,rb_ld,rb_len,set_get,set_set])
          refine wc.intro (by unfold R64; omega) ?_
          (try simp only[↓jr,jw,seval,ext_get_old,ext_set_old,ho,rb_ld,rb_len,set_get,set_set])
          have e := stay (by rw [h3, Bool.and_false])
          refine JNEXT.of (c + 1) (by omega) (by omega) ?_ (by simp only [e]; exact JDropH.nextS (OSub.pure (rb_pur _)) True.intro)
          rw [e]
          ((try simp only[↓jr,jw,seval,ext_get_old,ext_set_old,ho,rb_ld,rb_len,set_get,set_set,DL]) <;> exact sbLq)
    · (try simp only[↓jr,jw,seval,ext_get_old,ext_set_old,ho,rb_ld,rb_len,set_get,set_set])
      have e : c = 28 := by omega
      subst e
      have hf2 := vpass_free M 28 (by omega)
      cases f with
      | zero => omega
      | succ f =>
        simp only [voids] at hv
        refine JNEXT.of ((vpass M 28).1, (vpass M 28).2, f) ⟨fun q => ?_, fun q => ?_⟩ ?_ ?_ (JDropH.nextS (OSub.pure (rb_pur _)) True.intro)
        · simp only at q ⊢
          rw [if_pos q] at hv
          exact ⟨by have := hf2.2 q; omega, hv⟩
        · simp only at q ⊢
          rw [if_neg (by rw [q]; exact Bool.false_ne_true)] at hv
          exact hv
        · simp only
          rw [if_pos h0]
          split
          · have := hf2.2 (by assumption); omega
          · omega
        · ((try simp only[↓jr,jw,seval,ext_get_old,ext_set_old,ho,rb_ld,rb_len,set_get,set_set,DL]) <;> exact sbLq)
  · (try simp only[↓jr,jw,seval,ext_get_old,ext_set_old,ho,rb_ld,rb_len,set_get,set_set])
    rw [hI2 h0]
    exact JFIN.ret (JDropH.backS ho (OSub.pure (rb_pur _))).of_ext (SubB.tup True.intro)
end Go.Proofs.YtkcbhebbjpiibaaDoor.Pg
