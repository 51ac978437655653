/-
  The reference's elements and inclusion; lists of numbers compared.
-/
import Derived.Test.YtnkkeenclhncmaaDoorIh
set_option linter.unusedVariables false
set_option linter.unusedSimpArgs false
set_option maxRecDepth 100000
set_option maxHeartbeats 8000000
namespace Go.Proofs.YtnkkeenclhncmaaDoor.Pg
open Go
section
variable {m : GM} {G : Nat → Option (List AV)}
theorem ints_drop {l : List Int} {k : Nat} : (ints l).drop k = ints (l.drop k) := by simp [ints, List.map_drop]
theorem ints_cons {x : Int} {l : List Int} : ints (x :: l) = I64 x :: ints l := rfl
theorem ints_len' {l : List Int} : (ints l).length = l.length := by simp [ints]
def ir19 : IFn := ⟨26, [⟨4, none⟩], (.seq (.reg [oA 4 (.mov (kB false))]) (.seq (.seq (.reg [oA 6 (kM 0), oT 7 6 (.lenl (.r 6)), oA 8 (kM 1), oT 9 8 (.lenl (.r 8)), oA 10 (.bin .neq (.r 7) (.r 9))]) (.cond (.r 10) (.seq (.reg [oA 4 (.mov (kB false))]) .ret) .skip)) (.seq (.seq (.reg [oA 11 (kM 0), oT 12 11 (.lenl (.r 11)), oA 13 (.mov (kI 0))]) (.block 0 (.loop (.seq (.reg [oA 14 (.bin .lss (.r 13) (.r 12))]) (.seq (.cond (.r 14) .skip (.exit 0)) (.seq (.block 1 (.seq (.reg [oA 15 (kM 13), oA 5 (kM 15)]) (.seq (.draw [oA 16 (kM 0), oA 17 (kM 5), oA 18 (.iasl 1 (.r 16) (.r 17)), oL 19 18 none, oA 20 (kM 1), oA 21 (kM 5), oA 22 (.iasl 1 (.r 20) (.r 21)), oL 23 22 none, oA 24 (.bin .neq (.r 19) (.r 23))] []) (.cond (.r 24) (.seq (.reg [oA 4 (.mov (kB false))]) .ret) .skip)))) (.reg [oA 25 (.bin .add (.r 13) (kI 1)), oA 13 (kM 25)]))))))) (.seq (.reg [oA 4 (.mov (kB true))]) .ret))))⟩
theorem c19 : cfunc Tryd.prog 19 = some ir19 := by kernel_rfl
theorem k19 : okIR (max 2 ir19.n) ir19.ir = true := by decide +kernel
theorem s_SameIntsI (l r : List Int) (t1 t2 : Tok) (h1 : l.length < 1000000) (h2 : r.length < 1000000) (j : JH) : JC Tryd.prog G 19 [.sl t1 l.length (ints l), .sl t2 r.length (ints r)] j (RET (BOO (decide (l = r))) j) := by
  refine JC.run hmix c19 (by exact k19) ?_
  (try simp only[↓jr,jw,seval,ints_drop,ints_cons,ints_len',ir19])
  refine wq.intro (fun q => ?_) (fun q => ?_)
  · (try simp only[↓jr,jw,seval,ints_drop,ints_cons,ints_len'])
    refine JLOOP.of (σ := Nat) (fun k => k ≤ l.length ∧ decide (l.drop k = r.drop k) = decide (l = r)) (fun k => l.length - k) (fun k => [(13, I64 k), (12, I64 l.length), (0, .sl .none l.length (ints l)), (1, .sl .none r.length (ints r))]) (fun k => ext j []) 0 ⟨by omega, rfl⟩ ?_ (JDropH.refl _) ?_
    · (try simp only[↓jr,jw,seval,ints_drop,ints_cons,ints_len',DL])
      exact ⟨SubB.v, SubB.v, SubB.sl rfl (SubBs.pure (ints_pur _)), SubB.sl rfl (SubBs.pure (ints_pur _))⟩
    rintro k ⟨hk, hI⟩
    (try simp only[↓jr,jw,seval,ints_drop,ints_cons,ints_len'])
    refine wq.intro (fun q1 => ?_) (fun q1 => ?_)
    · have hlt : k < (l).length := by omega
      obtain ⟨x, u, hd⟩ : ∃ c_ l_, List.drop k (l) = c_ :: l_ := ⟨_, _, List.drop_eq_getElem_cons hlt⟩
      have hd1 : List.drop (k + 1) (l) = u := by rw [← List.drop_drop, hd]; rfl
      have hmem : x ∈ l := List.mem_of_mem_drop (hd ▸ List.mem_cons_self)
      obtain ⟨y, v, hr⟩ : ∃ y v, r.drop k = y :: v := ⟨_, _, List.drop_eq_getElem_cons (by omega)⟩
      have hr1 : r.drop (k + 1) = v := by rw [← List.drop_drop, hr]; rfl
      rw [hd, hr] at hI
      (try simp only[↓jr,jw,seval,ints_drop,ints_cons,ints_len',hd,hr])
      refine wc.intro (by omega) ?_
      (try simp only[↓jr,jw,seval,ints_drop,ints_cons,ints_len',hd,hr])
      refine wc.intro (by omega) ?_
      (try simp only[↓jr,jw,seval,ints_drop,ints_cons,ints_len',hd,hr])
      refine JDRAW.oc (by (try simp only[↓jr,jw,seval,ints_drop,ints_cons,ints_len',jq]) <;> exact orq) ?_; (try simp only[↓jr,jw,seval,ints_drop,ints_cons,ints_len'])
      refine wq.intro (fun q2 => ?_) (fun q2 => ?_)
      · (try simp only[↓jr,jw,seval,ints_drop,ints_cons,ints_len'])
        refine wc.intro (R64_add hlt (by omega)) ?_
        (try simp only[↓jr,jw,seval,ints_drop,ints_cons,ints_len'])
        have q2' : x = y := by first | exact q2 | omega
        subst q2'
        refine JNEXT.of (k + 1) ⟨by omega, by rw [hd1, hr1, ← hI]; simp⟩ (by omega) ?_ JDropH.nx
        simp only [Int.natCast_add]
        (try simp only[↓jr,jw,seval,ints_drop,ints_cons,ints_len',DL])
        exact ⟨SubB.v, SubB.v, SubB.pure (by simp only [AV.pure]; exact ints_pur _), SubB.pure (by simp only [AV.pure]; exact ints_pur _)⟩
      · (try simp only[↓jr,jw,seval,ints_drop,ints_cons,ints_len'])
        refine JFIN.rb ?_
        have e : decide (l = r) = false := by rw [← hI]; apply decide_eq_false; intro q3; injection q3 with q4 q5; exact q2 (by rw [q4])
        rw [e]; exact SubB.v
    · (try simp only[↓jr,jw,seval,ints_drop,ints_cons,ints_len'])
      rw [List.drop_eq_nil_of_le (by omega), List.drop_eq_nil_of_le (by omega)] at hI
      refine JFIN.rb ?_
      rw [← hI]; exact SubB.v
  · (try simp only[↓jr,jw,seval,ints_drop,ints_cons,ints_len'])
    refine JFIN.rb ?_
    rw [decide_eq_false (fun e => q (by rw [e]))]; exact SubB.v
/-! ### Few. -/
theorem SubB.iv {no nt : Nat} {a b : Int} (h : a = b) : SubB no nt (I64 a) (I64 b) := h ▸ SubB.v
def sumL {α : Type} : List (List α) → Nat
  | [] => 0
  | x :: l => x.length + sumL l
theorem sumL_append {α : Type} {l r : List (List α)} : sumL (l ++ r) = sumL l + sumL r := by
  induction l with
  | nil => simp [sumL]
  | cons x l ih => simp only [List.cons_append, sumL, ih]; omega
def fewHd (i : Itp) (a : Int) : Prop := ¬ (i.size > a ∧ i.size ≤ 256) ∧ i.cons.length ≤ 100 ∧ i.rols.length ≤ 100 ∧ i.inds.length ≤ 100
instance (i : Itp) (a : Int) : Decidable (fewHd i a) := by unfold fewHd; infer_instance
def fewItp (i : Itp) (a b : Int) : Bool := decide (fewHd i a) && decide (((sumL i.cons + sumL i.rols : Nat) : Int) ≤ b)
theorem sumL_le {α : Type} {l : List (List α)} {b : Nat} (h : ∀ x ∈ l, x.length ≤ b) : sumL l ≤ l.length * b := by
  induction l with
  | nil => simp [sumL]
  | cons x l ih =>
    have h1 := h x List.mem_cons_self
    have h2 := ih fun y hy => h y (List.mem_cons_of_mem _ hy)
    simp only [sumL, List.length_cons, Nat.add_mul, Nat.one_mul]; omega
def ir36 : IFn := ⟨66, [⟨6, none⟩], (.seq (.reg [oA 3 (.box 29 (.r 0)), oA 6 (.mov (kB false))]) (.seq (.seq (.reg [oA 12 (.fadr 0 (.r 3)), oL 13 12 none, oA 14 (kM 1), oA 15 (.bin .gtr (.r 13) (.r 14)), oA 16 (kM 15), ⟨(some 17), (some ((16, true))), none, (.fadr 0 (.r 3))⟩, ⟨(some 18), (some ((16, true))), (some (.r 17)), (.load none (.r 17))⟩, ⟨(some 19), (some ((16, true))), none, (.bin .leq (.r 18) (kI 256))⟩, oA 20 (.pick (.r 16) (.r 19) (kB false)), oA 21 (kM 20), ⟨(some 22), (some ((21, false))), none, (.fadr 1 (.r 3))⟩, ⟨(some 23), (some ((21, false))), (some (.r 22)), (.load none (.r 22))⟩, ⟨(some 24), (some ((21, false))), (some (.r 23)), (.lenl (.r 23))⟩, ⟨(some 25), (some ((21, false))), none, (.bin .gtr (.r 24) (kI 100))⟩, oA 26 (.pick (.r 21) (kB true) (.r 25)), oA 27 (kM 26), ⟨(some 28), (some ((27, false))), none, (.fadr 2 (.r 3))⟩, ⟨(some 29), (some ((27, false))), (some (.r 28)), (.load none (.r 28))⟩, ⟨(some 30), (some ((27, false))), (some (.r 29)), (.lenl (.r 29))⟩, ⟨(some 31), (some ((27, false))), none, (.bin .gtr (.r 30) (kI 100))⟩, oA 32 (.pick (.r 27) (kB true) (.r 31)), oA 33 (kM 32), ⟨(some 34), (some ((33, false))), none, (.fadr 3 (.r 3))⟩, ⟨(some 35), (some ((33, false))), (some (.r 34)), (.load none (.r 34))⟩, ⟨(some 36), (some ((33, false))), (some (.r 35)), (.lenl (.r 35))⟩, ⟨(some 37), (some ((33, false))), none, (.bin .gtr (.r 36) (kI 100))⟩, oA 38 (.pick (.r 33) (kB true) (.r 37))]) (.cond (.r 38) (.seq (.reg [oA 6 (.mov (kB false))]) .ret) .skip)) (.seq (.reg [oA 7 (.mov (kI 0))]) (.seq (.seq (.reg [oA 39 (.fadr 1 (.r 3)), oL 40 39 none, oT 41 40 (.lenl (.r 40)), oA 42 (.mov (kI 0))]) (.block 0 (.loop (.seq (.reg [oA 43 (.bin .lss (.r 42) (.r 41))]) (.seq (.cond (.r 43) .skip (.exit 0)) (.seq (.block 1 (.seq (.reg [oA 44 (.iasl 1 (.r 40) (.r 42)), oL 45 44 none, oA 9 (kM 45)]) (.reg [oA 46 (kM 7), oA 47 (kM 9), oT 48 47 (.lenl (.r 47)), oA 49 (.bin .add (.r 46) (.r 48)), oA 7 (kM 49)]))) (.reg [oA 50 (.bin .add (.r 42) (kI 1)), oA 42 (kM 50)]))))))) (.seq (.seq (.reg [oA 51 (.fadr 2 (.r 3)), oL 52 51 none, oT 53 52 (.lenl (.r 52)), oA 54 (.mov (kI 0))]) (.block 2 (.loop (.seq (.reg [oA 55 (.bin .lss (.r 54) (.r 53))]) (.seq (.cond (.r 55) .skip (.exit 2)) (.seq (.block 3 (.seq (.reg [oA 56 (.iasl 1 (.r 52) (.r 54)), oL 57 56 none, oA 11 (kM 57)]) (.reg [oA 58 (kM 7), oA 59 (kM 11), oT 60 59 (.lenl (.r 59)), oA 61 (.bin .add (.r 58) (.r 60)), oA 7 (kM 61)]))) (.reg [oA 62 (.bin .add (.r 54) (kI 1)), oA 54 (kM 62)]))))))) (.seq (.reg [oA 63 (kM 7), oA 64 (kM 2), oA 65 (.bin .leq (.r 63) (.r 64)), oA 6 (kM 65)]) .ret))))))⟩
theorem c36 : cfunc Tryd.prog 36 = some ir36 := by kernel_rfl
theorem k36 : okIR (max 3 ir36.n) ir36.ir = true := by decide +kernel
theorem s_rFew (i : Itp) (hok : i.ok) (a b : Int) (j : JH) : JC Tryd.prog G 36 [.agg i.enc, I64 a, I64 b] j (RET (BOO (fewItp i a b)) j) := by
  have a1 := hok.c1
  have a2 := hok.r1
  have a3 := hok.i1
  refine JC.run hmix c36 (by exact k36) ?_
  (try simp only[↓jr,jw,seval,ji,ir36])
  have fls : ∀ {l : List AObj}, ¬ fewHd i a → @JFIN (ext j []) (ext j l) (.v (.bool false)) ⟨fun y j' => RET (BOO (fewItp i a b)) j (.ret y) j'⟩ := by
    intro l h
    refine JFIN.rb ?_
    unfold fewItp; rw [decide_eq_false h]; exact SubB.v
  have bnd1 : ∀ k, sumL (i.cons.take k) ≤ 17592186044416 * 100 ∨ 100 < i.cons.length := by
    intro k
    by_cases h : 100 < i.cons.length
    · exact .inr h
    · refine .inl (Nat.le_trans (sumL_le (b := 17592186044416) fun x hx => by have := (hok.c2 x (List.mem_of_mem_take hx)).1; omega) ?_)
      rw [Nat.mul_comm]; exact Nat.mul_le_mul_left _ (by rw [List.length_take]; omega)
  have bnd2 : ∀ k, sumL (i.rols.take k) ≤ 17592186044416 * 100 ∨ 100 < i.rols.length := by
    intro k
    by_cases h : 100 < i.rols.length
    · exact .inr h
    · refine .inl (Nat.le_trans (sumL_le (b := 17592186044416) fun x hx => by have := (hok.r2 x (List.mem_of_mem_take hx)).1; omega) ?_)
      rw [Nat.mul_comm]; exact Nat.mul_le_mul_left _ (by rw [List.length_take]; omega)
  refine wq.intro (fun h0 => ?qa) (fun h0 => ?qb)
  case' qa => ((try simp only[↓jr,jw,seval,ji]); refine wq.intro (fun h1 => by (try simp only[↓jr,jw,seval,ji]); exact fls (by unfold fewHd; omega)) (fun h1 => ?_))
  all_goals
    have hsz : ¬ (i.size > a ∧ i.size ≤ 256) := by omega
    (try simp only[↓jr,jw,seval,ji])
    refine wq.intro (fun h2 => by (try simp only[↓jr,jw,seval,ji]); exact fls (by unfold fewHd; omega)) (fun h2 => ?_)
    (try simp only[↓jr,jw,seval,ji])
    refine wq.intro (fun h3 => by (try simp only[↓jr,jw,seval,ji]); exact fls (by unfold fewHd; omega)) (fun h3 => ?_)
    (try simp only[↓jr,jw,seval,ji])
    refine wq.intro (fun h4 => by (try simp only[↓jr,jw,seval,ji]); exact fls (by unfold fewHd; omega)) (fun h4 => ?_)
    have hH : fewHd i a := by unfold fewHd; omega
    (try simp only[↓jr,jw,seval,ji])
    refine JLOOP.of (σ := Nat) (fun s => s ≤ (i.cons).length ∧ True) (fun s => (i.cons).length - s) (fun s => [(42, I64 s), (41, I64 i.cons.length), (40, .sl .none i.cons.length (encs IL i.cons)), (7, I64 ((sumL (i.cons.take s) : Nat) : Int)), (2, I64 b), (3, .ptr (pid j.next 0) 0)]) (fun s => ext j [.cells 29 i.enc]) 0 ⟨Nat.zero_le _, ?_⟩ ?_ (JDropH.refl _) ?_
    · trivial
    · (try simp only[↓jr,jw,seval,ji,DL])
      exact ⟨SubB.v, SubB.v, SubB.sl rfl (SubBs.pure (IL.pur _)), SubB.v, SubB.v, SubB.ptr (by unfold pid; omega)⟩
    rintro k ⟨hk, hI⟩
    try simp only at hk hI
    (try simp only[↓jr,jw,seval,ji])
    refine wq.intro (fun h1 => ?_) (fun h1 => ?_)
    · have hlt : k < i.cons.length := by omega
      obtain ⟨x, r, hd⟩ : ∃ c_ l_, List.drop k i.cons = c_ :: l_ := ⟨_, _, List.drop_eq_getElem_cons hlt⟩
      have hmem : x ∈ i.cons := List.mem_of_mem_drop (hd ▸ List.mem_cons_self)
      have htk : i.cons.take (k + 1) = i.cons.take k ++ [x] := by
        have : i.cons[k]? = some x := by rw [← List.head?_drop, hd]; rfl
        rw [List.take_add_one, this]; rfl
      have hst : sumL (i.cons.take (k + 1)) = sumL (i.cons.take k) + x.length := by rw [htk, sumL_append]; simp [sumL]
      have hle := bnd1 (k + 1)
      (try simp only[↓jr,jw,seval,ji,hd])
      refine wc.intro (by omega) ?_
      (try simp only[↓jr,jw,seval,ji,hd])
      refine wc.intro (by unfold R64; omega) ?_
      (try simp only[↓jr,jw,seval,ji])
      refine wc.intro (by unfold R64; omega) ?_
      (try simp only[↓jr,jw,seval,ji])
      refine JNEXT.of (k + 1) (by omega) (by omega) ?_ JDropH.nx
      (try simp only[↓jr,jw,seval,ji,DL])
      rw [hst]
      exact ⟨SubB.v, SubB.v, SubB.sl rfl (SubBs.pure (IL.pur _)), SubB.iv (by omega), SubB.v, SubB.ptr (by unfold pid; omega)⟩
    have hk2 : k = i.cons.length := by omega
    subst hk2
    (try simp only[↓jr,jw,seval,ji])
    rw [List.take_length]
    refine JLOOP.of (σ := Nat) (fun s => s ≤ (i.rols).length ∧ True) (fun s => (i.rols).length - s) (fun s => [(54, I64 s), (53, I64 i.rols.length), (52, .sl .none i.rols.length (encs PL i.rols)), (7, I64 ((sumL i.cons + sumL (i.rols.take s) : Nat) : Int)), (2, I64 b), (3, .ptr (pid j.next 0) 0)]) (fun s => ext j [.cells 29 i.enc]) 0 ⟨Nat.zero_le _, ?_⟩ ?_ (JDropH.refl _) ?_
    · trivial
    · (try simp only[↓jr,jw,seval,ji,DL])
      exact ⟨SubB.v, SubB.v, SubB.sl rfl (SubBs.pure (PL.pur _)), SubB.v, SubB.v, SubB.ptr (by unfold pid; omega)⟩
    rintro k ⟨hk, hI⟩
    try simp only at hk hI
    (try simp only[↓jr,jw,seval,ji])
    refine wq.intro (fun h1 => ?_) (fun h1 => ?_)
    · have hlt : k < i.rols.length := by omega
      obtain ⟨x, r, hd⟩ : ∃ c_ l_, List.drop k i.rols = c_ :: l_ := ⟨_, _, List.drop_eq_getElem_cons hlt⟩
      have hmem : x ∈ i.rols := List.mem_of_mem_drop (hd ▸ List.mem_cons_self)
      have htk : i.rols.take (k + 1) = i.rols.take k ++ [x] := by
        have : i.rols[k]? = some x := by rw [← List.head?_drop, hd]; rfl
        rw [List.take_add_one, this]; rfl
      have hst : sumL (i.rols.take (k + 1)) = sumL (i.rols.take k) + x.length := by rw [htk, sumL_append]; simp [sumL]
      have hle := bnd2 (k + 1)
      have hle3 := bnd1 i.cons.length
      rw [List.take_length] at hle3
      (try simp only[↓jr,jw,seval,ji,hd])
      refine wc.intro (by omega) ?_
      (try simp only[↓jr,jw,seval,ji,hd])
      refine wc.intro (by unfold R64; omega) ?_
      (try simp only[↓jr,jw,seval,ji])
      refine wc.intro (by unfold R64; omega) ?_
      (try simp only[↓jr,jw,seval,ji])
      refine JNEXT.of (k + 1) (by omega) (by omega) ?_ JDropH.nx
      (try simp only[↓jr,jw,seval,ji,DL])
      rw [hst]
      exact ⟨SubB.v, SubB.v, SubB.sl rfl (SubBs.pure (PL.pur _)), SubB.iv (by omega), SubB.v, SubB.ptr (by unfold pid; omega)⟩
    have hk2 : k = i.rols.length := by omega
    subst hk2
    (try simp only[↓jr,jw,seval,ji])
    rw [List.take_length]
    refine JFIN.rb ?_
    have e : fewItp i a b = decide (((sumL i.cons + sumL i.rols : Nat) : Int) ≤ b) := by unfold fewItp; rw [decide_eq_true hH, Bool.true_and]
    rw [e]
    exact SubB.v
end
end Go.Proofs.YtnkkeenclhncmaaDoor.Pg
