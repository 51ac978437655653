/-
  The names: the two ways of collecting them agree.
-/
import Derived.Test.YtcjlpklgnknpgaaGreatDoorUg
set_option linter.unusedVariables false
set_option linter.unusedSimpArgs false
set_option maxRecDepth 100000
set_option maxHeartbeats 8000000
namespace Go.Proofs.YtcjlpklgnknpgaaGreatDoor.Pg
open Go
def Up (l : List Int) : Prop := l.Pairwise (fun x y => x < y)
theorem insR_mem : ∀ (l : List Int) (n x : Int), x ∈ insR l n ↔ x ∈ l ∨ x = n
  | [], n, x => by simp [insR]
  | y :: l, n, x => by
    have ih := insR_mem l n x
    unfold insR
    split
    · rename_i e; subst e; simp only [List.mem_cons]; constructor
      · exact .inl
      · rintro (h | rfl)
        · exact h
        · exact .inl rfl
    · split
      · simp only [List.mem_cons]; constructor
        · rintro (h | h | h)
          · exact .inr h
          · exact .inl (.inl h)
          · exact .inl (.inr h)
        · rintro ((h | h) | h)
          · exact .inr (.inl h)
          · exact .inr (.inr h)
          · exact .inl h
      · simp only [List.mem_cons, ih]; constructor
        · rintro (h | h | h)
          · exact .inl (.inl h)
          · exact .inl (.inr h)
          · exact .inr h
        · rintro ((h | h) | h)
          · exact .inl h
          · exact .inr (.inl h)
          · exact .inr (.inr h)
theorem insR_up : ∀ (l : List Int) (n : Int), Up l → Up (insR l n)
  | [], n, _ => List.pairwise_singleton _ _
  | y :: l, n, h => by
    obtain ⟨h1, h2⟩ := List.pairwise_cons.1 h
    unfold insR
    split
    · exact h
    · split
      · rename_i h3
        refine List.pairwise_cons.2 ⟨fun z hz => ?_, h⟩
        rcases List.mem_cons.1 hz with rfl | hz
        · exact h3
        · exact Int.lt_trans h3 (h1 z hz)
      · rename_i h3 h4
        refine List.pairwise_cons.2 ⟨fun z hz => ?_, insR_up l n h2⟩
        rcases (insR_mem l n z).1 hz with hz | rfl
        · exact h1 z hz
        · omega
theorem Up.nodup {l : List Int} (h : Up l) : l.Nodup := h.imp (fun q e => by omega)
theorem srt_up {l : List Int} (h : l.Nodup) : Up (srt l) := by
  have h1 : (srt l).Pairwise (fun x y => x ≤ y) := by
    have := List.pairwise_mergeSort (le := fun x y : Int => decide (x ≤ y)) (fun a b c h1 h2 => by simp at *; omega) (fun a b => by simp; omega) l
    exact this.imp (by simp)
  have h2 : (srt l).Nodup := (List.mergeSort_perm _ _).nodup_iff.2 h
  exact (h1.and h2).imp (fun q => by obtain ⟨q1, q2⟩ := q; omega)
theorem Up.eq {a b : List Int} (ha : Up a) (hb : Up b) (h : ∀ x, x ∈ a ↔ x ∈ b) : a = b := by
  have hp : a.Perm b := (List.perm_ext_iff_of_nodup ha.nodup hb.nodup).2 h
  exact List.Perm.eq_of_pairwise (le := fun x y => x < y) (fun a b _ _ h1 h2 => by omega) ha hb hp
theorem rcI_up : ∀ (l : List Con) (a : List Int), Up a → Up (rcI a l)
  | [], _, h => h
  | .mk o n k :: l, a, h => by
    simp only [rcI]
    refine rcI_up l _ ?_
    split
    · exact insR_up _ _ h
    · exact h
theorem rrI_up : ∀ (l : List Con) (a : List Int), Up a → Up (rrI a l)
  | [], _, h => h
  | .mk o n k :: l, a, h => by
    simp only [rrI]
    refine rrI_up l _ ?_
    split
    · exact insR_up _ _ h
    · exact h
theorem rc_mem : ∀ (l : List Con) (a b : List Int), (∀ x, x ∈ a ↔ x ∈ b) → ∀ x, x ∈ rcI a l ↔ x ∈ cnsI b l
  | [], _, _, h => h
  | .mk o n k :: l, a, b, h => by
    simp only [rcI, cnsI]
    refine rc_mem l _ _ fun x => ?_
    split
    · rw [insR_mem, insI_mem, h]
    · exact h x
theorem quant_iff (o : Int) : quant o = true ↔ (o = 6 ∨ o = 7) := by simp [quant]
theorem rr_mem : ∀ (l : List Con) (a b : List Int), (∀ x, x ∈ a ↔ x ∈ b) → ∀ x, x ∈ rrI a l ↔ x ∈ rlsI b l
  | [], _, _, h => h
  | .mk o n k :: l, a, b, h => by
    simp only [rrI, rlsI]
    refine rr_mem l _ _ fun x => ?_
    by_cases q : o = 6 ∨ o = 7
    · rw [if_pos ((quant_iff o).2 q), if_pos q, insR_mem, insI_mem, h]
    · rw [if_neg (fun e => q ((quant_iff o).1 e)), if_neg q]; exact h x
section
variable {G : Nat → Option (List AV)}
noncomputable def ir28 : IFn := ⟨26, [⟨4, none⟩], (.seq (.reg [oA 4 (.mov (kB false))]) (.seq (.seq (.reg [oA 6 (kM 0), oT 7 6 (.lenl (.r 6)), oA 8 (kM 1), oT 9 8 (.lenl (.r 8)), oA 10 (.bin .neq (.r 7) (.r 9))]) (.cond (.r 10) (.seq (.reg [oA 4 (.mov (kB false))]) .ret) .skip)) (.seq (.seq (.reg [oA 11 (kM 0), oT 12 11 (.lenl (.r 11)), oA 13 (.mov (kI 0))]) (.block 0 (.loop (.seq (.reg [oA 14 (.bin .lss (.r 13) (.r 12))]) (.seq (.cond (.r 14) .skip (.exit 0)) (.seq (.block 1 (.seq (.reg [oA 15 (kM 13), oA 5 (kM 15)]) (.seq (.draw [oA 16 (kM 0), oA 17 (kM 5), oA 18 (.iasl 1 (.r 16) (.r 17)), oL 19 18 none, oA 20 (kM 1), oA 21 (kM 5), oA 22 (.iasl 1 (.r 20) (.r 21)), oL 23 22 none, oA 24 (.bin .neq (.r 19) (.r 23))] []) (.cond (.r 24) (.seq (.reg [oA 4 (.mov (kB false))]) .ret) .skip)))) (.reg [oA 25 (.bin .add (.r 13) (kI 1)), oA 13 (kM 25)]))))))) (.seq (.reg [oA 4 (.mov (kB true))]) .ret))))⟩
theorem c28 : cfunc Tryz.prog 28 = some ir28 := by kernel_rfl
theorem k28 : okIR (max 2 ir28.n) ir28.ir = true := by decide +kernel
theorem s_SameIntsU (l r : List Int) (t1 t2 : Tok) (h1 : l.length < 1000000) (h2 : r.length < 1000000) (j : JH) : JC Tryz.prog G 28 [.sl t1 l.length (ints l), .sl t2 r.length (ints r)] j (RET (BOO (decide (l = r))) j) := by
  refine JC.run hmix c28 (by exact k28) ?_
  (try simp only[↓jr,jw,seval,ints_dr,ints_co,ints_le,ir28])
  refine wq.intro (fun q => ?_) (fun q => ?_)
  · (try simp only[↓jr,jw,seval,ints_dr,ints_co,ints_le])
    refine JLOOP.of (σ := Nat) (fun k => k ≤ l.length ∧ decide (l.drop k = r.drop k) = decide (l = r)) (fun k => l.length - k) (fun k => [(13, I64 k), (12, I64 l.length), (0, .sl .none l.length (ints l)), (1, .sl .none r.length (ints r))]) (fun k => ext j []) 0 ⟨by omega, rfl⟩ ?_ (JDropH.refl _) ?_
    · (try simp only[↓jr,jw,seval,ints_dr,ints_co,ints_le,DL])
      exact ⟨SubB.v, SubB.v, SubB.sl rfl (SubBs.pure (ints_pur _)), SubB.sl rfl (SubBs.pure (ints_pur _))⟩
    rintro k ⟨hk, hI⟩
    (try simp only[↓jr,jw,seval,ints_dr,ints_co,ints_le])
    refine wq.intro (fun q1 => ?_) (fun q1 => ?_)
    · have hlt : k < (l).length := by omega
      obtain ⟨x, u, hd⟩ : ∃ c_ l_, List.drop k (l) = c_ :: l_ := ⟨_, _, List.drop_eq_getElem_cons hlt⟩
      have hd1 : List.drop (k + 1) (l) = u := by rw [← List.drop_drop, hd]; rfl
      have hmem : x ∈ l := List.mem_of_mem_drop (hd ▸ List.mem_cons_self)
      obtain ⟨y, v, hr⟩ : ∃ y v, r.drop k = y :: v := ⟨_, _, List.drop_eq_getElem_cons (by omega)⟩
      have hr1 : r.drop (k + 1) = v := by rw [← List.drop_drop, hr]; rfl
      rw [hd, hr] at hI
      (try simp only[↓jr,jw,seval,ints_dr,ints_co,ints_le,hd,hr])
      refine wc.intro (by omega) ?_
      (try simp only[↓jr,jw,seval,ints_dr,ints_co,ints_le,hd,hr])
      refine wc.intro (by omega) ?_
      (try simp only[↓jr,jw,seval,ints_dr,ints_co,ints_le,hd,hr])
      refine JDRAW.oc (by (try simp only[↓jr,jw,seval,ints_dr,ints_co,ints_le,jq]) <;> exact orq) ?_; (try simp only[↓jr,jw,seval,ints_dr,ints_co,ints_le])
      refine wq.intro (fun q2 => ?_) (fun q2 => ?_)
      · (try simp only[↓jr,jw,seval,ints_dr,ints_co,ints_le])
        refine wc.intro (R64_add hlt (by omega)) ?_
        (try simp only[↓jr,jw,seval,ints_dr,ints_co,ints_le])
        have q2' : x = y := by first | exact q2 | omega
        subst q2'
        refine JNEXT.of (k + 1) ⟨by omega, by rw [hd1, hr1, ← hI]; simp⟩ (by omega) ?_ JDropH.nx
        simp only [Int.natCast_add]
        (try simp only[↓jr,jw,seval,ints_dr,ints_co,ints_le,DL])
        exact ⟨SubB.v, SubB.v, SubB.pure (by simp only [AV.pure]; exact ints_pur _), SubB.pure (by simp only [AV.pure]; exact ints_pur _)⟩
      · (try simp only[↓jr,jw,seval,ints_dr,ints_co,ints_le])
        refine JFIN.rb ?_
        have e : decide (l = r) = false := by rw [← hI]; apply decide_eq_false; intro q3; injection q3 with q4 q5; exact q2 (by rw [q4])
        rw [e]; exact SubB.v
    · (try simp only[↓jr,jw,seval,ints_dr,ints_co,ints_le])
      rw [List.drop_eq_nil_of_le (by omega), List.drop_eq_nil_of_le (by omega)] at hI
      refine JFIN.rb ?_
      rw [← hI]; exact SubB.v
  · (try simp only[↓jr,jw,seval,ints_dr,ints_co,ints_le])
    refine JFIN.rb ?_
    rw [decide_eq_false (fun e => q (by rw [e]))]; exact SubB.v
end
end Go.Proofs.YtcjlpklgnknpgaaGreatDoor.Pg
