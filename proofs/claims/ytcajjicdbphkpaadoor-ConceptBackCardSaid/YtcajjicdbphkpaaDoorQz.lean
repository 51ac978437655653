/-
  ConceptBack.
-/
import Derived.Test.YtcajjicdbphkpaaDoorQy
set_option linter.unusedVariables false
set_option linter.unusedSimpArgs false
set_option maxRecDepth 100000
set_option maxHeartbeats 8000000
namespace Go.Proofs.YtcajjicdbphkpaaDoor.Pg
open Go
def hdO : List Con → Int
  | [] => 0
  | c :: _ => c.op
mutual
def plainC : Con → Bool
  | .mk o n l => !(decide (o = 3) && (!decide (l.length = 1) || !decide (hdO l = 0))) && plainL l
def plainL : List Con → Bool
  | [] => true
  | c :: l => plainC c && plainL l
end
theorem dualI_dual {o : Int} (h0 : 0 ≤ o) (h7 : o ≤ 7) (g1 : ¬ o = 0) (g3 : ¬ o = 3) : dualI (dualI o) = o ∧ ¬ dualI o = 0 ∧ ¬ dualI o = 3 := by
  have e : o = 1 ∨ o = 2 ∨ o = 4 ∨ o = 5 ∨ o = 6 ∨ o = 7 := by omega
  rcases e with rfl | rfl | rfl | rfl | rfl | rfl <;> decide
theorem nnf_nnf {nc nr : Nat} : ∀ (c : Con), shaped nc nr c = true → ∀ a b : Bool, nnf (nnf c a) b = nnf c (Bool.xor a b) := by
  intro c
  induction c using Con.ind with
  | h o n l ih =>
  intro hs a b
  rw [shaped_mk] at hs
  obtain ⟨h1, h2⟩ := hs
  have h08 := arity_in h1.1
  by_cases g1 : o = 0
  · subst g1
    cases a <;> cases b <;> simp [nnf, nnfH]
  by_cases g3 : o = 3
  · subst g3
    cases l with
    | nil => have := h1.1; simp [arity] at this
    | cons c r =>
      have i := ih c (by simp) (shapedL_mem h2 (by simp))
      have e : ∀ x, nnf (.mk 3 n (c :: r)) x = nnf c (!x) := fun x => by simp only [nnf, if_neg g1, if_true, nnfH]
      rw [e, e, i]
      congr 1
      cases a <;> cases b <;> rfl
  obtain ⟨d1, d2, d3⟩ := dualI_dual h08.1 h08.2 g1 g3
  have aux : ∀ r : List Con, (∀ c ∈ r, c ∈ l) → shapedL nc nr r = true → nnfs (nnfs r a) b = nnfs r (Bool.xor a b) := by
    intro r
    induction r with
    | nil => intro _ _; rfl
    | cons c r ihr =>
      intro hm hk
      have a1 := ihr (fun d hd => hm d (by simp [hd])) (by simp only [shapedL, Bool.and_eq_true] at hk; exact hk.2)
      simp only [nnfs, a1, ih c (hm c (by simp)) (shapedL_mem hk (by simp))]
  have e := aux l (fun _ h => h) h2
  rw [nnf_mk g1 g3]
  cases a
  · simp only [Bool.false_eq_true, if_false]
    rw [nnf_mk g1 g3, nnf_mk g1 g3, e]
    cases b <;> rfl
  · simp only [if_true]
    rw [nnf_mk d2 d3, nnf_mk g1 g3, e]
    cases b
    · rfl
    · simp [d1]
theorem plain_nnf {nc nr : Nat} : ∀ (c : Con), shaped nc nr c = true → ∀ a : Bool, plainC (nnf c a) = true := by
  intro c
  induction c using Con.ind with
  | h o n l ih =>
  intro hs a
  rw [shaped_mk] at hs
  obtain ⟨h1, h2⟩ := hs
  have h08 := arity_in h1.1
  by_cases g1 : o = 0
  · subst g1
    cases a <;> simp [nnf, plainC, plainL, hdO, Con.op]
  by_cases g3 : o = 3
  · subst g3
    cases l with
    | nil => have := h1.1; simp [arity] at this
    | cons c r =>
      have e : ∀ x, nnf (.mk 3 n (c :: r)) x = nnf c (!x) := fun x => by simp only [nnf, if_neg g1, if_true, nnfH]
      rw [e]
      exact ih c (by simp) (shapedL_mem h2 (by simp)) _
  obtain ⟨d1, d2, d3⟩ := dualI_dual h08.1 h08.2 g1 g3
  have aux : ∀ r : List Con, (∀ c ∈ r, c ∈ l) → shapedL nc nr r = true → plainL (nnfs r a) = true := by
    intro r
    induction r with
    | nil => intro _ _; rfl
    | cons c r ihr =>
      intro hm hk
      have a1 := ihr (fun d hd => hm d (by simp [hd])) (by simp only [shapedL, Bool.and_eq_true] at hk; exact hk.2)
      simp only [nnfs, plainL, a1, ih c (hm c (by simp)) (shapedL_mem hk (by simp)), Bool.and_self]
  have e := aux l (fun _ h => h) h2
  rw [nnf_mk g1 g3]
  simp only [plainC, e, Bool.and_true]
  cases a
  · simp [g3]
  · simp [d3]
section
variable {m : Int} {G : Nat → Option (List AV)}
def ir21 : IFn := ⟨33, [⟨2, none⟩], (.seq (.reg [oA 1 (.box 27 (.r 0)), oA 2 (.mov (kB false))]) (.seq (.seq (.reg [oA 5 (.fadr 0 (.r 1)), oL 6 5 none, oA 7 (.bin .eql (.r 6) (kI 3)), oA 8 (kM 7), ⟨(some 9), (some ((8, true))), none, (.fadr 2 (.r 1))⟩, ⟨(some 10), (some ((8, true))), (some (.r 9)), (.load none (.r 9))⟩, ⟨(some 11), (some ((8, true))), (some (.r 10)), (.lenl (.r 10))⟩, ⟨(some 12), (some ((8, true))), none, (.bin .neq (.r 11) (kI 1))⟩, ⟨(some 13), (some ((8, true))), none, (kM 12)⟩, ⟨(some 14), (some ((13, false))), none, (.fadr 2 (.r 1))⟩, ⟨(some 15), (some ((13, false))), (some (.r 14)), (.load none (.r 14))⟩, ⟨(some 16), (some ((13, false))), none, (.iasl 3 (.r 15) (kI 0))⟩, ⟨(some 17), (some ((13, false))), none, (.fadr 0 (.r 16))⟩, ⟨(some 18), (some ((13, false))), (some (.r 17)), (.load none (.r 17))⟩, ⟨(some 19), (some ((13, false))), none, (.bin .neq (.r 18) (kI 0))⟩, ⟨(some 20), (some ((8, true))), none, (.pick (.r 13) (kB true) (.r 19))⟩, oA 21 (.pick (.r 8) (.r 20) (kB false))]) (.cond (.r 21) (.seq (.reg [oA 2 (.mov (kB false))]) .ret) .skip)) (.seq (.seq (.reg [oA 22 (.fadr 2 (.r 1)), oL 23 22 none, oT 24 23 (.lenl (.r 23)), oA 25 (.mov (kI 0))]) (.block 0 (.loop (.seq (.reg [oA 26 (.bin .lss (.r 25) (.r 24))]) (.seq (.cond (.r 26) .skip (.exit 0)) (.seq (.block 1 (.seq (.reg [oA 27 (.iasl 3 (.r 23) (.r 25)), oL 28 27 (some 3), oA 4 (.alloc 27 [.v (.int .i64 0), .v (.int .i64 0), .sl .nil 0 []]), oN (.store 3 (.r 4) (.r 28))]) (.seq (.reg [oL 29 4 (some 3), oT 30 29 (.call 21 [.r 29]), oA 31 (.not (.r 30))]) (.cond (.r 31) (.seq (.reg [oA 2 (.mov (kB false))]) .ret) .skip)))) (.reg [oA 32 (.bin .add (.r 25) (kI 1)), oA 25 (kM 32)]))))))) (.seq (.reg [oA 2 (.mov (kB true))]) .ret))))⟩
theorem c21 : cfunc Tryd.prog 21 = some ir21 := by kernel_rfl
theorem k21 : okIR (max 1 ir21.n) ir21.ir = true := by decide +kernel
theorem s_plain : ∀ (c : Con) (j : JH), c.ok → JC Tryd.prog G 21 [.agg c.enc] j (RET (BOO (plainC c)) j) := by
  intro c
  induction c using Con.ind with
  | h o n l ih =>
  intro j hc
  simp only [Con.ok] at hc
  obtain ⟨hc1, hc2, hc3, hc4⟩ := hc
  refine JC.run hmix c21 (by exact k21) ?_
  (try simp only[↓jr,jw,seval,ir21])
  refine wq.intro (fun g3 => ?_) (fun g3 => ?_)
  · (try simp only[↓jr,jw,seval])
    refine wq.intro (fun g4 => ?_) (fun g4 => ?_)
    · (try simp only[↓jr,jw,seval])
      refine wc.intro ⟨by omega, by omega⟩ ?_
      obtain ⟨c, hl⟩ := len1 (show l.length = 1 by omega)
      (try simp only[↓jr,jw,seval,hl])
      refine wq.intro (fun g5 => ?_) (fun g5 => ?_)
      · have key : plainC (.mk o n l) = plainL l := by
          rw [hl]; simp [plainC, hdO, g5]
        (try simp only[↓jr,jw,seval])
        refine JLOOP.of (σ := Nat) (fun k => k ≤ l.length ∧ plainL (l.drop k) = plainL l) (fun k => l.length - k)
          (fun k => [(25, I64 k), (24, I64 l.length), (23, .sl .none l.length (encs Con.enc l))]) (fun k => ext j [.cells 27 (Con.mk o n l).enc]) 0 ⟨by omega, by simp⟩ ?_ (JDropH.refl _) ?_
        · ((try simp only[↓jr,jw,seval,DL]) <;> exact sbq)
        rintro k ⟨hk, hI⟩
        (try simp only[↓jr,jw,seval])
        refine wq.intro (fun h1 => ?_) (fun h1 => ?_)
        · have hlt : k < (l).length := by omega
          obtain ⟨x, r, hd⟩ : ∃ c_ l_, List.drop k (l) = c_ :: l_ := ⟨_, _, List.drop_eq_getElem_cons hlt⟩
          have hd1 : List.drop (k + 1) (l) = r := by rw [← List.drop_drop, hd]; rfl
          have hmem : x ∈ l := List.mem_of_mem_drop (hd ▸ List.mem_cons_self)
          (try simp only[↓jr,jw,seval,hd])
          rw [hd] at hI
          simp only [plainL] at hI
          refine wc.intro (by omega) ?_
          (try simp only[↓jr,jw,seval,hd])
          refine JCs.ret (ih x hmem _ (Con.oks_mem hc4 hmem)) ?_
          (try simp only[↓jr,jw,seval])
          refine ww.intro (fun h2 => ?_) (fun h2 => ?_)
          · (try simp only[↓jr,jw,seval])
            refine wc.intro (R64_add hlt hc3) ?_
            (try simp only[↓jr,jw,seval])
            refine JNEXT.of (k + 1) ⟨by omega, by rw [hd1, ← hI, h2]; simp⟩ (by omega) ?_ ?_
            · ((try simp only[↓jr,jw,seval,DL]) <;> exact sbq)
            · exact JDropH.nx
          · (try simp only[↓jr,jw,seval])
            refine JFIN.rb ?_
            rw [key, ← hI, h2]; exact SubB.v
        · (try simp only[↓jr,jw,seval])
          refine JFIN.rb ?_
          rw [key, ← hI, List.drop_eq_nil_of_le (by omega)]; exact SubB.v
      · (try simp only[↓jr,jw,seval])
        refine JFIN.rb ?_
        have e : plainC (.mk o n l) = false := by rw [hl]; simp [plainC, hdO, g5, g3]
        rw [e]; exact SubB.v
    · (try simp only[↓jr,jw,seval])
      refine JFIN.rb ?_
      have e : plainC (.mk o n l) = false := by
        have : ¬ l.length = 1 := by omega
        simp [plainC, g3, this]
      rw [e]; exact SubB.v
  · (try simp only[↓jr,jw,seval])
    have key : plainC (.mk o n l) = plainL l := by simp [plainC, g3]
    refine JLOOP.of (σ := Nat) (fun k => k ≤ l.length ∧ plainL (l.drop k) = plainL l) (fun k => l.length - k)
      (fun k => [(25, I64 k), (24, I64 l.length), (23, .sl .none l.length (encs Con.enc l))]) (fun k => ext j [.cells 27 (Con.mk o n l).enc]) 0 ⟨by omega, by simp⟩ ?_ (JDropH.refl _) ?_
    · ((try simp only[↓jr,jw,seval,DL]) <;> exact sbq)
    rintro k ⟨hk, hI⟩
    (try simp only[↓jr,jw,seval])
    refine wq.intro (fun h1 => ?_) (fun h1 => ?_)
    · have hlt : k < (l).length := by omega
      obtain ⟨x, r, hd⟩ : ∃ c_ l_, List.drop k (l) = c_ :: l_ := ⟨_, _, List.drop_eq_getElem_cons hlt⟩
      have hd1 : List.drop (k + 1) (l) = r := by rw [← List.drop_drop, hd]; rfl
      have hmem : x ∈ l := List.mem_of_mem_drop (hd ▸ List.mem_cons_self)
      (try simp only[↓jr,jw,seval,hd])
      rw [hd] at hI
      simp only [plainL] at hI
      refine wc.intro (by omega) ?_
      (try simp only[↓jr,jw,seval,hd])
      refine JCs.ret (ih x hmem _ (Con.oks_mem hc4 hmem)) ?_
      (try simp only[↓jr,jw,seval])
      refine ww.intro (fun h2 => ?_) (fun h2 => ?_)
      · (try simp only[↓jr,jw,seval])
        refine wc.intro (R64_add hlt hc3) ?_
        (try simp only[↓jr,jw,seval])
        refine JNEXT.of (k + 1) ⟨by omega, by rw [hd1, ← hI, h2]; simp⟩ (by omega) ?_ ?_
        · ((try simp only[↓jr,jw,seval,DL]) <;> exact sbq)
        · exact JDropH.nx
      · (try simp only[↓jr,jw,seval])
        refine JFIN.rb ?_
        rw [key, ← hI, h2]; exact SubB.v
    · (try simp only[↓jr,jw,seval])
      refine JFIN.rb ?_
      rw [key, ← hI, List.drop_eq_nil_of_le (by omega)]; exact SubB.v
theorem norm_spec {n : Nms} {c : Con} {no : Bool} (h : faultE n c = 0) : (norE n c no = 0 → norC n c no = nnf c no ∧ faultE n (nnf c no) = 0) ∧ (norE n c no ≠ 0 → norE n c no = 2) := by
  unfold norE norC
  rw [if_pos h, if_pos h]
  unfold smE smC
  have hN : namesOK n ≠ false := fun q => by unfold faultE at h; rw [if_pos q] at h; cases h
  cases hk : conOK n (nnf c no) with
  | true =>
    exact ⟨fun _ => ⟨rfl, by unfold faultE; rw [if_neg hN, hk]; rfl⟩, fun q => absurd rfl q⟩
  | false =>
    exact ⟨fun q => absurd q (by decide), fun _ => rfl⟩
theorem norm_spec2 {n : Nms} {c : Con} {no : Bool} (h : faultE n c = 0) (h2 : faultE n (nnf c no) = 0) : norE n c no = 0 ∧ norC n c no = nnf c no := by
  unfold norE norC
  rw [if_pos h, if_pos h]
  unfold smE smC
  rw [faultE_zero h2]; exact ⟨rfl, rfl⟩
def ir5 : IFn := ⟨116, [⟨4, none⟩], (.seq (.reg [oA 2 (.box 24 (.r 0)), oA 3 (.box 27 (.r 1)), oA 4 (.mov (kB false))]) (.seq (.seq (.reg [oL 12 2 (some 3), oT 13 12 (.call 8 [.r 12]), oA 14 (.not (.r 13)), oA 15 (kM 14), ⟨(some 16), (some ((15, false))), (some (.r 3)), (.load (some 3) (.r 3))⟩, ⟨(some 17), (some ((15, false))), none, (.call 9 [.r 16, .k (.v (.int .i64 3000))])⟩, ⟨(some 18), (some ((15, false))), none, (.not (.r 17))⟩, oA 19 (.pick (.r 15) (kB true) (.r 18)), oA 20 (kM 19), ⟨(some 21), (some ((20, false))), (some (.r 2)), (.load (some 3) (.r 2))⟩, ⟨(some 22), (some ((20, false))), (some (.r 3)), (.load (some 3) (.r 3))⟩, ⟨(some 23), (some ((20, false))), none, (.call 12 [.r 21, .r 22])⟩, ⟨(some 24), (some ((20, false))), none, (.bin .neq (.r 23) (kI 0))⟩, oA 25 (.pick (.r 20) (kB true) (.r 24))]) (.cond (.r 25) (.seq (.reg [oA 26 (.call 10 []), oA 4 (kM 26)]) .ret) .skip)) (.seq (.reg [oL 28 2 (some 3), oL 29 3 (some 3), oA 30 (.call 11 [.r 28, .r 29]), oA 27 (kM 30), oA 31 (.ext (.r 27) 0), oA 32 (.ext (.r 27) 1), oA 5 (kM 31), oA 6 (kM 32)]) (.seq (.reg [oL 34 2 (some 3), oA 35 (kM 5), oA 36 (.call 14 [.r 34, .r 35]), oA 33 (kM 36), oA 37 (.ext (.r 33) 0), oA 38 (.ext (.r 33) 1), oA 7 (.alloc 27 [.v (.int .i64 0), .v (.int .i64 0), .sl .nil 0 []]), oN (.store 3 (.r 7) (.r 37)), oA 8 (kM 38)]) (.seq (.seq (.reg [oA 39 (kM 6), oA 40 (.bin .neq (.r 39) (kI 0)), oA 41 (kM 40), ⟨(some 42), (some ((41, false))), none, (kM 8)⟩, ⟨(some 43), (some ((41, false))), none, (.bin .neq (.r 42) (kI 0))⟩, oA 44 (.pick (.r 41) (kB true) (.r 43)), oA 45 (kM 44), ⟨(some 46), (some ((45, false))), (some (.r 3)), (.load (some 3) (.r 3))⟩, ⟨(some 47), (some ((45, false))), (some (.r 7)), (.load (some 3) (.r 7))⟩, ⟨(some 48), (some ((45, false))), none, (.call 17 [.r 46, .r 47])⟩, ⟨(some 49), (some ((45, false))), none, (.not (.r 48))⟩, oA 50 (.pick (.r 45) (kB true) (.r 49))]) (.cond (.r 50) (.seq (.reg [oA 4 (.mov (kB false))]) .ret) .skip)) (.seq (.reg [oL 52 2 (some 3), oL 53 3 (some 3), oA 54 (.call 18 [.r 52, .r 53]), oA 51 (kM 54), oA 55 (.ext (.r 51) 0), oA 56 (.ext (.r 51) 1), oA 9 (.alloc 27 [.v (.int .i64 0), .v (.int .i64 0), .sl .nil 0 []]), oN (.store 3 (.r 9) (.r 55)), oA 6 (kM 56)]) (.seq (.seq (.reg [oA 57 (kM 6), oA 58 (.bin .neq (.r 57) (kI 0))]) (.cond (.r 58) (.seq (.reg [oA 59 (kM 6), oA 60 (.bin .eql (.r 59) (kI 2)), oA 61 (kM 60), ⟨(some 62), (some ((61, true))), none, (.call 10 [])⟩, oA 63 (.pick (.r 61) (.r 62) (kB false)), oA 4 (kM 63)]) .ret) .skip)) (.seq (.reg [oL 65 2 (some 3), oL 66 9 (some 3), oA 67 (.call 18 [.r 65, .r 66]), oA 64 (kM 67), oA 68 (.ext (.r 64) 0), oA 69 (.ext (.r 64) 1), oA 10 (.alloc 27 [.v (.int .i64 0), .v (.int .i64 0), .sl .nil 0 []]), oN (.store 3 (.r 10) (.r 68)), oA 8 (kM 69)]) (.seq (.seq (.reg [oA 70 (kM 8), oA 71 (.bin .neq (.r 70) (kI 0)), oA 72 (kM 71), ⟨(some 73), (some ((72, false))), (some (.r 9)), (.load (some 3) (.r 9))⟩, ⟨(some 74), (some ((72, false))), (some (.r 10)), (.load (some 3) (.r 10))⟩, ⟨(some 75), (some ((72, false))), none, (.call 17 [.r 73, .r 74])⟩, ⟨(some 76), (some ((72, false))), none, (.not (.r 75))⟩, oA 77 (.pick (.r 72) (kB true) (.r 76)), oA 78 (kM 77), ⟨(some 79), (some ((78, false))), (some (.r 9)), (.load (some 3) (.r 9))⟩, ⟨(some 80), (some ((78, false))), (some (.r 79)), (.call 21 [.r 79])⟩, ⟨(some 81), (some ((78, false))), none, (.not (.r 80))⟩, oA 82 (.pick (.r 78) (kB true) (.r 81))]) (.cond (.r 82) (.seq (.reg [oA 4 (.mov (kB false))]) .ret) .skip)) (.seq (.reg [oL 84 2 (some 3), oL 85 3 (some 3), oA 86 (.call 19 [.r 84, .r 85]), oA 83 (kM 86), oA 87 (.ext (.r 83) 0), oA 88 (.ext (.r 83) 1), oA 11 (.alloc 27 [.v (.int .i64 0), .v (.int .i64 0), .sl .nil 0 []]), oN (.store 3 (.r 11) (.r 87)), oA 6 (kM 88)]) (.seq (.seq (.reg [oA 89 (kM 6), oA 90 (.bin .neq (.r 89) (kI 0))]) (.cond (.r 90) (.seq (.reg [oA 91 (kM 6), oA 92 (.bin .eql (.r 91) (kI 2)), oA 93 (kM 92), ⟨(some 94), (some ((93, true))), none, (.call 10 [])⟩, oA 95 (.pick (.r 93) (.r 94) (kB false)), oA 4 (kM 95)]) .ret) .skip)) (.seq (.reg [oL 97 2 (some 3), oL 98 11 (some 3), oA 99 (.call 19 [.r 97, .r 98]), oA 96 (kM 99), oA 100 (.ext (.r 96) 0), oA 101 (.ext (.r 96) 1), oN (.store 3 (.r 10) (.r 100)), oA 8 (kM 101)]) (.seq (.reg [oA 102 (kM 8), oA 103 (.bin .eql (.r 102) (kI 0)), oA 104 (kM 103), ⟨(some 105), (some ((104, true))), (some (.r 9)), (.load (some 3) (.r 9))⟩, ⟨(some 106), (some ((104, true))), (some (.r 10)), (.load (some 3) (.r 10))⟩, ⟨(some 107), (some ((104, true))), none, (.call 17 [.r 105, .r 106])⟩, oA 108 (.pick (.r 104) (.r 107) (kB false)), oA 109 (kM 108), ⟨(some 110), (some ((109, true))), (some (.r 11)), (.load (some 3) (.r 11))⟩, ⟨(some 111), (some ((109, true))), (some (.r 110)), (.call 21 [.r 110])⟩, oA 112 (.pick (.r 109) (.r 111) (kB false)), oA 113 (kM 112), ⟨(some 114), (some ((113, true))), none, (.call 10 [])⟩, oA 115 (.pick (.r 113) (.r 114) (kB false)), oA 4 (kM 115)]) .ret)))))))))))))⟩
theorem c5 : cfunc Tryd.prog 5 = some ir5 := by kernel_rfl
theorem k5 : okIR (max 2 ir5.n) ir5.ir = true := by decide +kernel
theorem s_ConceptBack (n : Nms) (hn : n.ok) (hs : n.short) (c : Con) (hc : c.ok) (j : JH) : JC Tryd.prog (GG m) 5 [.agg n.enc, .agg c.enc] j (RET (BOO true) j) := by
  refine JC.run hmix c5 (by exact k5) ?_
  (try simp only[↓jr,jw,seval,ir5])
  have aw : ∀ j0 : JH, ∀ {K : AOut → JH → Prop}, K (.ret (BOO true)) j0 → @JCs Tryd.prog (GG m) 10 [] j0 ⟨K⟩ := fun j0 K k => JCs.ret (s_awake1 m j0) k
  refine JCs.ret (s_FewNames n hn hs _) ?_
  (try simp only[↓jr,jw,seval])
  refine ww.intro (fun h1 => ?_) (fun h1 => ?_)
  · (try simp only[↓jr,jw,seval])
    refine JCs.ret (s_Fits c 3000 _ hc (by omega) (by omega)) ?_
    (try simp only[↓jr,jw,seval])
    refine wq.intro (fun h2 => ?_) (fun h2 => ?_)
    · (try simp only[↓jr,jw,seval])
      refine JCs.ret (s_fault n c hn hs hc _) ?_
      (try simp only[↓jr,jw,seval])
      refine wq.intro (fun h3 => ?_) (fun h3 => ?_)
      · (try simp only[↓jr,jw,seval])
        obtain ⟨w1, w2, w3, w4⟩ := few_spec h1
        have hk := faultE_zero h3
        obtain ⟨hsh, hnd⟩ := conOK_shaped hk
        have es : strR n c = strC n c := by unfold strR; rw [if_pos h3]
        refine JCs.ret (s_cString n hn hs h1 c hc (by omega) _) ?_
        rw [es, h3]
        (try simp only[↓jr,jw,seval])
        have hz := strC_size w3 w4 c
        refine JCs.ret (s_cParse n hn hs (strC n c) (by omega) _) ?_
        rw [pPar_str h3]
        (try simp only[↓jr,jw,seval])
        refine JCs.ret (s_rSame c c _ hc hc) ?_
        rw [ceq_refl]
        (try simp only[↓jr,jw,seval])
        refine JCs.ret (s_Normal n hn hs c hc (by omega) _) ?_
        (try simp only[↓jr,jw,seval])
        obtain ⟨k1, k2⟩ := norm_spec (no := false) h3
        have o0 := nnf_ok c false hc
        have o1 := nnf_ok c true hc
        have n00 : nnf (nnf c false) false = nnf c false := nnf_nnf c hsh false false
        have n11 : nnf (nnf c true) true = nnf c false := nnf_nnf c hsh true true
        have p0 := plain_nnf c hsh false
        have p1 := plain_nnf c hsh true
        refine wq.intro (fun h4 => ?_) (fun h4 => ?_)
        · obtain ⟨e1, f0⟩ := k1 h4
          rw [e1]
          (try simp only[↓jr,jw,seval])
          obtain ⟨q1, q2⟩ := norm_spec2 (no := false) f0 (by rw [n00]; exact f0)
          refine JCs.ret (s_Normal n hn hs (nnf c false) o0.1 (by omega) _) ?_
          rw [q1, q2, n00]
          (try simp only[↓jr,jw,seval])
          refine JCs.ret (s_rSame _ _ _ o0.1 o0.1) ?_
          rw [ceq_refl]
          (try simp only[↓jr,jw,seval])
          refine JCs.ret (s_plain _ _ o0.1) ?_
          rw [p0]
          (try simp only[↓jr,jw,seval])
          refine JCs.ret (s_Not n hn hs c hc (by omega) _) ?_
          (try simp only[↓jr,jw,seval])
          obtain ⟨m1, m2⟩ := norm_spec (no := true) h3
          refine wq.intro (fun h5 => ?_) (fun h5 => ?_)
          · obtain ⟨e2, f1⟩ := m1 h5
            rw [e2]
            (try simp only[↓jr,jw,seval])
            obtain ⟨r1, r2⟩ := norm_spec2 (no := true) f1 (by rw [n11]; exact f0)
            refine JCs.ret (s_Not n hn hs (nnf c true) o1.1 (by omega) _) ?_
            rw [r1, r2, n11]
            (try simp only[↓jr,jw,seval])
            refine JCs.ret (s_rSame _ _ _ o0.1 o0.1) ?_
            rw [ceq_refl]
            (try simp only[↓jr,jw,seval])
            refine JCs.ret (s_plain _ _ o1.1) ?_
            rw [p1]
            (try simp only[↓jr,jw,seval])
            refine aw _ ?_
            (try simp only[↓jr,jw,seval])
            refine JFIN.rb ?_
            exact SubB.v
          · rw [m2 h5]
            (try simp only[↓jr,jw,seval])
            refine aw _ ?_
            (try simp only[↓jr,jw,seval])
            refine JFIN.rb ?_
            exact SubB.v
        · rw [k2 h4]
          (try simp only[↓jr,jw,seval])
          refine aw _ ?_
          (try simp only[↓jr,jw,seval])
          refine JFIN.rb ?_
          exact SubB.v
      · (try simp only[↓jr,jw,seval])
        refine aw _ ?_
        (try simp only[↓jr,jw,seval])
        refine JFIN.rb ?_
        exact SubB.v
    · (try simp only[↓jr,jw,seval])
      refine aw _ ?_
      (try simp only[↓jr,jw,seval])
      refine JFIN.rb ?_
      exact SubB.v
  · (try simp only[↓jr,jw,seval])
    refine aw _ ?_
    (try simp only[↓jr,jw,seval])
    refine JFIN.rb ?_
    exact SubB.v
end
end Go.Proofs.YtcajjicdbphkpaaDoor.Pg
