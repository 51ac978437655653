/-
  The reference's valid interpretations.
-/
import Derived.Test.YtnkkeenclhncmaaGreatDoorIe
set_option linter.unusedVariables false
set_option linter.unusedSimpArgs false
set_option maxRecDepth 100000
set_option maxHeartbeats 8000000
namespace Go.Proofs.YtnkkeenclhncmaaGreatDoor.Pg
open Go
def lessP (p q : Int × Int) : Bool := decide (p.1 < q.1) || (decide (p.1 = q.1) && decide (p.2 < q.2))
def rolR (s : Int) : Int × Int → List (Int × Int) → Bool
  | _, [] => true
  | q, p :: l => prIn s p && lessP q p && rolR s p l
theorem prIn_iff {s : Int} {p : Int × Int} : prIn s p = true ↔ 0 ≤ p.1 ∧ p.1 < s ∧ 0 ≤ p.2 ∧ p.2 < s := by
  unfold prIn inR; simp only [Bool.and_eq_true, decide_eq_true_eq]; omega
theorem lex_lt {s a1 a2 b1 b2 : Int} (ha : 0 ≤ a2) (ha2 : a2 < s) (hb : 0 ≤ b2) (hb2 : b2 < s) : a1 * s + a2 < b1 * s + b2 ↔ a1 < b1 ∨ (a1 = b1 ∧ a2 < b2) := by
  rcases Int.lt_trichotomy a1 b1 with h | h | h
  · have := Int.mul_le_mul_of_nonneg_right (show a1 + 1 ≤ b1 by omega) (show 0 ≤ s by omega)
    rw [Int.add_mul] at this
    constructor <;> intro q
    · exact .inl h
    · omega
  · subst h; constructor <;> intro q
    · exact .inr ⟨rfl, by omega⟩
    · omega
  · have := Int.mul_le_mul_of_nonneg_right (show b1 + 1 ≤ a1 by omega) (show 0 ≤ s by omega)
    rw [Int.add_mul] at this
    constructor <;> intro q <;> omega
theorem rolR_eq {s : Int} : ∀ (l : List (Int × Int)) (q : Int × Int), 0 ≤ q.2 → q.2 < s → rolR s q l = (l.all (prIn s) && risF (s * s) (q.1 * s + q.2) (flat s l))
  | [], _, _, _ => rfl
  | p :: l, q, h1, h2 => by
    simp only [rolR, flat, List.map_cons, risF, List.all_cons]
    cases hp : prIn s p
    · rfl
    obtain ⟨p1, p2, p3, p4⟩ := prIn_iff.1 hp
    rw [rolR_eq l p p3 p4]
    have e1 : lessP q p = decide (q.1 * s + q.2 < p.1 * s + p.2) := by
      unfold lessP; rw [Bool.eq_iff_iff]
      simp only [Bool.or_eq_true, Bool.and_eq_true, decide_eq_true_eq]
      exact (lex_lt h1 h2 p3 p4).symm
    have e2 : decide (p.1 * s + p.2 < s * s) = true := by
      have := Int.mul_le_mul_of_nonneg_right (show p.1 + 1 ≤ s by omega) (show 0 ≤ s by omega)
      rw [Int.add_mul] at this
      exact decide_eq_true (by omega)
    rw [e1, e2]
    simp only [flat, Bool.true_and, Bool.and_true]
    cases l.all (prIn s) <;> simp
theorem rolR_start {s : Int} {l : List (Int × Int)} : rolR s (-1, -1) l = rolOKp s l := by
  unfold rolOKp
  cases l with
  | nil => rfl
  | cons p l =>
    simp only [rolR, flat, rising, List.map_cons, risF, List.all_cons]
    cases hp : prIn s p
    · rfl
    obtain ⟨p1, p2, p3, p4⟩ := prIn_iff.1 hp
    rw [rolR_eq l p p3 p4]
    have h0 : 0 ≤ p.1 * s := Int.mul_nonneg p1 (by omega)
    have e1 : lessP (-1, -1) p = true := by unfold lessP; rw [decide_eq_true (by simp only; omega)]; rfl
    have e2 : decide (p.1 * s + p.2 < s * s) = true := by
      have := Int.mul_le_mul_of_nonneg_right (show p.1 + 1 ≤ s by omega) (show 0 ≤ s by omega)
      rw [Int.add_mul] at this
      exact decide_eq_true (by omega)
    rw [e1, e2, decide_eq_true (by omega)]
    simp [flat]
def prvP (l : List (Int × Int)) : Nat → Int × Int
  | 0 => (-1, -1)
  | k + 1 => (l[k]?).getD (0, 0)
section
variable {m : GM} {G : Nat → Option (List AV)}
def ir40 : IFn := ⟨24, [⟨4, none⟩], (.seq (.reg [oA 2 (.box 75 (.r 0)), oA 3 (.box 75 (.r 1)), oA 4 (.mov (kB false))]) (.seq (.reg [oA 5 (.iaar 2 1 (.r 2) (kI 0)), oL 6 5 none, oA 7 (.iaar 2 1 (.r 3) (kI 0)), oL 8 7 none, oA 9 (.bin .lss (.r 6) (.r 8)), oA 10 (kM 9), ⟨(some 11), (some ((10, false))), none, (.iaar 2 1 (.r 2) (kI 0))⟩, ⟨(some 12), (some ((10, false))), (some (.r 11)), (.load none (.r 11))⟩, ⟨(some 13), (some ((10, false))), none, (.iaar 2 1 (.r 3) (kI 0))⟩, ⟨(some 14), (some ((10, false))), (some (.r 13)), (.load none (.r 13))⟩, ⟨(some 15), (some ((10, false))), none, (.bin .eql (.r 12) (.r 14))⟩, ⟨(some 16), (some ((10, false))), none, (kM 15)⟩, ⟨(some 17), (some ((16, true))), none, (.iaar 2 1 (.r 2) (kI 1))⟩, ⟨(some 18), (some ((16, true))), (some (.r 17)), (.load none (.r 17))⟩, ⟨(some 19), (some ((16, true))), none, (.iaar 2 1 (.r 3) (kI 1))⟩, ⟨(some 20), (some ((16, true))), (some (.r 19)), (.load none (.r 19))⟩, ⟨(some 21), (some ((16, true))), none, (.bin .lss (.r 18) (.r 20))⟩, ⟨(some 22), (some ((10, false))), none, (.pick (.r 16) (.r 21) (kB false))⟩, oA 23 (.pick (.r 10) (kB true) (.r 22)), oA 4 (kM 23)]) .ret))⟩
theorem c40 : cfunc Tryz.prog 40 = some ir40 := by kernel_rfl
theorem k40 : okIR (max 2 ir40.n) ir40.ir = true := by decide +kernel
theorem s_less (p q : Int × Int) (j : JH) : JC Tryz.prog G 40 [.agg (PR p), .agg (PR q)] j (RET (BOO (lessP p q)) j) := by
  refine JC.run hmix c40 (by exact k40) ?_
  (try simp only[↓jr,jw,seval,ji,ir40])
  refine wq.intro (fun h1 => ?_) (fun h1 => ?_)
  · (try simp only[↓jr,jw,seval,ji])
    refine JFIN.rb ?_
    unfold lessP; rw [decide_eq_true h1]; exact SubB.v
  · (try simp only[↓jr,jw,seval,ji])
    refine wq.intro (fun h2 => ?_) (fun h2 => ?_)
    · (try simp only[↓jr,jw,seval,ji])
      refine JFIN.rb ?_
      unfold lessP; rw [decide_eq_false h1, decide_eq_true h2]; exact SubB.v
    · (try simp only[↓jr,jw,seval,ji])
      refine JFIN.rb ?_
      unfold lessP; rw [decide_eq_false h1, decide_eq_false h2]; exact SubB.v
def ir17 : IFn := ⟨129, [⟨4, none⟩], (.seq (.reg [oA 2 (.box 24 (.r 0)), oA 3 (.box 38 (.r 1)), oA 4 (.mov (kB false))]) (.seq (.seq (.reg [oA 13 (.fadr 0 (.r 3)), oL 14 13 none, oA 15 (.bin .lss (.r 14) (kI 1)), oA 16 (kM 15), ⟨(some 17), (some ((16, false))), none, (.fadr 0 (.r 3))⟩, ⟨(some 18), (some ((16, false))), (some (.r 17)), (.load none (.r 17))⟩, ⟨(some 19), (some ((16, false))), none, (.bin .gtr (.r 18) (kI 256))⟩, oA 20 (.pick (.r 16) (kB true) (.r 19)), oA 21 (kM 20), ⟨(some 22), (some ((21, false))), none, (.fadr 1 (.r 3))⟩, ⟨(some 23), (some ((21, false))), (some (.r 22)), (.load none (.r 22))⟩, ⟨(some 24), (some ((21, false))), (some (.r 23)), (.lenl (.r 23))⟩, ⟨(some 25), (some ((21, false))), none, (.fadr 0 (.r 2))⟩, ⟨(some 26), (some ((21, false))), (some (.r 25)), (.load none (.r 25))⟩, ⟨(some 27), (some ((21, false))), (some (.r 26)), (.lenl (.r 26))⟩, ⟨(some 28), (some ((21, false))), none, (.bin .neq (.r 24) (.r 27))⟩, oA 29 (.pick (.r 21) (kB true) (.r 28)), oA 30 (kM 29), ⟨(some 31), (some ((30, false))), none, (.fadr 2 (.r 3))⟩, ⟨(some 32), (some ((30, false))), (some (.r 31)), (.load none (.r 31))⟩, ⟨(some 33), (some ((30, false))), (some (.r 32)), (.lenl (.r 32))⟩, ⟨(some 34), (some ((30, false))), none, (.fadr 1 (.r 2))⟩, ⟨(some 35), (some ((30, false))), (some (.r 34)), (.load none (.r 34))⟩, ⟨(some 36), (some ((30, false))), (some (.r 35)), (.lenl (.r 35))⟩, ⟨(some 37), (some ((30, false))), none, (.bin .neq (.r 33) (.r 36))⟩, oA 38 (.pick (.r 30) (kB true) (.r 37)), oA 39 (kM 38), ⟨(some 40), (some ((39, false))), none, (.fadr 3 (.r 3))⟩, ⟨(some 41), (some ((39, false))), (some (.r 40)), (.load none (.r 40))⟩, ⟨(some 42), (some ((39, false))), (some (.r 41)), (.lenl (.r 41))⟩, ⟨(some 43), (some ((39, false))), none, (.fadr 2 (.r 2))⟩, ⟨(some 44), (some ((39, false))), (some (.r 43)), (.load none (.r 43))⟩, ⟨(some 45), (some ((39, false))), (some (.r 44)), (.lenl (.r 44))⟩, ⟨(some 46), (some ((39, false))), none, (.bin .neq (.r 42) (.r 45))⟩, oA 47 (.pick (.r 39) (kB true) (.r 46))]) (.cond (.r 47) (.seq (.reg [oA 4 (.mov (kB false))]) .ret) .skip)) (.seq (.seq (.reg [oA 48 (.fadr 1 (.r 3)), oL 49 48 none, oT 50 49 (.lenl (.r 49)), oA 51 (.mov (kI 0))]) (.block 0 (.loop (.seq (.reg [oA 52 (.bin .lss (.r 51) (.r 50))]) (.seq (.cond (.r 52) .skip (.exit 0)) (.seq (.block 1 (.seq (.reg [oA 53 (.iasl 1 (.r 49) (.r 51)), oL 54 53 none, oA 6 (kM 54)]) (.seq (.reg [oA 55 (kM 6), oA 56 (.fadr 0 (.r 3)), oL 57 56 none, oA 58 (.call 39 [.r 55, .r 57]), oA 59 (.not (.r 58))]) (.cond (.r 59) (.seq (.reg [oA 4 (.mov (kB false))]) .ret) .skip)))) (.reg [oA 60 (.bin .add (.r 51) (kI 1)), oA 51 (kM 60)]))))))) (.seq (.seq (.reg [oA 61 (.fadr 2 (.r 3)), oL 62 61 none, oT 63 62 (.lenl (.r 62)), oA 64 (.mov (kI 0))]) (.block 2 (.loop (.seq (.reg [oA 65 (.bin .lss (.r 64) (.r 63))]) (.seq (.cond (.r 65) .skip (.exit 2)) (.seq (.block 3 (.seq (.reg [oA 66 (.iasl 1 (.r 62) (.r 64)), oL 67 66 none, oA 8 (kM 67)]) (.seq (.reg [oA 68 (kM 8), oT 69 68 (.lenl (.r 68)), oA 70 (.mov (kI 0))]) (.block 4 (.loop (.seq (.reg [oA 71 (.bin .lss (.r 70) (.r 69))]) (.seq (.cond (.r 71) .skip (.exit 4)) (.seq (.block 5 (.seq (.reg [oA 72 (kM 70), oA 73 (.iasl 2 (.r 68) (.r 70)), oL 74 73 (some 2), oA 10 (.alloc 75 [.v (.int .i64 0), .v (.int .i64 0)]), oA 9 (kM 72), oN (.store 2 (.r 10) (.r 74))]) (.seq (.draw [oA 75 (.iaar 2 1 (.r 10) (kI 0)), oL 76 75 none, oA 77 (.bin .lss (.r 76) (kI 0)), oA 78 (kM 77), ⟨(some 79), (some ((78, false))), none, (.iaar 2 1 (.r 10) (kI 0))⟩, ⟨(some 80), (some ((78, false))), (some (.r 79)), (.load none (.r 79))⟩, ⟨(some 81), (some ((78, false))), none, (.fadr 0 (.r 3))⟩, ⟨(some 82), (some ((78, false))), (some (.r 81)), (.load none (.r 81))⟩, ⟨(some 83), (some ((78, false))), none, (.bin .geq (.r 80) (.r 82))⟩, oA 84 (.pick (.r 78) (kB true) (.r 83)), oA 85 (kM 84), ⟨(some 86), (some ((85, false))), none, (.iaar 2 1 (.r 10) (kI 1))⟩, ⟨(some 87), (some ((85, false))), (some (.r 86)), (.load none (.r 86))⟩, ⟨(some 88), (some ((85, false))), none, (.bin .lss (.r 87) (kI 0))⟩, oA 89 (.pick (.r 85) (kB true) (.r 88)), oA 90 (kM 89), ⟨(some 91), (some ((90, false))), none, (.iaar 2 1 (.r 10) (kI 1))⟩, ⟨(some 92), (some ((90, false))), (some (.r 91)), (.load none (.r 91))⟩, ⟨(some 93), (some ((90, false))), none, (.fadr 0 (.r 3))⟩, ⟨(some 94), (some ((90, false))), (some (.r 93)), (.load none (.r 93))⟩, ⟨(some 95), (some ((90, false))), none, (.bin .geq (.r 92) (.r 94))⟩, oA 96 (.pick (.r 90) (kB true) (.r 95)), oA 97 (kM 96), ⟨(some 98), (some ((97, false))), none, (kM 9)⟩, ⟨(some 99), (some ((97, false))), none, (.bin .gtr (.r 98) (kI 0))⟩, ⟨(some 100), (some ((97, false))), none, (kM 99)⟩, ⟨(some 101), (some ((100, true))), none, (kM 8)⟩, ⟨(some 102), (some ((100, true))), none, (kM 9)⟩, ⟨(some 103), (some ((100, true))), none, (.bin .sub (.r 102) (kI 1))⟩, ⟨(some 104), (some ((100, true))), none, (.iasl 2 (.r 101) (.r 103))⟩, ⟨(some 105), (some ((100, true))), (some (.r 104)), (.load (some 2) (.r 104))⟩, ⟨(some 106), (some ((100, true))), (some (.r 10)), (.load (some 2) (.r 10))⟩, ⟨(some 107), (some ((100, true))), none, (.call 40 [.r 105, .r 106])⟩, ⟨(some 108), (some ((100, true))), none, (.not (.r 107))⟩, ⟨(some 109), (some ((97, false))), none, (.pick (.r 100) (.r 108) (kB false))⟩, oA 110 (.pick (.r 97) (kB true) (.r 109))] []) (.cond (.r 110) (.seq (.reg [oA 4 (.mov (kB false))]) .ret) .skip)))) (.reg [oA 111 (.bin .add (.r 70) (kI 1)), oA 70 (kM 111)]))))))))) (.reg [oA 112 (.bin .add (.r 64) (kI 1)), oA 64 (kM 112)]))))))) (.seq (.seq (.reg [oA 113 (.fadr 3 (.r 3)), oL 114 113 none, oT 115 114 (.lenl (.r 114)), oA 116 (.mov (kI 0))]) (.block 6 (.loop (.seq (.reg [oA 117 (.bin .lss (.r 116) (.r 115))]) (.seq (.cond (.r 117) .skip (.exit 6)) (.seq (.block 7 (.seq (.reg [oA 118 (.iasl 1 (.r 114) (.r 116)), oL 119 118 none, oA 12 (kM 119)]) (.seq (.reg [oA 120 (kM 12), oA 121 (.bin .lss (.r 120) (kI 0)), oA 122 (kM 121), ⟨(some 123), (some ((122, false))), none, (kM 12)⟩, ⟨(some 124), (some ((122, false))), none, (.fadr 0 (.r 3))⟩, ⟨(some 125), (some ((122, false))), (some (.r 124)), (.load none (.r 124))⟩, ⟨(some 126), (some ((122, false))), none, (.bin .geq (.r 123) (.r 125))⟩, oA 127 (.pick (.r 122) (kB true) (.r 126))]) (.cond (.r 127) (.seq (.reg [oA 4 (.mov (kB false))]) .ret) .skip)))) (.reg [oA 128 (.bin .add (.r 116) (kI 1)), oA 116 (kM 128)]))))))) (.seq (.reg [oA 4 (.mov (kB true))]) .ret))))))⟩
theorem c17 : cfunc Tryz.prog 17 = some ir17 := by kernel_rfl
theorem k17 : okIR (max 2 ir17.n) ir17.ir = true := by decide +kernel
theorem s_rIs (n : Nms) (hn : n.ok) (i : Itp) (hok : i.ok) (j : JH) : JC Tryz.prog G 17 [.agg n.enc, .agg i.enc] j (RET (BOO (itpOK n i)) j) := by
  obtain ⟨n1, n2, n3⟩ := hn
  have a1 := hok.c1
  have a2 := hok.r1
  have a3 := hok.i1
  have a4 := hok.s
  refine JC.run hmix c17 (by exact k17) ?_
  (try simp only[↓jr,jw,seval,ji,cast_s1,ir17])
  have fls : ∀ {l : List AObj}, itpOK n i = false → @JFIN (ext j []) (ext j l) (.v (.bool false)) ⟨fun y j' => RET (BOO (itpOK n i)) j (.ret y) j'⟩ := by
    intro l h
    refine JFIN.rb ?_
    rw [h]; exact SubB.v
  refine wq.intro (fun h0 => by (try simp only[↓jr,jw,seval,ji,cast_s1]); exact fls (itpOK_hd (by unfold hdOK; omega))) (fun h0 => ?_)
  (try simp only[↓jr,jw,seval,ji,cast_s1])
  refine wq.intro (fun h0 => by (try simp only[↓jr,jw,seval,ji,cast_s1]); exact fls (itpOK_hd (by unfold hdOK; omega))) (fun h0 => ?_)
  (try simp only[↓jr,jw,seval,ji,cast_s1])
  refine wq.intro (fun g0 => ?_) (fun g0 => by (try simp only[↓jr,jw,seval,ji,cast_s1]); exact fls (itpOK_hd (by unfold hdOK; omega)))
  (try simp only[↓jr,jw,seval,ji,cast_s1])
  refine wq.intro (fun g1 => ?_) (fun g1 => by (try simp only[↓jr,jw,seval,ji,cast_s1]); exact fls (itpOK_hd (by unfold hdOK; omega)))
  (try simp only[↓jr,jw,seval,ji,cast_s1])
  refine wq.intro (fun g2 => ?_) (fun g2 => by (try simp only[↓jr,jw,seval,ji,cast_s1]); exact fls (itpOK_hd (by unfold hdOK; omega)))
  have hB : ((i.cons.all fun l => rising l i.size) && i.rols.all (rolOKp i.size) && i.inds.all (inR i.size)) = itpOK n i := by
    unfold itpOK; rw [decide_eq_true (by unfold hdOK; omega), Bool.true_and]
  (try simp only[↓jr,jw,seval,ji,cast_s1])
  refine JLOOP.of (σ := Nat) (fun s => s ≤ (i.cons).length ∧ ((i.cons.drop s).all fun l => rising l i.size) = i.cons.all fun l => rising l i.size) (fun s => (i.cons).length - s) (fun s => [(51, I64 s), (50, I64 i.cons.length), (49, .sl .none i.cons.length (encs IL i.cons)), (2, .ptr (pid j.next 0) 0), (3, .ptr (pid j.next 1) 0)]) (fun s => ext j [.cells 24 n.enc, .cells 38 i.enc]) 0 ⟨Nat.zero_le _, ?_⟩ ?_ (JDropH.refl _) ?_
  · rfl
  · (try simp only[↓jr,jw,seval,ji,cast_s1,DL])
    exact ⟨SubB.v, SubB.v, SubB.sl rfl (SubBs.pure (IL.pur _)), SubB.ptr (by unfold pid; omega), SubB.ptr (by unfold pid; omega)⟩
  rintro k ⟨hk, hI⟩
  try simp only at hk hI
  (try simp only[↓jr,jw,seval,ji,cast_s1])
  refine wq.intro (fun h1 => ?_) (fun h1 => ?_)
  · have hlt : k < (i.cons).length := by omega
    obtain ⟨x, r, hd⟩ : ∃ c_ l_, List.drop k (i.cons) = c_ :: l_ := ⟨_, _, List.drop_eq_getElem_cons hlt⟩
    have hd1 : List.drop (k + 1) (i.cons) = r := by rw [← List.drop_drop, hd]; rfl
    have hmem : x ∈ i.cons := List.mem_of_mem_drop (hd ▸ List.mem_cons_self)
    (try simp only[↓jr,jw,seval,ji,cast_s1,hd])
    refine wc.intro (by omega) ?_
    (try simp only[↓jr,jw,seval,ji,cast_s1,hd])
    rw [hd] at hI
    rw [List.all_cons] at hI
    refine JCs.ret (s_rRising x _ _ (Nat.lt_trans (hok.c2 x hmem).1 (by decide)) _) ?_
    (try simp only[↓jr,jw,seval,ji,cast_s1])
    refine ww.intro (fun g3 => ?_) (fun g3 => by (try simp only[↓jr,jw,seval,ji,cast_s1]); exact fls (by rw [← hB, ← hI, g3]; rfl))
    rw [g3, Bool.true_and] at hI
    (try simp only[↓jr,jw,seval,ji,cast_s1])
    refine wc.intro (R64_add hlt (by omega)) ?_; (try simp only[↓jr,jw,seval,ji,cast_s1])
    refine JNEXT.of (k + 1) ⟨by omega, by rw [hd1]; exact hI⟩ (by omega) ?_ JDropH.nx
    (try simp only[↓jr,jw,seval,ji,cast_s1,DL])
    exact ⟨SubB.v, SubB.v, SubB.sl rfl (SubBs.pure (IL.pur _)), SubB.ptr (by unfold pid; omega), SubB.ptr (by unfold pid; omega)⟩
  rw [List.drop_eq_nil_of_le (by omega), List.all_nil] at hI
  rw [← hI, Bool.true_and] at hB
  clear hI h1 
  (try simp only[↓jr,jw,seval,ji,cast_s1])
  refine JLOOP.of (σ := Nat) (fun s => s ≤ (i.rols).length ∧ ((i.rols.drop s).all (rolOKp i.size)) = i.rols.all (rolOKp i.size)) (fun s => (i.rols).length - s) (fun s => [(64, I64 s), (63, I64 i.rols.length), (62, .sl .none i.rols.length (encs PL i.rols)), (2, .ptr (pid j.next 0) 0), (3, .ptr (pid j.next 1) 0)]) (fun s => ext j [.cells 24 n.enc, .cells 38 i.enc]) 0 ⟨Nat.zero_le _, ?_⟩ ?_ (JDropH.refl _) ?_
  · rfl
  · (try simp only[↓jr,jw,seval,ji,cast_s1,DL])
    exact ⟨SubB.v, SubB.v, SubB.sl rfl (SubBs.pure (PL.pur _)), SubB.ptr (by unfold pid; omega), SubB.ptr (by unfold pid; omega)⟩
  rintro k ⟨hk, hI⟩
  try simp only at hk hI
  (try simp only[↓jr,jw,seval,ji,cast_s1])
  refine wq.intro (fun h1 => ?_) (fun h1 => ?_)
  · have hlt : k < (i.rols).length := by omega
    obtain ⟨x, r, hd⟩ : ∃ c_ l_, List.drop k (i.rols) = c_ :: l_ := ⟨_, _, List.drop_eq_getElem_cons hlt⟩
    have hd1 : List.drop (k + 1) (i.rols) = r := by rw [← List.drop_drop, hd]; rfl
    have hmem : x ∈ i.rols := List.mem_of_mem_drop (hd ▸ List.mem_cons_self)
    (try simp only[↓jr,jw,seval,ji,cast_s1,hd])
    refine wc.intro (by omega) ?_
    (try simp only[↓jr,jw,seval,ji,cast_s1,hd])
    rw [hd] at hI
    rw [List.all_cons] at hI
    obtain ⟨x1, x2⟩ := hok.r2 x hmem
    have bad : rolOKp i.size x = false → itpOK n i = false := by
      intro q
      rw [← hB, ← hI, q]; rfl
    refine JLOOP.of (σ := Nat) (fun q => q ≤ x.length ∧ rolR i.size (prvP x q) (x.drop q) = rolOKp i.size x) (fun q => x.length - q)
      (fun q => [(70, I64 q), (69, I64 x.length), (68, .sl .none x.length (encs PR x)), (8, .sl .none x.length (encs PR x)), (64, I64 k), (63, I64 i.rols.length), (62, .sl .none i.rols.length (encs PL i.rols)), (2, .ptr (pid j.next 0) 0), (3, .ptr (pid j.next 1) 0)]) (fun q => ext j [.cells 24 n.enc, .cells 38 i.enc]) 0 ⟨Nat.zero_le _, rolR_start⟩ ?_ (JDropH.refl _) ?_
    · (try simp only[↓jr,jw,seval,ji,cast_s1,DL])
      exact ⟨SubB.v, SubB.v, SubB.sl rfl (SubBs.pure (PR.pur _)), SubB.sl rfl (SubBs.pure (PR.pur _)), SubB.v, SubB.v, SubB.sl rfl (SubBs.pure (PL.pur _)), SubB.ptr (by unfold pid; omega), SubB.ptr (by unfold pid; omega)⟩
    rintro q ⟨hq, hJ⟩
    (try simp only[↓jr,jw,seval,ji,cast_s1])
    refine wq.intro (fun g4 => ?_) (fun g4 => ?_)
    · have hltq : q < x.length := by omega
      obtain ⟨p, pr, hpd⟩ : ∃ c_ l_, List.drop q x = c_ :: l_ := ⟨_, _, List.drop_eq_getElem_cons hltq⟩
      have hpd1 : List.drop (q + 1) x = pr := by rw [← List.drop_drop, hpd]; rfl
      rw [hpd] at hJ
      simp only [rolR] at hJ
      have hpk : prvP x (q + 1) = p := by
        have : x[q]? = some p := by rw [← List.head?_drop, hpd]; rfl
        show (x[q]?).getD (0, 0) = p; rw [this]; rfl
      (try simp only[↓jr,jw,seval,ji,cast_s1,hpd])
      refine wc.intro (by omega) ?_
      have badq : ¬ (0 ≤ p.1 ∧ p.1 < i.size ∧ 0 ≤ p.2 ∧ p.2 < i.size) → itpOK n i = false := fun w => bad (by rw [← hJ, show prIn i.size p = false from Bool.eq_false_iff.2 fun h => w (prIn_iff.1 h)]; rfl)
      (try simp only[↓jr,jw,seval,ji,cast_s1,hpd])
      refine wq.intro (fun c0 => by (try simp only[↓jr,jw,seval,ji,cast_s1]); refine JDRAW.oc (by (try simp only[↓jr,jw,seval,ji,cast_s1,jq,qe2,qe3,ext_next,ext_tnext,pushTok_next,List.length_cons,List.length_nil]) <;> (repeat' (first | exact trivial | refine And.intro ?_ ?_ | exact Nat.le_refl _ | (refine pr_extp ⟨_, rfl⟩ (some_lt ?_)) | (refine pr_extp ⟨_, rfl⟩ (fun _ q => by cases q)) | omega | (unfold pid; omega) | (simp only [pushTok_next, List.length_cons, List.length_nil]; unfold pid; omega)))) ?_; (try simp only[↓jr,jw,seval,ji,cast_s1]); exact fls (badq (by omega))) (fun c0 => ?_)
      (try simp only[↓jr,jw,seval,ji,cast_s1,hpd])
      refine wq.intro (fun c1 => by (try simp only[↓jr,jw,seval,ji,cast_s1]); refine JDRAW.oc (by (try simp only[↓jr,jw,seval,ji,cast_s1,jq,qe2,qe3,ext_next,ext_tnext,pushTok_next,List.length_cons,List.length_nil]) <;> (repeat' (first | exact trivial | refine And.intro ?_ ?_ | exact Nat.le_refl _ | (refine pr_extp ⟨_, rfl⟩ (some_lt ?_)) | (refine pr_extp ⟨_, rfl⟩ (fun _ q => by cases q)) | omega | (unfold pid; omega) | (simp only [pushTok_next, List.length_cons, List.length_nil]; unfold pid; omega)))) ?_; (try simp only[↓jr,jw,seval,ji,cast_s1]); exact fls (badq (by omega))) (fun c1 => ?_)
      (try simp only[↓jr,jw,seval,ji,cast_s1,hpd])
      refine wq.intro (fun c2 => by (try simp only[↓jr,jw,seval,ji,cast_s1]); refine JDRAW.oc (by (try simp only[↓jr,jw,seval,ji,cast_s1,jq,qe2,qe3,ext_next,ext_tnext,pushTok_next,List.length_cons,List.length_nil]) <;> (repeat' (first | exact trivial | refine And.intro ?_ ?_ | exact Nat.le_refl _ | (refine pr_extp ⟨_, rfl⟩ (some_lt ?_)) | (refine pr_extp ⟨_, rfl⟩ (fun _ q => by cases q)) | omega | (unfold pid; omega) | (simp only [pushTok_next, List.length_cons, List.length_nil]; unfold pid; omega)))) ?_; (try simp only[↓jr,jw,seval,ji,cast_s1]); exact fls (badq (by omega))) (fun c2 => ?_)
      (try simp only[↓jr,jw,seval,ji,cast_s1,hpd])
      refine wq.intro (fun c3 => by (try simp only[↓jr,jw,seval,ji,cast_s1]); refine JDRAW.oc (by (try simp only[↓jr,jw,seval,ji,cast_s1,jq,qe2,qe3,ext_next,ext_tnext,pushTok_next,List.length_cons,List.length_nil]) <;> (repeat' (first | exact trivial | refine And.intro ?_ ?_ | exact Nat.le_refl _ | (refine pr_extp ⟨_, rfl⟩ (some_lt ?_)) | (refine pr_extp ⟨_, rfl⟩ (fun _ q => by cases q)) | omega | (unfold pid; omega) | (simp only [pushTok_next, List.length_cons, List.length_nil]; unfold pid; omega)))) ?_; (try simp only[↓jr,jw,seval,ji,cast_s1]); exact fls (badq (by omega))) (fun c3 => ?_)
      rw [prIn_iff.2 (by omega), Bool.true_and] at hJ
      (try simp only[↓jr,jw,seval,ji,cast_s1,hpd])
      refine wq.intro (fun c4 => ?_) (fun c4 => ?_)
      · obtain ⟨q', rfl⟩ : ∃ k', q = k' + 1 := ⟨q - 1, by omega⟩
        obtain ⟨w, r', hw⟩ : ∃ q r', List.drop q' x = q :: r' := ⟨_, _, List.drop_eq_getElem_cons (by omega)⟩
        have hw2 : prvP x (q' + 1) = w := by
          have : x[q']? = some w := by rw [← List.head?_drop, hw]; rfl
          show (x[q']?).getD (0, 0) = w; rw [this]; rfl
        rw [hw2] at hJ
        (try simp only[↓jr,jw,seval,ji,cast_s1,hw,hpd])
        refine wc.intro (by unfold R64; omega) ?_
        (try simp only[↓jr,jw,seval,ji,cast_s1,hw,hpd])
        refine wc.intro (by omega) ?_
        (try simp only[↓jr,jw,seval,ji,cast_s1,hw,hpd])
        refine JDC.use (s_less w p _) ?_
        (try simp only[↓jr,jw,seval,ji,cast_s1])
        refine JDRAW.oc (by (try simp only[↓jr,jw,seval,ji,cast_s1,jq,qe2,qe3,ext_next,ext_tnext,pushTok_next,List.length_cons,List.length_nil]) <;> (repeat' (first | exact trivial | refine And.intro ?_ ?_ | exact Nat.le_refl _ | (refine pr_extp ⟨_, rfl⟩ (some_lt ?_)) | (refine pr_extp ⟨_, rfl⟩ (fun _ q => by cases q)) | omega | (unfold pid; omega) | (simp only [pushTok_next, List.length_cons, List.length_nil]; unfold pid; omega)))) ?_; (try simp only[↓jr,jw,seval,ji,cast_s1])
        refine ww.intro (fun g5 => ?_) (fun g5 => by (try simp only[↓jr,jw,seval,ji,cast_s1]); exact fls (bad (by rw [← hJ, g5]; rfl)))
        rw [g5, Bool.true_and] at hJ
        (try simp only[↓jr,jw,seval,ji,cast_s1])
        refine wc.intro (by unfold R64; omega) ?_
        (try simp only[↓jr,jw,seval,ji,cast_s1])
        refine JNEXT.of (q' + 1 + 1) ⟨by omega, by rw [hpk, hpd1]; exact hJ⟩ (by omega) ?_ JDropH.nx
        (try simp only[↓jr,jw,seval,ji,cast_s1,DL])
        exact ⟨SubB.v, SubB.v, SubB.sl rfl (SubBs.pure (PR.pur _)), SubB.sl rfl (SubBs.pure (PR.pur _)), SubB.v, SubB.v, SubB.sl rfl (SubBs.pure (PL.pur _)), SubB.ptr (by unfold pid; omega), SubB.ptr (by unfold pid; omega)⟩
      · have hk0 : prvP x q = (-1, -1) := by
          have : q = 0 := by omega
          subst this; rfl
        have hls : lessP (-1, -1) p = true := by unfold lessP; rw [decide_eq_true (by simp only; omega)]; rfl
        rw [hk0, hls, Bool.true_and] at hJ
        (try simp only[↓jr,jw,seval,ji,cast_s1])
        refine JDRAW.oc (by (try simp only[↓jr,jw,seval,ji,cast_s1,jq,qe2,qe3,ext_next,ext_tnext,pushTok_next,List.length_cons,List.length_nil]) <;> (repeat' (first | exact trivial | refine And.intro ?_ ?_ | exact Nat.le_refl _ | (refine pr_extp ⟨_, rfl⟩ (some_lt ?_)) | (refine pr_extp ⟨_, rfl⟩ (fun _ q => by cases q)) | omega | (unfold pid; omega) | (simp only [pushTok_next, List.length_cons, List.length_nil]; unfold pid; omega)))) ?_; (try simp only[↓jr,jw,seval,ji,cast_s1])
        refine wc.intro (by unfold R64; omega) ?_
        (try simp only[↓jr,jw,seval,ji,cast_s1])
        refine JNEXT.of (q + 1) ⟨by omega, by rw [hpk, hpd1]; exact hJ⟩ (by omega) ?_ JDropH.nx
        (try simp only[↓jr,jw,seval,ji,cast_s1,DL])
        exact ⟨SubB.v, SubB.v, SubB.sl rfl (SubBs.pure (PR.pur _)), SubB.sl rfl (SubBs.pure (PR.pur _)), SubB.v, SubB.v, SubB.sl rfl (SubBs.pure (PL.pur _)), SubB.ptr (by unfold pid; omega), SubB.ptr (by unfold pid; omega)⟩
    (try simp only[↓jr,jw,seval,ji,cast_s1])
    rw [List.drop_eq_nil_of_le (by omega)] at hJ
    rw [← hJ] at hI
    simp only [rolR, Bool.true_and] at hI
    refine wc.intro (R64_add hlt (by omega)) ?_; (try simp only[↓jr,jw,seval,ji,cast_s1])
    refine JNEXT.of (k + 1) ⟨by omega, by rw [hd1]; exact hI⟩ (by omega) ?_ JDropH.nx
    (try simp only[↓jr,jw,seval,ji,cast_s1,DL])
    exact ⟨SubB.v, SubB.v, SubB.sl rfl (SubBs.pure (PL.pur _)), SubB.ptr (by unfold pid; omega), SubB.ptr (by unfold pid; omega)⟩
  rw [List.drop_eq_nil_of_le (by omega), List.all_nil] at hI
  rw [← hI, Bool.true_and] at hB
  clear hI h1 
  (try simp only[↓jr,jw,seval,ji,cast_s1])
  refine JLOOP.of (σ := Nat) (fun s => s ≤ (i.inds).length ∧ ((i.inds.drop s).all (inR i.size)) = i.inds.all (inR i.size)) (fun s => (i.inds).length - s) (fun s => [(116, I64 s), (115, I64 i.inds.length), (114, .sl .none i.inds.length (ints i.inds)), (2, .ptr (pid j.next 0) 0), (3, .ptr (pid j.next 1) 0)]) (fun s => ext j [.cells 24 n.enc, .cells 38 i.enc]) 0 ⟨Nat.zero_le _, ?_⟩ ?_ (JDropH.refl _) ?_
  · rfl
  · (try simp only[↓jr,jw,seval,ji,cast_s1,DL])
    exact ⟨SubB.v, SubB.v, SubB.sl rfl (SubBs.pure (ints_pur _)), SubB.ptr (by unfold pid; omega), SubB.ptr (by unfold pid; omega)⟩
  rintro k ⟨hk, hI⟩
  try simp only at hk hI
  (try simp only[↓jr,jw,seval,ji,cast_s1])
  refine wq.intro (fun h1 => ?_) (fun h1 => ?_)
  · have hlt : k < (i.inds).length := by omega
    obtain ⟨x, r, hd⟩ : ∃ c_ l_, List.drop k (i.inds) = c_ :: l_ := ⟨_, _, List.drop_eq_getElem_cons hlt⟩
    have hd1 : List.drop (k + 1) (i.inds) = r := by rw [← List.drop_drop, hd]; rfl
    have hmem : x ∈ i.inds := List.mem_of_mem_drop (hd ▸ List.mem_cons_self)
    (try simp only[↓jr,jw,seval,ji,cast_s1,hd])
    refine wc.intro (by omega) ?_
    (try simp only[↓jr,jw,seval,ji,cast_s1,hd])
    rw [hd] at hI
    rw [List.all_cons] at hI
    have bad : ¬ (0 ≤ x ∧ x < i.size) → itpOK n i = false := by
      intro q
      rw [← hB, ← hI]
      have : inR i.size x = false := by unfold inR; rw [Bool.and_eq_false_iff, decide_eq_false_iff_not, decide_eq_false_iff_not]; omega
      rw [this]; rfl
    refine wq.intro (fun g3 => by (try simp only[↓jr,jw,seval,ji,cast_s1]); exact fls (bad (by omega))) (fun g3 => ?_)
    (try simp only[↓jr,jw,seval,ji,cast_s1])
    refine wq.intro (fun g4 => by (try simp only[↓jr,jw,seval,ji,cast_s1]); exact fls (bad (by omega))) (fun g4 => ?_)
    have hx : inR i.size x = true := by unfold inR; rw [decide_eq_true (by omega), decide_eq_true (by omega)]; rfl
    rw [hx, Bool.true_and] at hI
    (try simp only[↓jr,jw,seval,ji,cast_s1])
    refine wc.intro (R64_add hlt (by omega)) ?_; (try simp only[↓jr,jw,seval,ji,cast_s1])
    refine JNEXT.of (k + 1) ⟨by omega, by rw [hd1]; exact hI⟩ (by omega) ?_ JDropH.nx
    (try simp only[↓jr,jw,seval,ji,cast_s1,DL])
    exact ⟨SubB.v, SubB.v, SubB.sl rfl (SubBs.pure (ints_pur _)), SubB.ptr (by unfold pid; omega), SubB.ptr (by unfold pid; omega)⟩
  rw [List.drop_eq_nil_of_le (by omega), List.all_nil] at hI
  (try simp only[↓jr,jw,seval,ji,cast_s1])
  refine JFIN.rb ?_
  rw [← hB, ← hI]; exact SubB.v
end
end Go.Proofs.YtnkkeenclhncmaaGreatDoor.Pg
