/-
  Which interpretations are valid.
-/
import Derived.Test.YtnkkeenclhncmaaDoorId
import Derived.Test.YtnkkeenclhncmaaDoorLg
set_option linter.unusedVariables false
set_option linter.unusedSimpArgs false
set_option maxRecDepth 100000
set_option maxHeartbeats 8000000
namespace Go.Proofs.YtnkkeenclhncmaaDoor.Pg
open Go
def risF (lim : Int) : Int → List Int → Bool
  | _, [] => true
  | p, x :: l => decide (p < x) && decide (x < lim) && risF lim x l
def rising (l : List Int) (lim : Int) : Bool := risF lim (-1) l
def prv (l : List Int) : Nat → Int
  | 0 => -1
  | k + 1 => (l[k]?).getD 0
theorem cast_s1 {k : Nat} : ((k + 1 : Nat) : Int) - 1 = (k : Int) := by omega
section
variable {m : GM} {G : Nat → Option (List AV)}
def ir69 : IFn := ⟨35, [⟨4, none⟩], (.seq (.reg [oA 4 (.mov (kB false))]) (.seq (.seq (.reg [oA 7 (kM 0), oT 8 7 (.lenl (.r 7)), oA 9 (.mov (kI 0))]) (.block 0 (.loop (.seq (.reg [oA 10 (.bin .lss (.r 9) (.r 8))]) (.seq (.cond (.r 10) .skip (.exit 0)) (.seq (.block 1 (.seq (.reg [oA 11 (kM 9), oA 12 (.iasl 1 (.r 7) (.r 9)), oL 13 12 none, oA 5 (kM 11), oA 6 (kM 13)]) (.seq (.reg [oA 14 (kM 6), oA 15 (.bin .lss (.r 14) (kI 0)), oA 16 (kM 15), ⟨(some 17), (some ((16, false))), none, (kM 6)⟩, ⟨(some 18), (some ((16, false))), none, (kM 1)⟩, ⟨(some 19), (some ((16, false))), none, (.bin .geq (.r 17) (.r 18))⟩, oA 20 (.pick (.r 16) (kB true) (.r 19)), oA 21 (kM 20), ⟨(some 22), (some ((21, false))), none, (kM 5)⟩, ⟨(some 23), (some ((21, false))), none, (.bin .gtr (.r 22) (kI 0))⟩, ⟨(some 24), (some ((21, false))), none, (kM 23)⟩, ⟨(some 25), (some ((24, true))), none, (kM 6)⟩, ⟨(some 26), (some ((24, true))), none, (kM 0)⟩, ⟨(some 27), (some ((24, true))), none, (kM 5)⟩, ⟨(some 28), (some ((24, true))), none, (.bin .sub (.r 27) (kI 1))⟩, ⟨(some 29), (some ((24, true))), none, (.iasl 1 (.r 26) (.r 28))⟩, ⟨(some 30), (some ((24, true))), (some (.r 29)), (.load none (.r 29))⟩, ⟨(some 31), (some ((24, true))), none, (.bin .leq (.r 25) (.r 30))⟩, ⟨(some 32), (some ((21, false))), none, (.pick (.r 24) (.r 31) (kB false))⟩, oA 33 (.pick (.r 21) (kB true) (.r 32))]) (.cond (.r 33) (.seq (.reg [oA 4 (.mov (kB false))]) .ret) .skip)))) (.reg [oA 34 (.bin .add (.r 9) (kI 1)), oA 9 (kM 34)]))))))) (.seq (.reg [oA 4 (.mov (kB true))]) .ret)))⟩
theorem c69 : cfunc Tryd.prog 69 = some ir69 := by kernel_rfl
theorem k69 : okIR (max 2 ir69.n) ir69.ir = true := by decide +kernel
theorem s_Rising (l : List Int) (tok : Tok) (lim : Int) (hl : l.length < 4611686018427387904) (j : JH) : JC Tryd.prog G 69 [.sl tok l.length (ints l), I64 lim] j (RET (BOO (rising l lim)) j) := by
  refine JC.run hmix c69 (by exact k69) ?_
  (try simp only[↓jr,jw,seval,ji,cast_s1,ir69])
  refine JLOOP.of (σ := Nat) (fun k => k ≤ l.length ∧ -1 ≤ prv l k ∧ risF lim (prv l k) (l.drop k) = rising l lim) (fun k => l.length - k)
    (fun k => [(9, I64 k), (8, I64 l.length), (7, .sl .none l.length (ints l)), (0, .sl .none l.length (ints l)), (1, I64 lim)]) (fun k => ext j []) 0 ⟨Nat.zero_le _, by simp [prv], rfl⟩ ?_ (JDropH.refl _) ?_
  · (try simp only[↓jr,jw,seval,ji,cast_s1,DL])
    exact ⟨SubB.v, SubB.v, SubB.sl rfl (SubBs.pure (ints_pur _)), SubB.sl rfl (SubBs.pure (ints_pur _)), SubB.v⟩
  rintro k ⟨hkk, hp, hI⟩
  (try simp only[↓jr,jw,seval,ji,cast_s1])
  refine wq.intro (fun g1 => ?_) (fun g1 => ?_)
  · have hlt : k < (l).length := by omega
    obtain ⟨x, r, hd⟩ : ∃ c_ l_, List.drop k (l) = c_ :: l_ := ⟨_, _, List.drop_eq_getElem_cons hlt⟩
    have hd1 : List.drop (k + 1) (l) = r := by rw [← List.drop_drop, hd]; rfl
    have hmem : x ∈ l := List.mem_of_mem_drop (hd ▸ List.mem_cons_self)
    rw [hd] at hI
    simp only [risF] at hI
    have hpk : prv l (k + 1) = x := by
      have : l[k]? = some x := by rw [← List.head?_drop, hd]; rfl
      show (l[k]?).getD 0 = x; rw [this]; rfl
    (try simp only[↓jr,jw,seval,ji,cast_s1,hd])
    refine wc.intro (by omega) ?_
    (try simp only[↓jr,jw,seval,ji,cast_s1,hd])
    refine wq.intro (fun g2 => ?_) (fun g2 => ?_)
    · (try simp only[↓jr,jw,seval,ji,cast_s1])
      rw [decide_eq_false (by omega), Bool.false_and, Bool.false_and] at hI
      refine JFIN.rb ?_
      rw [← hI]
      exact SubB.v
    (try simp only[↓jr,jw,seval,ji,cast_s1])
    refine wq.intro (fun g3 => ?_) (fun g3 => ?_)
    · (try simp only[↓jr,jw,seval,ji,cast_s1])
      rw [decide_eq_false (p := x < lim) (by omega), Bool.and_false, Bool.false_and] at hI
      refine JFIN.rb ?_
      rw [← hI]
      exact SubB.v
    (try simp only[↓jr,jw,seval,ji,cast_s1])
    rw [decide_eq_true (p := x < lim) (by omega), Bool.and_true] at hI
    refine wq.intro (fun g4 => ?_) (fun g4 => ?_)
    · obtain ⟨k', rfl⟩ : ∃ k', k = k' + 1 := ⟨k - 1, by omega⟩
      obtain ⟨q, r', hq⟩ : ∃ q r', List.drop k' l = q :: r' := ⟨_, _, List.drop_eq_getElem_cons (by omega)⟩
      have hq2 : prv l (k' + 1) = q := by
        have : l[k']? = some q := by rw [← List.head?_drop, hq]; rfl
        show (l[k']?).getD 0 = q; rw [this]; rfl
      rw [hq2] at hI
      (try simp only[↓jr,jw,seval,ji,cast_s1,hq])
      refine wc.intro (by unfold R64; omega) ?_
      (try simp only[↓jr,jw,seval,ji,cast_s1,hq])
      refine wc.intro (by omega) ?_
      (try simp only[↓jr,jw,seval,ji,cast_s1,hq])
      refine wq.intro (fun g5 => ?_) (fun g5 => ?_)
      · (try simp only[↓jr,jw,seval,ji,cast_s1])
        rw [decide_eq_false (by omega), Bool.false_and] at hI
        refine JFIN.rb ?_
        rw [← hI]
        exact SubB.v
      (try simp only[↓jr,jw,seval,ji,cast_s1])
      rw [decide_eq_true (by omega), Bool.true_and] at hI
      refine wc.intro (by unfold R64; omega) ?_
      (try simp only[↓jr,jw,seval,ji,cast_s1])
      refine JNEXT.of (k' + 1 + 1) ⟨by omega, by rw [hpk]; omega, by rw [hpk, hd1]; exact hI⟩ (by omega) ?_ (JDropH.refl _)
      (try simp only[↓jr,jw,seval,ji,cast_s1,DL])
      exact ⟨SubB.v, SubB.v, SubB.sl rfl (SubBs.pure (ints_pur _)), SubB.sl rfl (SubBs.pure (ints_pur _)), SubB.v⟩
    · have hk0 : prv l k = -1 := by
        have : k = 0 := by omega
        subst this; rfl
      rw [hk0, decide_eq_true (by omega), Bool.true_and] at hI
      (try simp only[↓jr,jw,seval,ji,cast_s1])
      refine wc.intro (by unfold R64; omega) ?_
      (try simp only[↓jr,jw,seval,ji,cast_s1])
      refine JNEXT.of (k + 1) ⟨by omega, by rw [hpk]; omega, by rw [hpk, hd1]; exact hI⟩ (by omega) ?_ (JDropH.refl _)
      (try simp only[↓jr,jw,seval,ji,cast_s1,DL])
      exact ⟨SubB.v, SubB.v, SubB.sl rfl (SubBs.pure (ints_pur _)), SubB.sl rfl (SubBs.pure (ints_pur _)), SubB.v⟩
  · (try simp only[↓jr,jw,seval,ji,cast_s1])
    rw [List.drop_eq_nil_of_le (by omega)] at hI
    refine JFIN.rb ?_
    rw [← hI]
    exact SubB.v
def inR (s x : Int) : Bool := decide (0 ≤ x) && decide (x < s)
def prIn (s : Int) (p : Int × Int) : Bool := inR s p.1 && inR s p.2
def flat (s : Int) (l : List (Int × Int)) : List Int := l.map fun p => p.1 * s + p.2
def rolOKp (s : Int) (l : List (Int × Int)) : Bool := l.all (prIn s) && rising (flat s l) (s * s)
def hdOK (n : Nms) (i : Itp) : Prop := 1 ≤ i.size ∧ i.size ≤ 256 ∧ i.cons.length = n.cs.length ∧ i.rols.length = n.rs.length ∧ i.inds.length = n.is.length
instance (n : Nms) (i : Itp) : Decidable (hdOK n i) := by unfold hdOK; infer_instance
def itpOK (n : Nms) (i : Itp) : Bool := decide (hdOK n i) && (i.cons.all fun l => rising l i.size) && i.rols.all (rolOKp i.size) && i.inds.all (inR i.size)
theorem itpOK_hd {n : Nms} {i : Itp} (h : ¬ hdOK n i) : itpOK n i = false := by unfold itpOK; rw [decide_eq_false h]; rfl
theorem flat_len {s : Int} {l : List (Int × Int)} : (flat s l).length = l.length := by simp [flat]
theorem ints_len {l : List Int} : (ints l).length = l.length := by simp [ints]
theorem mulb2 {s : Int} (h1 : 1 ≤ s) (h2 : s ≤ 256) : 0 ≤ s * s ∧ s * s ≤ 65536 := by
  refine ⟨Int.mul_nonneg (by omega) (by omega), ?_⟩
  calc s * s ≤ 256 * 256 := Int.mul_le_mul h2 h2 (by omega) (by decide)
    _ = 65536 := rfl
theorem mulb {s a b : Int} (h2 : s ≤ 256) (ha : 0 ≤ a) (ha2 : a < s) (hb : 0 ≤ b) (hb2 : b < s) : R64 (a * s) ∧ R64 (a * s + b) := by
  have h1 : 0 ≤ a * s := Int.mul_nonneg ha (by omega)
  have h3 : a * s ≤ 256 * 256 := Int.mul_le_mul (by omega) h2 (by omega) (by decide)
  unfold R64; omega
def ir43 : IFn := ⟨134, [⟨4, none⟩], (.seq (.reg [oA 2 (.box 24 (.r 0)), oA 3 (.box 29 (.r 1)), oA 4 (.mov (kB false))]) (.seq (.seq (.reg [oA 14 (.fadr 0 (.r 3)), oL 15 14 none, oA 16 (.bin .lss (.r 15) (kI 1)), oA 17 (kM 16), ⟨(some 18), (some ((17, false))), none, (.fadr 0 (.r 3))⟩, ⟨(some 19), (some ((17, false))), (some (.r 18)), (.load none (.r 18))⟩, ⟨(some 20), (some ((17, false))), none, (.bin .gtr (.r 19) (kI 256))⟩, oA 21 (.pick (.r 17) (kB true) (.r 20)), oA 22 (kM 21), ⟨(some 23), (some ((22, false))), none, (.fadr 1 (.r 3))⟩, ⟨(some 24), (some ((22, false))), (some (.r 23)), (.load none (.r 23))⟩, ⟨(some 25), (some ((22, false))), (some (.r 24)), (.lenl (.r 24))⟩, ⟨(some 26), (some ((22, false))), none, (.fadr 0 (.r 2))⟩, ⟨(some 27), (some ((22, false))), (some (.r 26)), (.load none (.r 26))⟩, ⟨(some 28), (some ((22, false))), (some (.r 27)), (.lenl (.r 27))⟩, ⟨(some 29), (some ((22, false))), none, (.bin .neq (.r 25) (.r 28))⟩, oA 30 (.pick (.r 22) (kB true) (.r 29)), oA 31 (kM 30), ⟨(some 32), (some ((31, false))), none, (.fadr 2 (.r 3))⟩, ⟨(some 33), (some ((31, false))), (some (.r 32)), (.load none (.r 32))⟩, ⟨(some 34), (some ((31, false))), (some (.r 33)), (.lenl (.r 33))⟩, ⟨(some 35), (some ((31, false))), none, (.fadr 1 (.r 2))⟩, ⟨(some 36), (some ((31, false))), (some (.r 35)), (.load none (.r 35))⟩, ⟨(some 37), (some ((31, false))), (some (.r 36)), (.lenl (.r 36))⟩, ⟨(some 38), (some ((31, false))), none, (.bin .neq (.r 34) (.r 37))⟩, oA 39 (.pick (.r 31) (kB true) (.r 38)), oA 40 (kM 39), ⟨(some 41), (some ((40, false))), none, (.fadr 3 (.r 3))⟩, ⟨(some 42), (some ((40, false))), (some (.r 41)), (.load none (.r 41))⟩, ⟨(some 43), (some ((40, false))), (some (.r 42)), (.lenl (.r 42))⟩, ⟨(some 44), (some ((40, false))), none, (.fadr 2 (.r 2))⟩, ⟨(some 45), (some ((40, false))), (some (.r 44)), (.load none (.r 44))⟩, ⟨(some 46), (some ((40, false))), (some (.r 45)), (.lenl (.r 45))⟩, ⟨(some 47), (some ((40, false))), none, (.bin .neq (.r 43) (.r 46))⟩, oA 48 (.pick (.r 40) (kB true) (.r 47))]) (.cond (.r 48) (.seq (.reg [oA 4 (.mov (kB false))]) .ret) .skip)) (.seq (.seq (.reg [oA 49 (.fadr 1 (.r 3)), oL 50 49 none, oT 51 50 (.lenl (.r 50)), oA 52 (.mov (kI 0))]) (.block 0 (.loop (.seq (.reg [oA 53 (.bin .lss (.r 52) (.r 51))]) (.seq (.cond (.r 53) .skip (.exit 0)) (.seq (.block 1 (.seq (.reg [oA 54 (.iasl 1 (.r 50) (.r 52)), oL 55 54 none, oA 6 (kM 55)]) (.seq (.reg [oA 56 (kM 6), oA 57 (.fadr 0 (.r 3)), oL 58 57 none, oA 59 (.call 69 [.r 56, .r 58]), oA 60 (.not (.r 59))]) (.cond (.r 60) (.seq (.reg [oA 4 (.mov (kB false))]) .ret) .skip)))) (.reg [oA 61 (.bin .add (.r 52) (kI 1)), oA 52 (kM 61)]))))))) (.seq (.seq (.reg [oA 62 (.fadr 2 (.r 3)), oL 63 62 none, oT 64 63 (.lenl (.r 63)), oA 65 (.mov (kI 0))]) (.block 2 (.loop (.seq (.reg [oA 66 (.bin .lss (.r 65) (.r 64))]) (.seq (.cond (.r 66) .skip (.exit 2)) (.seq (.block 3 (.seq (.reg [oA 67 (.iasl 1 (.r 63) (.r 65)), oL 68 67 none, oA 8 (kM 68)]) (.seq (.reg [oA 9 (.mov (.k (.sl .nil 0 [])))]) (.seq (.seq (.reg [oA 69 (kM 8), oT 70 69 (.lenl (.r 69)), oA 71 (.mov (kI 0))]) (.block 4 (.loop (.seq (.reg [oA 72 (.bin .lss (.r 71) (.r 70))]) (.seq (.cond (.r 72) .skip (.exit 4)) (.seq (.block 5 (.seq (.reg [oA 73 (.iasl 2 (.r 69) (.r 71)), oL 74 73 (some 2), oA 11 (.alloc 58 [.v (.int .i64 0), .v (.int .i64 0)]), oN (.store 2 (.r 11) (.r 74))]) (.seq (.seq (.reg [oA 75 (.iaar 2 1 (.r 11) (kI 0)), oL 76 75 none, oA 77 (.bin .lss (.r 76) (kI 0)), oA 78 (kM 77), ⟨(some 79), (some ((78, false))), none, (.iaar 2 1 (.r 11) (kI 0))⟩, ⟨(some 80), (some ((78, false))), (some (.r 79)), (.load none (.r 79))⟩, ⟨(some 81), (some ((78, false))), none, (.fadr 0 (.r 3))⟩, ⟨(some 82), (some ((78, false))), (some (.r 81)), (.load none (.r 81))⟩, ⟨(some 83), (some ((78, false))), none, (.bin .geq (.r 80) (.r 82))⟩, oA 84 (.pick (.r 78) (kB true) (.r 83)), oA 85 (kM 84), ⟨(some 86), (some ((85, false))), none, (.iaar 2 1 (.r 11) (kI 1))⟩, ⟨(some 87), (some ((85, false))), (some (.r 86)), (.load none (.r 86))⟩, ⟨(some 88), (some ((85, false))), none, (.bin .lss (.r 87) (kI 0))⟩, oA 89 (.pick (.r 85) (kB true) (.r 88)), oA 90 (kM 89), ⟨(some 91), (some ((90, false))), none, (.iaar 2 1 (.r 11) (kI 1))⟩, ⟨(some 92), (some ((90, false))), (some (.r 91)), (.load none (.r 91))⟩, ⟨(some 93), (some ((90, false))), none, (.fadr 0 (.r 3))⟩, ⟨(some 94), (some ((90, false))), (some (.r 93)), (.load none (.r 93))⟩, ⟨(some 95), (some ((90, false))), none, (.bin .geq (.r 92) (.r 94))⟩, oA 96 (.pick (.r 90) (kB true) (.r 95))]) (.cond (.r 96) (.seq (.reg [oA 4 (.mov (kB false))]) .ret) .skip)) (.reg [oA 97 (kM 9), oA 98 (.iaar 2 1 (.r 11) (kI 0)), oL 99 98 none, oA 100 (.fadr 0 (.r 3)), oL 101 100 none, oA 102 (.bin .mul (.r 99) (.r 101)), oA 103 (.iaar 2 1 (.r 11) (kI 1)), oL 104 103 none, oA 105 (.bin .add (.r 102) (.r 104)), oA 106 (.bsl 1 1 [.v (.int .i64 0)] [(0, (1, .r 105))]), oA 107 (.app 1 8 (.r 97) (.r 106)), oA 9 (kM 107)])))) (.reg [oA 108 (.bin .add (.r 71) (kI 1)), oA 71 (kM 108)]))))))) (.seq (.reg [oA 109 (kM 9), oA 110 (.fadr 0 (.r 3)), oL 111 110 none, oA 112 (.fadr 0 (.r 3)), oL 113 112 none, oA 114 (.bin .mul (.r 111) (.r 113)), oA 115 (.call 69 [.r 109, .r 114]), oA 116 (.not (.r 115))]) (.cond (.r 116) (.seq (.reg [oA 4 (.mov (kB false))]) .ret) .skip)))))) (.reg [oA 117 (.bin .add (.r 65) (kI 1)), oA 65 (kM 117)]))))))) (.seq (.seq (.reg [oA 118 (.fadr 3 (.r 3)), oL 119 118 none, oT 120 119 (.lenl (.r 119)), oA 121 (.mov (kI 0))]) (.block 6 (.loop (.seq (.reg [oA 122 (.bin .lss (.r 121) (.r 120))]) (.seq (.cond (.r 122) .skip (.exit 6)) (.seq (.block 7 (.seq (.reg [oA 123 (.iasl 1 (.r 119) (.r 121)), oL 124 123 none, oA 13 (kM 124)]) (.seq (.reg [oA 125 (kM 13), oA 126 (.bin .lss (.r 125) (kI 0)), oA 127 (kM 126), ⟨(some 128), (some ((127, false))), none, (kM 13)⟩, ⟨(some 129), (some ((127, false))), none, (.fadr 0 (.r 3))⟩, ⟨(some 130), (some ((127, false))), (some (.r 129)), (.load none (.r 129))⟩, ⟨(some 131), (some ((127, false))), none, (.bin .geq (.r 128) (.r 130))⟩, oA 132 (.pick (.r 127) (kB true) (.r 131))]) (.cond (.r 132) (.seq (.reg [oA 4 (.mov (kB false))]) .ret) .skip)))) (.reg [oA 133 (.bin .add (.r 121) (kI 1)), oA 121 (kM 133)]))))))) (.seq (.reg [oA 4 (.mov (kB true))]) .ret))))))⟩
theorem c43 : cfunc Tryd.prog 43 = some ir43 := by kernel_rfl
theorem k43 : okIR (max 2 ir43.n) ir43.ir = true := by decide +kernel
theorem s_iValid (n : Nms) (hn : n.ok) (i : Itp) (hok : i.ok) (j : JH) : JC Tryd.prog G 43 [.agg n.enc, .agg i.enc] j (RET (BOO (itpOK n i)) j) := by
  obtain ⟨n1, n2, n3⟩ := hn
  have a1 := hok.c1
  have a2 := hok.r1
  have a3 := hok.i1
  have a4 := hok.s
  refine JC.run hmix c43 (by exact k43) ?_
  (try simp only[↓jr,jw,seval,ji,ir43])
  have fls : ∀ {l : List AObj}, itpOK n i = false → @JFIN (ext j []) (ext j l) (.v (.bool false)) ⟨fun y j' => RET (BOO (itpOK n i)) j (.ret y) j'⟩ := by
    intro l h
    refine JFIN.rb ?_
    rw [h]; exact SubB.v
  refine wq.intro (fun h0 => by (try simp only[↓jr,jw,seval,ji]); exact fls (itpOK_hd (by unfold hdOK; omega))) (fun h0 => ?_)
  (try simp only[↓jr,jw,seval,ji])
  refine wq.intro (fun h0 => by (try simp only[↓jr,jw,seval,ji]); exact fls (itpOK_hd (by unfold hdOK; omega))) (fun h0 => ?_)
  (try simp only[↓jr,jw,seval,ji])
  refine wq.intro (fun g0 => ?_) (fun g0 => by (try simp only[↓jr,jw,seval,ji]); exact fls (itpOK_hd (by unfold hdOK; omega)))
  (try simp only[↓jr,jw,seval,ji])
  refine wq.intro (fun g1 => ?_) (fun g1 => by (try simp only[↓jr,jw,seval,ji]); exact fls (itpOK_hd (by unfold hdOK; omega)))
  (try simp only[↓jr,jw,seval,ji])
  refine wq.intro (fun g2 => ?_) (fun g2 => by (try simp only[↓jr,jw,seval,ji]); exact fls (itpOK_hd (by unfold hdOK; omega)))
  have hB : ((i.cons.all fun l => rising l i.size) && i.rols.all (rolOKp i.size) && i.inds.all (inR i.size)) = itpOK n i := by
    unfold itpOK; rw [decide_eq_true (by unfold hdOK; omega), Bool.true_and]
  (try simp only[↓jr,jw,seval,ji])
  refine JLOOP.of (σ := Nat) (fun s => s ≤ (i.cons).length ∧ ((i.cons.drop s).all fun l => rising l i.size) = i.cons.all fun l => rising l i.size) (fun s => (i.cons).length - s) (fun s => [(52, I64 s), (51, I64 i.cons.length), (50, .sl .none i.cons.length (encs IL i.cons)), (2, .ptr (pid j.next 0) 0), (3, .ptr (pid j.next 1) 0)]) (fun s => ext j [.cells 24 n.enc, .cells 29 i.enc]) 0 ⟨Nat.zero_le _, ?_⟩ ?_ (JDropH.refl _) ?_
  · rfl
  · (try simp only[↓jr,jw,seval,ji,DL])
    exact ⟨SubB.v, SubB.v, SubB.sl rfl (SubBs.pure (IL.pur _)), SubB.ptr (by unfold pid; omega), SubB.ptr (by unfold pid; omega)⟩
  rintro k ⟨hk, hI⟩
  try simp only at hk hI
  (try simp only[↓jr,jw,seval,ji])
  refine wq.intro (fun h1 => ?_) (fun h1 => ?_)
  · have hlt : k < (i.cons).length := by omega
    obtain ⟨x, r, hd⟩ : ∃ c_ l_, List.drop k (i.cons) = c_ :: l_ := ⟨_, _, List.drop_eq_getElem_cons hlt⟩
    have hd1 : List.drop (k + 1) (i.cons) = r := by rw [← List.drop_drop, hd]; rfl
    have hmem : x ∈ i.cons := List.mem_of_mem_drop (hd ▸ List.mem_cons_self)
    (try simp only[↓jr,jw,seval,ji,hd])
    refine wc.intro (by omega) ?_
    (try simp only[↓jr,jw,seval,ji,hd])
    rw [hd] at hI
    rw [List.all_cons] at hI
    refine JCs.ret (s_Rising x _ _ (Nat.lt_trans (hok.c2 x hmem).1 (by decide)) _) ?_
    (try simp only[↓jr,jw,seval,ji])
    refine ww.intro (fun g3 => ?_) (fun g3 => by (try simp only[↓jr,jw,seval,ji]); exact fls (by rw [← hB, ← hI, g3]; rfl))
    rw [g3, Bool.true_and] at hI
    (try simp only[↓jr,jw,seval,ji])
    refine wc.intro (R64_add hlt (by omega)) ?_; (try simp only[↓jr,jw,seval,ji])
    refine JNEXT.of (k + 1) ⟨by omega, by rw [hd1]; exact hI⟩ (by omega) ?_ JDropH.nx
    (try simp only[↓jr,jw,seval,ji,DL])
    exact ⟨SubB.v, SubB.v, SubB.sl rfl (SubBs.pure (IL.pur _)), SubB.ptr (by unfold pid; omega), SubB.ptr (by unfold pid; omega)⟩
  rw [List.drop_eq_nil_of_le (by omega), List.all_nil] at hI
  rw [← hI, Bool.true_and] at hB
  clear hI h1 
  (try simp only[↓jr,jw,seval,ji])
  refine JLOOP.of (σ := Nat) (fun s => s ≤ (i.rols).length ∧ ((i.rols.drop s).all (rolOKp i.size)) = i.rols.all (rolOKp i.size)) (fun s => (i.rols).length - s) (fun s => [(65, I64 s), (64, I64 i.rols.length), (63, .sl .none i.rols.length (encs PL i.rols)), (2, .ptr (pid j.next 0) 0), (3, .ptr (pid j.next 1) 0)]) (fun s => ext j [.cells 24 n.enc, .cells 29 i.enc]) 0 ⟨Nat.zero_le _, ?_⟩ ?_ (JDropH.refl _) ?_
  · rfl
  · (try simp only[↓jr,jw,seval,ji,DL])
    exact ⟨SubB.v, SubB.v, SubB.sl rfl (SubBs.pure (PL.pur _)), SubB.ptr (by unfold pid; omega), SubB.ptr (by unfold pid; omega)⟩
  rintro k ⟨hk, hI⟩
  try simp only at hk hI
  (try simp only[↓jr,jw,seval,ji])
  refine wq.intro (fun h1 => ?_) (fun h1 => ?_)
  · have hlt : k < (i.rols).length := by omega
    obtain ⟨x, r, hd⟩ : ∃ c_ l_, List.drop k (i.rols) = c_ :: l_ := ⟨_, _, List.drop_eq_getElem_cons hlt⟩
    have hd1 : List.drop (k + 1) (i.rols) = r := by rw [← List.drop_drop, hd]; rfl
    have hmem : x ∈ i.rols := List.mem_of_mem_drop (hd ▸ List.mem_cons_self)
    (try simp only[↓jr,jw,seval,ji,hd])
    refine wc.intro (by omega) ?_
    (try simp only[↓jr,jw,seval,ji,hd])
    rw [hd] at hI
    rw [List.all_cons] at hI
    obtain ⟨x1, x2⟩ := hok.r2 x hmem
    have bad : ¬ (x.all (prIn i.size) = true) → itpOK n i = false := by
      intro q
      rw [← hB, ← hI, show rolOKp i.size x = false from by unfold rolOKp; rw [Bool.eq_false_iff.2 q]; rfl]; rfl
    refine JLOOP.of (σ := Nat × Tok × JH) (fun s => s.1 ≤ x.length ∧ TokExt j s.2.2 ∧ CanApp j s.2.2 s.2.1 1 s.1 ∧ (x.take s.1).all (prIn i.size) = true) (fun s => x.length - s.1)
      (fun s => [(71, I64 s.1), (70, I64 x.length), (69, .sl .none x.length (encs PR x)), (9, .sl s.2.1 s.1 (ints (flat i.size (x.take s.1)))), (65, I64 k), (64, I64 i.rols.length), (63, .sl .none i.rols.length (encs PL i.rols)), (2, .ptr (pid j.next 0) 0), (3, .ptr (pid j.next 1) 0)])
      (fun s => ext s.2.2 [.cells 24 n.enc, .cells 29 i.enc]) (0, .nil, j) ⟨Nat.zero_le _, TokExt.refl _, CanApp.nil, by simp⟩ ?_ (JDropH.refl _) ?_
    · (try simp only[↓jr,jw,seval,ji,DL])
      exact ⟨SubB.v, SubB.v, SubB.sl rfl (SubBs.pure (PR.pur _)), SubB.pure rfl, SubB.v, SubB.v, SubB.sl rfl (SubBs.pure (PL.pur _)), SubB.ptr (by unfold pid; omega), SubB.ptr (by unfold pid; omega)⟩
    rintro ⟨q, tk, jx⟩ ⟨hq, ht, hc, ha⟩
    simp only at hq ht hc ha
    (try simp only[↓jr,jw,seval,ji,ht.next])
    refine wq.intro (fun g4 => ?_) (fun g4 => ?_)
    · have hltq : q < x.length := by omega
      obtain ⟨p, pr, hpd⟩ : ∃ c_ l_, List.drop q x = c_ :: l_ := ⟨_, _, List.drop_eq_getElem_cons hltq⟩
      (try simp only[↓jr,jw,seval,ji,hpd,ht.next])
      refine wc.intro (by omega) ?_
      have hpm : p ∈ x := List.mem_of_mem_drop (hpd ▸ List.mem_cons_self)
      have flsx : ∀ {l : List AObj}, itpOK n i = false → @JFIN (ext j []) (ext jx l) (.v (.bool false)) ⟨fun y j' => RET (BOO (itpOK n i)) j (.ret y) j'⟩ := by
        intro l h
        rw [h]; exact JFIN.ret (JDropH.back ht).of_ext SubB.v
      have badp : prIn i.size p = false → itpOK n i = false := fun w => bad fun h => by rw [List.all_eq_true] at h; rw [h p hpm] at w; cases w
      have badq : ¬ (0 ≤ p.1 ∧ p.1 < i.size ∧ 0 ≤ p.2 ∧ p.2 < i.size) → itpOK n i = false := fun w => badp (by unfold prIn inR; rw [Bool.eq_false_iff]; intro h; simp only [Bool.and_eq_true, decide_eq_true_eq] at h; omega)
      (try simp only[↓jr,jw,seval,ji,hpd,ht.next])
      refine wq.intro (fun c0 => by (try simp only[↓jr,jw,seval,ji]); exact flsx (badq (by omega))) (fun c0 => ?_)
      (try simp only[↓jr,jw,seval,ji,hpd,ht.next])
      refine wq.intro (fun c1 => by (try simp only[↓jr,jw,seval,ji]); exact flsx (badq (by omega))) (fun c1 => ?_)
      (try simp only[↓jr,jw,seval,ji,hpd,ht.next])
      refine wq.intro (fun c2 => by (try simp only[↓jr,jw,seval,ji]); exact flsx (badq (by omega))) (fun c2 => ?_)
      (try simp only[↓jr,jw,seval,ji,hpd,ht.next])
      refine wq.intro (fun c3 => by (try simp only[↓jr,jw,seval,ji]); exact flsx (badq (by omega))) (fun c3 => ?_)
      obtain ⟨b1, b2⟩ := mulb (s := i.size) (a := p.1) (b := p.2) (by omega) (by omega) (by omega) (by omega) (by omega)
      (try simp only[↓jr,jw,seval,ji,hpd,ht.next])
      refine wr.in b1 ?_
      (try simp only[↓jr,jw,seval,ji,hpd,ht.next])
      refine wc.intro b2 ?_
      (try simp only[↓jr,jw,seval,ji,hpd,ht.next])
      refine JAPP.can' hc.push (ht.push 1) (by rw [ints_len, flat_len, List.length_take, Nat.min_eq_left (by omega)]; omega) rfl rfl (by omega) (by omega) ?_
      intro tok1 j1 hcan ht3 hle
      have hle' : jx.tnext ≤ j1.tnext := Nat.le_trans (Nat.le_succ _) hle
      (try simp only[↓jr,jw,seval,ji,ht3.next])
      refine wc.intro (by unfold R64; omega) ?_
      (try simp only[↓jr,jw,seval,ji,ht3.next])
      have htk : x.take (q + 1) = x.take q ++ [p] := by
        have : x[q]? = some p := by rw [← List.head?_drop, hpd]; rfl
        rw [List.take_add_one, this]; rfl
      have e1 : ints (flat i.size (x.take (q + 1))) = ints (flat i.size (x.take q)) ++ [I64 (p.1 * i.size + p.2)] := by rw [htk]; simp [ints, flat]
      have hpi : prIn i.size p = true := by unfold prIn inR; simp only [Bool.and_eq_true, decide_eq_true_eq]; omega
      refine JNEXT.of (q + 1, tok1, j1) ⟨by simp only; omega, ht3, hcan, by rw [htk, List.all_append, ha]; simp [hpi]⟩ (by simp only; omega) ?_ (JDropH.nextT ht ht3 (TokExt.refl _) hle' ⟨.inl ⟨rfl, rfl⟩, .inl ⟨rfl, rfl⟩, True.intro⟩)
      (try simp only[↓jr,jw,seval,ji,DL,ht3.next])
      rw [e1]
      exact ⟨SubB.v, SubB.v, SubB.sl rfl (SubBs.pure (PR.pur _)), SubB.can hcan (by rw [pures_append, ints_pur]; rfl), SubB.v, SubB.v, SubB.sl rfl (SubBs.pure (PL.pur _)), SubB.ptr (by unfold pid; omega), SubB.ptr (by unfold pid; omega)⟩
    (try simp only[↓jr,jw,seval,ji,ht.next])
    have eq : q = x.length := by omega
    subst eq
    rw [List.take_length] at ha ⊢
    refine wr.in (by unfold R64; have := mulb2 (s := i.size) (by omega) (by omega); omega) ?_
    (try simp only[↓jr,jw,seval,ji,ht.next])
    have er := s_Rising (G := G) (flat i.size x) tk (i.size * i.size) (by rw [flat_len]; omega) (ext jx [.cells 24 n.enc, .cells 29 i.enc])
    rw [flat_len] at er
    refine JCs.ret er ?_
    (try simp only[↓jr,jw,seval,ji,ht.next])
    have exx : rolOKp i.size x = rising (flat i.size x) (i.size * i.size) := by unfold rolOKp; rw [ha, Bool.true_and]
    rw [exx] at hI
    refine ww.intro (fun g5 => ?_) (fun g5 => ?_)
    · rw [g5, Bool.true_and] at hI
      (try simp only[↓jr,jw,seval,ji,ht.next])
      refine wc.intro (R64_add hlt (by omega)) ?_; (try simp only[↓jr,jw,seval,ji])
      refine JNEXT.of (k + 1) ⟨by omega, by rw [hd1]; exact hI⟩ (by omega) ?_ (JDropH.next0 ht ⟨.inl ⟨rfl, rfl⟩, .inl ⟨rfl, rfl⟩, True.intro⟩)
      (try simp only[↓jr,jw,seval,ji,DL])
      exact ⟨SubB.v, SubB.v, SubB.sl rfl (SubBs.pure (PL.pur _)), SubB.ptr (by unfold pid; omega), SubB.ptr (by unfold pid; omega)⟩
    · (try simp only[↓jr,jw,seval,ji,ht.next])
      rw [← hB, ← hI, g5]
      exact JFIN.ret (JDropH.back ht).of_ext SubB.v
  rw [List.drop_eq_nil_of_le (by omega), List.all_nil] at hI
  rw [← hI, Bool.true_and] at hB
  clear hI h1 
  (try simp only[↓jr,jw,seval,ji])
  refine JLOOP.of (σ := Nat) (fun s => s ≤ (i.inds).length ∧ ((i.inds.drop s).all (inR i.size)) = i.inds.all (inR i.size)) (fun s => (i.inds).length - s) (fun s => [(121, I64 s), (120, I64 i.inds.length), (119, .sl .none i.inds.length (ints i.inds)), (2, .ptr (pid j.next 0) 0), (3, .ptr (pid j.next 1) 0)]) (fun s => ext j [.cells 24 n.enc, .cells 29 i.enc]) 0 ⟨Nat.zero_le _, ?_⟩ ?_ (JDropH.refl _) ?_
  · rfl
  · (try simp only[↓jr,jw,seval,ji,DL])
    exact ⟨SubB.v, SubB.v, SubB.sl rfl (SubBs.pure (ints_pur _)), SubB.ptr (by unfold pid; omega), SubB.ptr (by unfold pid; omega)⟩
  rintro k ⟨hk, hI⟩
  try simp only at hk hI
  (try simp only[↓jr,jw,seval,ji])
  refine wq.intro (fun h1 => ?_) (fun h1 => ?_)
  · have hlt : k < (i.inds).length := by omega
    obtain ⟨x, r, hd⟩ : ∃ c_ l_, List.drop k (i.inds) = c_ :: l_ := ⟨_, _, List.drop_eq_getElem_cons hlt⟩
    have hd1 : List.drop (k + 1) (i.inds) = r := by rw [← List.drop_drop, hd]; rfl
    have hmem : x ∈ i.inds := List.mem_of_mem_drop (hd ▸ List.mem_cons_self)
    (try simp only[↓jr,jw,seval,ji,hd])
    refine wc.intro (by omega) ?_
    (try simp only[↓jr,jw,seval,ji,hd])
    rw [hd] at hI
    rw [List.all_cons] at hI
    have bad : ¬ (0 ≤ x ∧ x < i.size) → itpOK n i = false := by
      intro q
      rw [← hB, ← hI]
      have : inR i.size x = false := by unfold inR; rw [Bool.and_eq_false_iff, decide_eq_false_iff_not, decide_eq_false_iff_not]; omega
      rw [this]; rfl
    refine wq.intro (fun g3 => by (try simp only[↓jr,jw,seval,ji]); exact fls (bad (by omega))) (fun g3 => ?_)
    (try simp only[↓jr,jw,seval,ji])
    refine wq.intro (fun g4 => by (try simp only[↓jr,jw,seval,ji]); exact fls (bad (by omega))) (fun g4 => ?_)
    have hx : inR i.size x = true := by unfold inR; rw [decide_eq_true (by omega), decide_eq_true (by omega)]; rfl
    rw [hx, Bool.true_and] at hI
    (try simp only[↓jr,jw,seval,ji])
    refine wc.intro (R64_add hlt (by omega)) ?_; (try simp only[↓jr,jw,seval,ji])
    refine JNEXT.of (k + 1) ⟨by omega, by rw [hd1]; exact hI⟩ (by omega) ?_ JDropH.nx
    (try simp only[↓jr,jw,seval,ji,DL])
    exact ⟨SubB.v, SubB.v, SubB.sl rfl (SubBs.pure (ints_pur _)), SubB.ptr (by unfold pid; omega), SubB.ptr (by unfold pid; omega)⟩
  rw [List.drop_eq_nil_of_le (by omega), List.all_nil] at hI
  (try simp only[↓jr,jw,seval,ji])
  refine JFIN.rb ?_
  rw [← hB, ← hI]; exact SubB.v
end
end Go.Proofs.YtnkkeenclhncmaaDoor.Pg
