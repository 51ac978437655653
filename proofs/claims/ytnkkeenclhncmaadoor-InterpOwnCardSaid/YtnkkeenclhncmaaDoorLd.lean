/-
  Names, as the reference tells them.
-/
import Derived.Test.YtnkkeenclhncmaaDoorLb
set_option linter.unusedVariables false
set_option linter.unusedSimpArgs false
set_option maxRecDepth 20000
set_option maxHeartbeats 8000000
namespace Go.Proofs.YtnkkeenclhncmaaDoor.Pg
open Go
variable {G : Nat → Option (List AV)}
def resW : List ByteArray := [⟨#[116, 111, 112]⟩, ⟨#[98, 111, 116]⟩, ⟨#[110, 111, 116]⟩, ⟨#[97, 110, 100]⟩, ⟨#[111, 114]⟩, ⟨#[115, 111, 109, 101]⟩, ⟨#[97, 108, 108]⟩, ⟨#[99, 111, 110, 99, 101, 112, 116]⟩, ⟨#[114, 111, 108, 101]⟩, ⟨#[105, 110, 100]⟩]
def resB (s : ByteArray) : Bool := resW.any fun t => decide (s = t)
def nameOK (s : ByteArray) : Bool := decide (s.size ≤ 12) && word (bs s) && !resB s
/-- The first place of a string, or -1. -/
def findS : List ByteArray → ByteArray → Int
  | [], _ => -1
  | t :: l, s => if s = t then 0 else if findS l s = -1 then -1 else findS l s + 1
theorem findS_ge : ∀ (l : List ByteArray) (s : ByteArray), -1 ≤ findS l s
  | [], _ => by simp [findS]
  | t :: l, s => by
    have := findS_ge l s
    simp only [findS]; split
    · omega
    · split <;> omega
/-- Names, each valid and new. -/
def newsOK : List ByteArray → List ByteArray → Bool
  | _, [] => true
  | seen, s :: l => nameOK s && !decide (0 ≤ findS seen s) && newsOK (seen ++ [s]) l
def Nms.lists (n : Nms) : List (List ByteArray) := [n.cs, n.rs, n.is]
def namesOK (n : Nms) : Bool := decide (n.cs.length ≤ 16) && decide (n.rs.length ≤ 6) && decide (n.is.length ≤ 10) && newsOK [] (n.cs ++ n.rs ++ n.is)
def Nms.short (n : Nms) : Prop := ∀ l ∈ n.lists, ∀ s ∈ l, s.size < 4611686018427387904
def fewNames (n : Nms) : Bool := n.lists.all fun l => decide (l.length ≤ 100) && l.all fun s => decide (s.size ≤ 100)
theorem newsOK_flat (n : Nms) : n.cs ++ n.rs ++ n.is = n.lists.flatten := by simp [Nms.lists]
theorem lists_len (n : Nms) : n.lists.length = 3 := rfl
theorem lists_enc (n : Nms) : encs SE n.lists = [.sl .none n.cs.length (strs n.cs), .sl .none n.rs.length (strs n.rs), .sl .none n.is.length (strs n.is)] := rfl
theorem lists_ok {n : Nms} (h : n.ok) : ∀ l ∈ n.lists, l.length < 4611686018427387904 := by
  intro l hl
  simp only [Nms.lists, List.mem_cons, List.not_mem_nil, or_false] at hl
  obtain ⟨h1, h2, h3⟩ := h
  rcases hl with rfl | rfl | rfl <;> assumption
def fewF (l : List ByteArray) : Bool := decide (l.length ≤ 100) && l.all fun s => decide (s.size ≤ 100)
def ir35 : IFn := ⟨33, [⟨2, none⟩], (.seq (.reg [oA 1 (.box 24 (.r 0)), oA 2 (.mov (kB false))]) (.seq (.seq (.reg [oA 7 (.fadr 0 (.r 1)), oL 8 7 none, oA 9 (.fadr 1 (.r 1)), oL 10 9 none, oA 11 (.fadr 2 (.r 1)), oL 12 11 none, oA 13 (.bsl 3 1 [.sl .nil 0 []] [(0, (1, .r 8)), (1, (1, .r 10)), (2, (1, .r 12))]), oT 14 13 (.lenl (.r 13)), oA 15 (.mov (kI 0))]) (.block 0 (.loop (.seq (.reg [oA 16 (.bin .lss (.r 15) (.r 14))]) (.seq (.cond (.r 16) .skip (.exit 0)) (.seq (.block 1 (.seq (.reg [oA 17 (.iasl 1 (.r 13) (.r 15)), oL 18 17 none, oA 4 (kM 18)]) (.seq (.seq (.reg [oA 19 (kM 4), oT 20 19 (.lenl (.r 19)), oA 21 (.bin .gtr (.r 20) (kI 100))]) (.cond (.r 21) (.seq (.reg [oA 2 (.mov (kB false))]) .ret) .skip)) (.seq (.reg [oA 22 (kM 4), oT 23 22 (.lenl (.r 22)), oA 24 (.mov (kI 0))]) (.block 2 (.loop (.seq (.reg [oA 25 (.bin .lss (.r 24) (.r 23))]) (.seq (.cond (.r 25) .skip (.exit 2)) (.seq (.block 3 (.seq (.reg [oA 26 (.iasl 1 (.r 22) (.r 24)), oL 27 26 none, oA 6 (kM 27)]) (.seq (.reg [oA 28 (kM 6), oT 29 28 (.lens (.r 28)), oA 30 (.bin .gtr (.r 29) (kI 100))]) (.cond (.r 30) (.seq (.reg [oA 2 (.mov (kB false))]) .ret) .skip)))) (.reg [oA 31 (.bin .add (.r 24) (kI 1)), oA 24 (kM 31)])))))))))) (.reg [oA 32 (.bin .add (.r 15) (kI 1)), oA 15 (kM 32)]))))))) (.seq (.reg [oA 2 (.mov (kB true))]) .ret)))⟩
theorem c35 : cfunc Tryd.prog 35 = some ir35 := by kernel_rfl
theorem k35 : okIR (max 1 ir35.n) ir35.ir = true := by decide +kernel
theorem s_FewNames (n : Nms) (hn : n.ok) (hs : n.short) (j : JH) : JC Tryd.prog G 35 [.agg n.enc] j (RET (BOO (fewNames n)) j) := by
  refine JC.run hmix c35 (by exact k35) ?_
  (try simp only[↓jr,jw,seval,ir35])
  refine JLOOP.of (σ := Nat) (fun k => k ≤ 3 ∧ (n.lists.drop k).all fewF = fewNames n) (fun k => 3 - k)
      (fun k => [(15, I64 k), (14, I64 3), (13, .sl .none 3 (encs SE n.lists))]) (fun k => ext (j.pushTok 3) [.cells 24 n.enc]) 0 ⟨by omega, rfl⟩ ?_ (JDropH.refl _) ?_
  · rw [lists_enc]; ((try simp only[↓jr,jw,seval,DL]) <;> exact sbq)
  · rintro k ⟨hk, hI⟩
    (try simp only[↓jr,jw,seval])
    refine wq.intro (fun h1 => ?_) (fun h1 => ?_)
    · have h1' : k < n.lists.length := by rw [lists_len]; omega
      have hlt : k < (n.lists).length := by omega
      obtain ⟨l, r, hd⟩ : ∃ c_ l_, List.drop k (n.lists) = c_ :: l_ := ⟨_, _, List.drop_eq_getElem_cons hlt⟩
      have hd1 : List.drop (k + 1) (n.lists) = r := by rw [← List.drop_drop, hd]; rfl
      have hmem : l ∈ n.lists := List.mem_of_mem_drop (hd ▸ List.mem_cons_self)
      have hlo := lists_ok hn l hmem
      (try simp only[↓jr,jw,seval,hd,je,lists_len])
      rw [hd] at hI
      simp only [List.all_cons] at hI
      refine wc.intro (by omega) ?_
      (try simp only[↓jr,jw,seval,hd,je])
      refine wq.intro (fun h2 => ?_) (fun h2 => ?_)
      · (try simp only[↓jr,jw,seval])
        refine JFIN.rb ?_
        have : fewF l = false := by unfold fewF; rw [decide_eq_false (by omega), Bool.false_and]
        rw [← hI, this, Bool.false_and]; exact SubB.v
      · (try simp only[↓jr,jw,seval])
        have hf : fewF l = l.all fun s => decide (s.size ≤ 100) := by unfold fewF; rw [decide_eq_true (by omega), Bool.true_and]
        refine JLOOP.of (σ := Nat) (fun i => i ≤ l.length ∧ ((l.drop i).all fun s => decide (s.size ≤ 100)) = fewF l) (fun i => l.length - i)
          (fun i => [(24, I64 i), (23, I64 l.length), (22, .sl .none l.length (strs l)), (15, I64 k), (14, I64 3), (13, .sl .none 3 (encs SE n.lists))]) (fun i => ext (j.pushTok 3) [.cells 24 n.enc]) 0 ⟨by omega, hf.symm⟩ ?_ (JDropH.refl _) ?_
        · (try simp only[↓jr,jw,seval,DL])
          refine ⟨SubB.v, SubB.v, SubB.pure (by simp only [AV.pure]; exact strs_pur _), SubB.v, SubB.v, SubB.pure (by simp only [AV.pure]; exact SE.pur _)⟩
        · rintro i ⟨hi, hJ⟩
          (try simp only[↓jr,jw,seval])
          refine wq.intro (fun h3 => ?_) (fun h3 => ?_)
          · have hlt2 : i < l.length := by omega
            obtain ⟨s, q, hd2⟩ : ∃ s q, l.drop i = s :: q := ⟨_, _, List.drop_eq_getElem_cons hlt2⟩
            have hd3 : l.drop (i + 1) = q := by rw [← List.drop_drop, hd2]; rfl
            (try simp only[↓jr,jw,seval,hd2])
            rw [hd2] at hJ
            simp only [List.all_cons] at hJ
            refine wc.intro (by omega) ?_
            (try simp only[↓jr,jw,seval,hd2])
            refine wq.intro (fun h4 => ?_) (fun h4 => ?_)
            · (try simp only[↓jr,jw,seval])
              refine JFIN.rb ?_
              rw [decide_eq_false (by omega), Bool.false_and] at hJ
              rw [← hI, ← hJ, Bool.false_and]; exact SubB.v
            · (try simp only[↓jr,jw,seval])
              refine wc.intro (R64_add hlt2 hlo) ?_
              (try simp only[↓jr,jw,seval])
              rw [decide_eq_true (by omega), Bool.true_and] at hJ
              refine JNEXT.of (i + 1) ⟨by omega, by rw [hd3, hJ]⟩ (by omega) ?_ JDropH.nx
              (try simp only[↓jr,jw,seval,DL])
              refine ⟨SubB.v, SubB.v, SubB.pure (by simp only [AV.pure]; exact strs_pur _), SubB.v, SubB.v, SubB.pure (by simp only [AV.pure]; exact SE.pur _)⟩
          · (try simp only[↓jr,jw,seval])
            rw [List.drop_eq_nil_of_le (by omega)] at hJ
            simp only [List.all_nil] at hJ
            rw [← hJ, Bool.true_and] at hI
            refine wc.intro (by unfold R64; omega) ?_
            (try simp only[↓jr,jw,seval])
            refine JNEXT.of (k + 1) ⟨by omega, by rw [hd1, hI]⟩ (by omega) ?_ JDropH.nx
            (try simp only[↓jr,jw,seval,DL])
            refine ⟨SubB.v, SubB.v, SubB.pure (by simp only [AV.pure]; exact SE.pur _)⟩
    · (try simp only[↓jr,jw,seval])
      refine JFIN.rb ?_
      rw [List.drop_eq_nil_of_le (by rw [lists_len]; omega)] at hI
      simp only [List.all_nil] at hI
      rw [← hI]; exact SubB.v
theorem newsOK_len : ∀ (n : Nms), n.cs.length ≤ 16 → n.rs.length ≤ 6 → n.is.length ≤ 10 → n.lists.flatten.length ≤ 32 := by
  intro n h1 h2 h3; rw [← newsOK_flat]; simp; omega
theorem short_mem {n : Nms} (h : n.short) {l : List ByteArray} (hl : l ∈ n.lists) {s : ByteArray} (hs : s ∈ l) : s.size < 4611686018427387904 := h l hl s hs
theorem strs_append (l m : List ByteArray) : strs (l ++ m) = strs l ++ strs m := by simp [strs]
end Go.Proofs.YtnkkeenclhncmaaDoor.Pg
