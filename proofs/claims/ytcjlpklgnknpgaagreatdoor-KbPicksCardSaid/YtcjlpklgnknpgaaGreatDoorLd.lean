/-
  Names, as the reference tells them.
-/
import Derived.Test.YtcjlpklgnknpgaaGreatDoorLb
set_option linter.unusedVariables false
set_option linter.unusedSimpArgs false
set_option maxRecDepth 20000
set_option maxHeartbeats 8000000
namespace Go.Proofs.YtcjlpklgnknpgaaGreatDoor.Pg
open Go
variable {G : Nat → Option (List AV)}
def resW : List ByteArray := [⟨#[116, 111, 112]⟩, ⟨#[98, 111, 116]⟩, ⟨#[110, 111, 116]⟩, ⟨#[97, 110, 100]⟩, ⟨#[111, 114]⟩, ⟨#[115, 111, 109, 101]⟩, ⟨#[97, 108, 108]⟩, ⟨#[99, 111, 110, 99, 101, 112, 116]⟩, ⟨#[114, 111, 108, 101]⟩, ⟨#[105, 110, 100]⟩]
def resB (s : ByteArray) : Bool := resW.any fun t => decide (s = t)
noncomputable def ir91 : IFn := ⟨15, [⟨2, none⟩], (.seq (.reg [oA 2 (.mov (kB false))]) (.seq (.seq (.reg [oA 3 (kM 0)]) (.block 0 (.seq (.seq (.reg [oA 5 (.bin .eql (.r 3) (.k (.v (.string ⟨#[116, 111, 112]⟩)))), oA 4 (kM 5)]) (.cond (.r 4) .skip (.seq (.reg [oA 6 (.bin .eql (.r 3) (.k (.v (.string ⟨#[98, 111, 116]⟩)))), oA 4 (kM 6)]) (.cond (.r 4) .skip (.seq (.reg [oA 7 (.bin .eql (.r 3) (.k (.v (.string ⟨#[110, 111, 116]⟩)))), oA 4 (kM 7)]) (.cond (.r 4) .skip (.seq (.reg [oA 8 (.bin .eql (.r 3) (.k (.v (.string ⟨#[97, 110, 100]⟩)))), oA 4 (kM 8)]) (.cond (.r 4) .skip (.seq (.reg [oA 9 (.bin .eql (.r 3) (.k (.v (.string ⟨#[111, 114]⟩)))), oA 4 (kM 9)]) (.cond (.r 4) .skip (.seq (.reg [oA 10 (.bin .eql (.r 3) (.k (.v (.string ⟨#[115, 111, 109, 101]⟩)))), oA 4 (kM 10)]) (.cond (.r 4) .skip (.seq (.reg [oA 11 (.bin .eql (.r 3) (.k (.v (.string ⟨#[97, 108, 108]⟩)))), oA 4 (kM 11)]) (.cond (.r 4) .skip (.seq (.reg [oA 12 (.bin .eql (.r 3) (.k (.v (.string ⟨#[99, 111, 110, 99, 101, 112, 116]⟩)))), oA 4 (kM 12)]) (.cond (.r 4) .skip (.seq (.reg [oA 13 (.bin .eql (.r 3) (.k (.v (.string ⟨#[114, 111, 108, 101]⟩)))), oA 4 (kM 13)]) (.cond (.r 4) .skip (.reg [oA 14 (.bin .eql (.r 3) (.k (.v (.string ⟨#[105, 110, 100]⟩)))), oA 4 (kM 14)]))))))))))))))))))) (.cond (.r 4) (.seq (.reg [oA 2 (.mov (kB true))]) .ret) .skip)))) (.seq (.reg [oA 2 (.mov (kB false))]) .ret)))⟩
theorem c91 : cfunc Tryz.prog 91 = some ir91 := by kernel_rfl
theorem k91 : okIR (max 1 ir91.n) ir91.ir = true := by decide +kernel
theorem s_Reserved (s : ByteArray) (j : JH) : JC Tryz.prog G 91 [STR s] j (RET (BOO (resB s)) j) := by
 refine JC.run hmix c91 (by exact k91) ?_
 (try simp only[↓jr,jw,seval,ir91])
 repeat' ((first | refine wq.intro (fun _ => ?_) (fun _ => ?_) | refine ww.intro (fun _ => ?_) (fun _ => ?_) | refine wc.intro (by first | omega | (unfold R64; omega) | trivial) ?_ | refine wr.in (by unfold R64; omega) ?_) <;> first | contradiction | (try simp only[↓jr,jw,seval]))
 all_goals refine JFIN.rb ?_
 all_goals unfold resB resW
 all_goals simp only [List.any_cons, List.any_nil, *, Bool.or_true, Bool.true_or, Bool.or_false, Bool.false_or, decide_true, decide_false]
 all_goals exact SubB.v
def nameOK (s : ByteArray) : Bool := decide (s.size ≤ 12) && word (bs s) && !resB s
noncomputable def ir133 : IFn := ⟨15, [⟨2, none⟩], (.seq (.reg [oA 2 (.mov (kB false))]) (.seq (.reg [oA 3 (kM 0), oT 4 3 (.lens (.r 3)), oA 5 (.bin .leq (.r 4) (kI 12)), oA 6 (kM 5), ⟨(some 7), (some ((6, true))), none, (kM 0)⟩, ⟨(some 8), (some ((6, true))), (some (.r 7)), (.call 90 [.r 7])⟩, oA 9 (.pick (.r 6) (.r 8) (kB false)), oA 10 (kM 9), ⟨(some 11), (some ((10, true))), none, (kM 0)⟩, ⟨(some 12), (some ((10, true))), (some (.r 11)), (.call 91 [.r 11])⟩, ⟨(some 13), (some ((10, true))), none, (.not (.r 12))⟩, oA 14 (.pick (.r 10) (.r 13) (kB false)), oA 2 (kM 14)]) .ret))⟩
theorem c133 : cfunc Tryz.prog 133 = some ir133 := by kernel_rfl
theorem k133 : okIR (max 1 ir133.n) ir133.ir = true := by decide +kernel
theorem s_rName (s : ByteArray) (j : JH) (hs : s.size < 4611686018427387904) : JC Tryz.prog G 133 [STR s] j (RET (BOO (nameOK s)) j) := by
 refine JC.run hmix c133 (by exact k133) ?_
 (try simp only[↓jr,jw,seval,ir133])
 refine wq.intro (fun h1 => ?_) (fun h1 => ?_)
 ·have h1' : s.size ≤ 12 := by omega
  (try simp only[↓jr,jw,seval])
  refine JCs.ret (s_Word _ _ hs) ?_
  (try simp only[↓jr,jw,seval])
  refine ww.intro (fun h2 => ?_) (fun h2 => ?_)
  ·(try simp only[↓jr,jw,seval])
   refine JCs.ret (s_Reserved _ _) ?_
   (try simp only[↓jr,jw,seval])
   refine JFIN.rb ?_
   unfold nameOK
   rw [decide_eq_true h1', h2, Bool.true_and, Bool.true_and]; exact SubB.v
  ·(try simp only[↓jr,jw,seval])
   refine JFIN.rb ?_
   unfold nameOK
   rw [h2, Bool.and_false, Bool.false_and]; exact SubB.v
 ·(try simp only[↓jr,jw,seval])
  refine JFIN.rb ?_
  unfold nameOK
  rw [decide_eq_false (by omega : ¬ s.size ≤ 12), Bool.false_and, Bool.false_and]; exact SubB.v
def findS : List ByteArray → ByteArray → Int
 | [], _ => -1
 | t :: l, s => if s = t then 0 else if findS l s = -1 then -1 else findS l s + 1
theorem findS_ge : ∀ (l : List ByteArray) (s : ByteArray), -1 ≤ findS l s
 | [], _ => by simp [findS]
 | t :: l, s => by
  have := findS_ge l s
  simp only [findS]; split
  ·omega
  ·split <;> omega
noncomputable def ir134 : IFn := ⟨19, [⟨4, none⟩], (.seq (.reg [oA 4 (.mov (kI 0))]) (.seq (.seq (.reg [oA 7 (kM 0), oT 8 7 (.lenl (.r 7)), oA 9 (.mov (kI 0))]) (.block 0 (.loop (.seq (.reg [oA 10 (.bin .lss (.r 9) (.r 8))]) (.seq (.cond (.r 10) .skip (.exit 0)) (.seq (.block 1 (.seq (.reg [oA 11 (kM 9), oA 12 (.iasl 1 (.r 7) (.r 9)), oL 13 12 none, oA 5 (kM 11), oA 6 (kM 13)]) (.seq (.reg [oA 14 (kM 1), oA 15 (kM 6), oA 16 (.bin .eql (.r 14) (.r 15))]) (.cond (.r 16) (.seq (.reg [oA 17 (kM 5), oA 4 (kM 17)]) .ret) .skip)))) (.reg [oA 18 (.bin .add (.r 9) (kI 1)), oA 9 (kM 18)]))))))) (.seq (.reg [oA 4 (.mov (kI (-1)))]) .ret)))⟩
theorem c134 : cfunc Tryz.prog 134 = some ir134 := by kernel_rfl
theorem k134 : okIR (max 2 ir134.n) ir134.ir = true := by decide +kernel
theorem s_Find (l : List ByteArray) (s : ByteArray) (tok : Tok) (j : JH) (hl : l.length < 4611686018427387904) : JC Tryz.prog G 134 [.sl tok l.length (strs l), STR s] j (RET (I64 (findS l s)) j) := by
 refine JC.run hmix c134 (by exact k134) ?_
 (try simp only[↓jr,jw,seval,ir134])
 refine JLOOP.of (σ := Nat) (fun k => k ≤ l.length ∧ findS l s = if findS (l.drop k) s = -1 then -1 else findS (l.drop k) s + k) (fun k => l.length - k)
   (fun k => [(9, I64 k), (8, I64 l.length), (7, .sl .none l.length (strs l)), (1, STR s)]) (fun k => ext j []) 0 ⟨by omega, by simp⟩ ?_ (JDropH.refl _) ?_
 ·((try simp only[↓jr,jw,seval,DL]) <;> exact sbq)
 ·rintro k ⟨hk, hI⟩
  (try simp only[↓jr,jw,seval])
  refine wq.intro (fun h1 => ?_) (fun h1 => ?_)
  ·have hlt : k < (l).length := by omega
   obtain ⟨t, r, hd⟩ : ∃ c_ l_, List.drop k (l) = c_ :: l_ := ⟨_, _, List.drop_eq_getElem_cons hlt⟩
   have hd1 : List.drop (k + 1) (l) = r := by rw [← List.drop_drop, hd]; rfl
   have hmem : t ∈ l := List.mem_of_mem_drop (hd ▸ List.mem_cons_self)
   (try simp only[↓jr,jw,seval,hd])
   rw [hd] at hI
   simp only [findS] at hI
   refine wc.intro (by omega) ?_
   (try simp only[↓jr,jw,seval,hd])
   refine wq.intro (fun h2 => ?_) (fun h2 => ?_)
   ·(try simp only[↓jr,jw,seval])
    refine JFIN.rb ?_
    simp [h2] at hI
    rw [h2, hI]; exact SubB.v
   ·(try simp only[↓jr,jw,seval])
    refine wc.intro (R64_add hlt hl) ?_
    (try simp only[↓jr,jw,seval])
    refine JNEXT.of (k + 1) ⟨by omega, ?_⟩ (by omega) ?_ (JDropH.refl _)
    ·rw [hd1, hI]
     have := findS_ge r s
     by_cases h3 : findS r s = -1
     ·simp [h2, h3]
     ·simp only [h2, if_false, h3]
      split <;> omega
    ·((try simp only[↓jr,jw,seval,DL]) <;> exact sbq)
  ·(try simp only[↓jr,jw,seval])
   refine JFIN.rb ?_
   rw [List.drop_eq_nil_of_le (by omega)] at hI
   simp only [findS, if_true] at hI
   rw [hI]; exact SubB.v
def newsOK : List ByteArray → List ByteArray → Bool
 | _, [] => true
 | seen, s :: l => nameOK s && !decide (0 ≤ findS seen s) && newsOK (seen ++ [s]) l
def Nms.lists (n : Nms) : List (List ByteArray) := [n.cs, n.rs, n.is]
def namesOK (n : Nms) : Bool := decide (n.cs.length ≤ 16) && decide (n.rs.length ≤ 6) && decide (n.is.length ≤ 10) && newsOK [] (n.cs ++ n.rs ++ n.is)
def Nms.short (n : Nms) : Prop := ∀ l ∈ n.lists, ∀ s ∈ l, s.size < 4611686018427387904
def fewNames (n : Nms) : Bool := n.lists.all fun l => decide (l.length ≤ 100) && l.all fun s => decide (s.size ≤ 100)
theorem newsOK_flat (n : Nms) : n.cs ++ n.rs ++ n.is = n.lists.flatten := by simp [Nms.lists]
theorem lists_len (n : Nms) : n.lists.length = 3 := rfl
theorem lists_enc (n : Nms) : encs SE n.lists = [.sl .none n.cs.length (strs n.cs), .sl .none n.rs.length (strs n.rs), .sl .none n.is.length (strs n.is)] := rfl
theorem lists_ok {n : Nms} (h : n.ok) : ∀ l ∈ n.lists, l.length < 4611686018427387904 := by
 intro l hl
 simp only [Nms.lists, List.mem_cons, List.not_mem_nil, or_false] at hl
 obtain ⟨h1, h2, h3⟩ := h
 rcases hl with rfl | rfl | rfl <;> assumption
def fewF (l : List ByteArray) : Bool := decide (l.length ≤ 100) && l.all fun s => decide (s.size ≤ 100)
noncomputable def ir31 : IFn := ⟨33, [⟨2, none⟩], (.seq (.reg [oA 1 (.box 24 (.r 0)), oA 2 (.mov (kB false))]) (.seq (.seq (.reg [oA 7 (.fadr 0 (.r 1)), oL 8 7 none, oA 9 (.fadr 1 (.r 1)), oL 10 9 none, oA 11 (.fadr 2 (.r 1)), oL 12 11 none, oA 13 (.bsl 3 1 [.sl .nil 0 []] [(0, (1, .r 8)), (1, (1, .r 10)), (2, (1, .r 12))]), oT 14 13 (.lenl (.r 13)), oA 15 (.mov (kI 0))]) (.block 0 (.loop (.seq (.reg [oA 16 (.bin .lss (.r 15) (.r 14))]) (.seq (.cond (.r 16) .skip (.exit 0)) (.seq (.block 1 (.seq (.reg [oA 17 (.iasl 1 (.r 13) (.r 15)), oL 18 17 none, oA 4 (kM 18)]) (.seq (.seq (.reg [oA 19 (kM 4), oT 20 19 (.lenl (.r 19)), oA 21 (.bin .gtr (.r 20) (kI 100))]) (.cond (.r 21) (.seq (.reg [oA 2 (.mov (kB false))]) .ret) .skip)) (.seq (.reg [oA 22 (kM 4), oT 23 22 (.lenl (.r 22)), oA 24 (.mov (kI 0))]) (.block 2 (.loop (.seq (.reg [oA 25 (.bin .lss (.r 24) (.r 23))]) (.seq (.cond (.r 25) .skip (.exit 2)) (.seq (.block 3 (.seq (.reg [oA 26 (.iasl 1 (.r 22) (.r 24)), oL 27 26 none, oA 6 (kM 27)]) (.seq (.reg [oA 28 (kM 6), oT 29 28 (.lens (.r 28)), oA 30 (.bin .gtr (.r 29) (kI 100))]) (.cond (.r 30) (.seq (.reg [oA 2 (.mov (kB false))]) .ret) .skip)))) (.reg [oA 31 (.bin .add (.r 24) (kI 1)), oA 24 (kM 31)])))))))))) (.reg [oA 32 (.bin .add (.r 15) (kI 1)), oA 15 (kM 32)]))))))) (.seq (.reg [oA 2 (.mov (kB true))]) .ret)))⟩
theorem c31 : cfunc Tryz.prog 31 = some ir31 := by kernel_rfl
theorem k31 : okIR (max 1 ir31.n) ir31.ir = true := by decide +kernel
theorem s_FewNames (n : Nms) (hn : n.ok) (hs : n.short) (j : JH) : JC Tryz.prog G 31 [.agg n.enc] j (RET (BOO (fewNames n)) j) := by
 refine JC.run hmix c31 (by exact k31) ?_
 (try simp only[↓jr,jw,seval,ir31])
 refine JLOOP.of (σ := Nat) (fun k => k ≤ 3 ∧ (n.lists.drop k).all fewF = fewNames n) (fun k => 3 - k)
   (fun k => [(15, I64 k), (14, I64 3), (13, .sl .none 3 (encs SE n.lists))]) (fun k => ext (j.pushTok 3) [.cells 24 n.enc]) 0 ⟨by omega, rfl⟩ ?_ (JDropH.refl _) ?_
 ·rw [lists_enc]; ((try simp only[↓jr,jw,seval,DL]) <;> exact sbq)
 ·rintro k ⟨hk, hI⟩
  (try simp only[↓jr,jw,seval])
  refine wq.intro (fun h1 => ?_) (fun h1 => ?_)
  ·have h1' : k < n.lists.length := by rw [lists_len]; omega
   have hlt : k < (n.lists).length := by omega
   obtain ⟨l, r, hd⟩ : ∃ c_ l_, List.drop k (n.lists) = c_ :: l_ := ⟨_, _, List.drop_eq_getElem_cons hlt⟩
   have hd1 : List.drop (k + 1) (n.lists) = r := by rw [← List.drop_drop, hd]; rfl
   have hmem : l ∈ n.lists := List.mem_of_mem_drop (hd ▸ List.mem_cons_self)
   have hlo := lists_ok hn l hmem
   (try simp only[↓jr,jw,seval,hd,je,lists_len])
   rw [hd] at hI
   simp only [List.all_cons] at hI
   refine wc.intro (by omega) ?_
   (try simp only[↓jr,jw,seval,hd,je])
   refine wq.intro (fun h2 => ?_) (fun h2 => ?_)
   ·(try simp only[↓jr,jw,seval])
    refine JFIN.rb ?_
    have : fewF l = false := by unfold fewF; rw [decide_eq_false (by omega), Bool.false_and]
    rw [← hI, this, Bool.false_and]; exact SubB.v
   ·(try simp only[↓jr,jw,seval])
    have hf : fewF l = l.all fun s => decide (s.size ≤ 100) := by unfold fewF; rw [decide_eq_true (by omega), Bool.true_and]
    refine JLOOP.of (σ := Nat) (fun i => i ≤ l.length ∧ ((l.drop i).all fun s => decide (s.size ≤ 100)) = fewF l) (fun i => l.length - i)
     (fun i => [(24, I64 i), (23, I64 l.length), (22, .sl .none l.length (strs l)), (15, I64 k), (14, I64 3), (13, .sl .none 3 (encs SE n.lists))]) (fun i => ext (j.pushTok 3) [.cells 24 n.enc]) 0 ⟨by omega, hf.symm⟩ ?_ (JDropH.refl _) ?_
    ·(try simp only[↓jr,jw,seval,DL])
     refine ⟨SubB.v, SubB.v, SubB.pure (by simp only [AV.pure]; exact strs_pur _), SubB.v, SubB.v, SubB.pure (by simp only [AV.pure]; exact SE.pur _)⟩
    ·rintro i ⟨hi, hJ⟩
     (try simp only[↓jr,jw,seval])
     refine wq.intro (fun h3 => ?_) (fun h3 => ?_)
     ·have hlt2 : i < l.length := by omega
      obtain ⟨s, q, hd2⟩ : ∃ s q, l.drop i = s :: q := ⟨_, _, List.drop_eq_getElem_cons hlt2⟩
      have hd3 : l.drop (i + 1) = q := by rw [← List.drop_drop, hd2]; rfl
      (try simp only[↓jr,jw,seval,hd2])
      rw [hd2] at hJ
      simp only [List.all_cons] at hJ
      refine wc.intro (by omega) ?_
      (try simp only[↓jr,jw,seval,hd2])
      refine wq.intro (fun h4 => ?_) (fun h4 => ?_)
      ·(try simp only[↓jr,jw,seval])
       refine JFIN.rb ?_
       rw [decide_eq_false (by omega), Bool.false_and] at hJ
       rw [← hI, ← hJ, Bool.false_and]; exact SubB.v
      ·(try simp only[↓jr,jw,seval])
       refine wc.intro (R64_add hlt2 hlo) ?_
       (try simp only[↓jr,jw,seval])
       rw [decide_eq_true (by omega), Bool.true_and] at hJ
       refine JNEXT.of (i + 1) ⟨by omega, by rw [hd3, hJ]⟩ (by omega) ?_ JDropH.nx
       (try simp only[↓jr,jw,seval,DL])
       refine ⟨SubB.v, SubB.v, SubB.pure (by simp only [AV.pure]; exact strs_pur _), SubB.v, SubB.v, SubB.pure (by simp only [AV.pure]; exact SE.pur _)⟩
     ·(try simp only[↓jr,jw,seval])
      rw [List.drop_eq_nil_of_le (by omega)] at hJ
      simp only [List.all_nil] at hJ
      rw [← hJ, Bool.true_and] at hI
      refine wc.intro (by unfold R64; omega) ?_
      (try simp only[↓jr,jw,seval])
      refine JNEXT.of (k + 1) ⟨by omega, by rw [hd1, hI]⟩ (by omega) ?_ JDropH.nx
      (try simp only[↓jr,jw,seval,DL])
      refine ⟨SubB.v, SubB.v, SubB.pure (by simp only [AV.pure]; exact SE.pur _)⟩
  ·(try simp only[↓jr,jw,seval])
   refine JFIN.rb ?_
   rw [List.drop_eq_nil_of_le (by rw [lists_len]; omega)] at hI
   simp only [List.all_nil] at hI
   rw [← hI]; exact SubB.v
theorem newsOK_len : ∀ (n : Nms), n.cs.length ≤ 16 → n.rs.length ≤ 6 → n.is.length ≤ 10 → n.lists.flatten.length ≤ 32 := by
 intro n h1 h2 h3; rw [← newsOK_flat]; simp; omega
theorem short_mem {n : Nms} (h : n.short) {l : List ByteArray} (hl : l ∈ n.lists) {s : ByteArray} (hs : s ∈ l) : s.size < 4611686018427387904 := h l hl s hs
theorem strs_append (l m : List ByteArray) : strs (l ++ m) = strs l ++ strs m := by simp [strs]
theorem strs_one (s : ByteArray) : strs [s] = [.v (.string s)] := rfl
noncomputable def ir85 : IFn := ⟨57, [⟨2, none⟩], (.seq (.reg [oA 1 (.box 24 (.r 0)), oA 2 (.mov (kB false))]) (.seq (.seq (.reg [oA 8 (.fadr 0 (.r 1)), oL 9 8 none, oT 10 9 (.lenl (.r 9)), oA 11 (.bin .gtr (.r 10) (kI 16)), oA 12 (kM 11), ⟨(some 13), (some ((12, false))), none, (.fadr 1 (.r 1))⟩, ⟨(some 14), (some ((12, false))), (some (.r 13)), (.load none (.r 13))⟩, ⟨(some 15), (some ((12, false))), (some (.r 14)), (.lenl (.r 14))⟩, ⟨(some 16), (some ((12, false))), none, (.bin .gtr (.r 15) (kI 6))⟩, oA 17 (.pick (.r 12) (kB true) (.r 16)), oA 18 (kM 17), ⟨(some 19), (some ((18, false))), none, (.fadr 2 (.r 1))⟩, ⟨(some 20), (some ((18, false))), (some (.r 19)), (.load none (.r 19))⟩, ⟨(some 21), (some ((18, false))), (some (.r 20)), (.lenl (.r 20))⟩, ⟨(some 22), (some ((18, false))), none, (.bin .gtr (.r 21) (kI 10))⟩, oA 23 (.pick (.r 18) (kB true) (.r 22))]) (.cond (.r 23) (.seq (.reg [oA 2 (.mov (kB false))]) .ret) .skip)) (.seq (.reg [oA 3 (.mov (.k (.sl .nil 0 [])))]) (.seq (.seq (.reg [oA 24 (.fadr 0 (.r 1)), oL 25 24 none, oA 26 (.fadr 1 (.r 1)), oL 27 26 none, oA 28 (.fadr 2 (.r 1)), oL 29 28 none, oA 30 (.bsl 3 1 [.sl .nil 0 []] [(0, (1, .r 25)), (1, (1, .r 27)), (2, (1, .r 29))]), oT 31 30 (.lenl (.r 30)), oA 32 (.mov (kI 0))]) (.block 0 (.loop (.seq (.reg [oA 33 (.bin .lss (.r 32) (.r 31))]) (.seq (.cond (.r 33) .skip (.exit 0)) (.seq (.block 1 (.seq (.reg [oA 34 (.iasl 1 (.r 30) (.r 32)), oL 35 34 none, oA 5 (kM 35)]) (.seq (.reg [oA 36 (kM 5), oT 37 36 (.lenl (.r 36)), oA 38 (.mov (kI 0))]) (.block 2 (.loop (.seq (.reg [oA 39 (.bin .lss (.r 38) (.r 37))]) (.seq (.cond (.r 39) .skip (.exit 2)) (.seq (.block 3 (.seq (.reg [oA 40 (.iasl 1 (.r 36) (.r 38)), oL 41 40 none, oA 7 (kM 41)]) (.seq (.seq (.reg [oA 42 (kM 7), oT 43 42 (.call 133 [.r 42]), oA 44 (.not (.r 43)), oA 45 (kM 44), ⟨(some 46), (some ((45, false))), none, (kM 3)⟩, ⟨(some 47), (some ((45, false))), none, (kM 7)⟩, ⟨(some 48), (some ((45, false))), none, (.call 134 [.r 46, .r 47])⟩, ⟨(some 49), (some ((45, false))), none, (.bin .geq (.r 48) (kI 0))⟩, oA 50 (.pick (.r 45) (kB true) (.r 49))]) (.cond (.r 50) (.seq (.reg [oA 2 (.mov (kB false))]) .ret) .skip)) (.reg [oA 51 (kM 3), oA 52 (kM 7), oA 53 (.bsl 1 1 [.v (.string ⟨#[]⟩)] [(0, (1, .r 52))]), oA 54 (.app 1 16 (.r 51) (.r 53)), oA 3 (kM 54)])))) (.reg [oA 55 (.bin .add (.r 38) (kI 1)), oA 38 (kM 55)]))))))))) (.reg [oA 56 (.bin .add (.r 32) (kI 1)), oA 32 (kM 56)]))))))) (.seq (.reg [oA 2 (.mov (kB true))]) .ret)))))⟩
theorem c85 : cfunc Tryz.prog 85 = some ir85 := by kernel_rfl
theorem k85 : okIR (max 1 ir85.n) ir85.ir = true := by decide +kernel
theorem s_rNames (n : Nms) (hn : n.ok) (hs : n.short) (j : JH) : JC Tryz.prog G 85 [.agg n.enc] j (RET (BOO (namesOK n)) j) := by
 refine JC.run hmix c85 (by exact k85) ?_
 (try simp only[↓jr,jw,seval,ir85])
 repeat' ((first | refine wq.intro (fun _ => ?_) (fun _ => ?_) | refine ww.intro (fun _ => ?_) (fun _ => ?_) | refine wc.intro (by first | omega | (unfold R64; omega) | trivial) ?_ | refine wr.in (by unfold R64; omega) ?_) <;> first | contradiction | (try simp only[↓jr,jw,seval]))
 ·refine JFIN.rb ?_
  unfold namesOK; rw [decide_eq_false (by omega : ¬ n.cs.length ≤ 16)]; exact SubB.v
 ·refine JFIN.rb ?_
  unfold namesOK; rw [decide_eq_false (by omega : ¬ n.rs.length ≤ 6), Bool.and_false]; exact SubB.v
 ·refine JFIN.rb ?_
  unfold namesOK; rw [decide_eq_false (by omega : ¬ n.is.length ≤ 10), Bool.and_false]; exact SubB.v
 rename_i b1 b2 b3
 have hL := newsOK_len n (by omega) (by omega) (by omega)
 have hN : namesOK n = newsOK [] n.lists.flatten := by
  unfold namesOK
  rw [decide_eq_true (by omega : n.cs.length ≤ 16), decide_eq_true (by omega : n.rs.length ≤ 6), decide_eq_true (by omega : n.is.length ≤ 10), newsOK_flat]; rfl
 have hF : ∀ {jx : JH} {l : List AObj}, TokExt j jx → newsOK [] n.lists.flatten = false → @JFIN (ext j []) (ext jx l) (.v (.bool false)) ⟨fun y j' => RET (BOO (namesOK n)) j (.ret y) j'⟩ := by
  intro jx l ht h
  refine JFIN.ret ((JDropH.back ht).of_ext) ?_
  rw [hN, h]; exact SubB.v
 refine JLOOP.of (σ := Nat × List ByteArray × Tok × JH) (fun s => s.1 ≤ 3 ∧ TokExt j s.2.2.2 ∧ CanApp j s.2.2.2 s.2.2.1 1 s.2.1.length ∧ s.2.1.length + (n.lists.drop s.1).flatten.length = n.lists.flatten.length ∧ newsOK s.2.1 (n.lists.drop s.1).flatten = newsOK [] n.lists.flatten) (fun s => 3 - s.1)
   (fun s => [(32, I64 s.1), (31, I64 3), (30, .sl .none 3 (encs SE n.lists)), (3, .sl s.2.2.1 s.2.1.length (strs s.2.1))]) (fun s => ext s.2.2.2 [.cells 24 n.enc]) (0, [], .nil, j.pushTok 3) ⟨by omega, tkq, CanApp.nil, by simp, by simp⟩ ?_ (JDropH.refl _) ?_
 ·rw [lists_enc]; ((try simp only[↓jr,jw,seval,DL]) <;> exact sbq)
 ·rintro ⟨k, seen, tok, jx⟩ ⟨hk, ht, hc, hlen, hI⟩
  simp only at hk ht hc hlen hI
  (try simp only[↓jr,jw,seval])
  refine wq.intro (fun h1 => ?_) (fun h1 => ?_)
  ·have h1' : k < n.lists.length := by rw [lists_len]; omega
   have hlt : k < (n.lists).length := by omega
   obtain ⟨l, r, hd⟩ : ∃ c_ l_, List.drop k (n.lists) = c_ :: l_ := ⟨_, _, List.drop_eq_getElem_cons hlt⟩
   have hd1 : List.drop (k + 1) (n.lists) = r := by rw [← List.drop_drop, hd]; rfl
   have hmem : l ∈ n.lists := List.mem_of_mem_drop (hd ▸ List.mem_cons_self)
   have hlo := lists_ok hn l hmem
   (try simp only[↓jr,jw,seval,hd,je,lists_len])
   rw [hd] at hI hlen
   simp only [List.flatten_cons, List.length_append] at hI hlen
   refine wc.intro (by omega) ?_
   (try simp only[↓jr,jw,seval,hd,je])
   refine JLOOP.of (σ := Nat × List ByteArray × Tok × JH) (fun s => s.1 ≤ l.length ∧ TokExt j s.2.2.2 ∧ CanApp j s.2.2.2 s.2.2.1 1 s.2.1.length ∧ jx.tnext ≤ s.2.2.2.tnext ∧ s.2.1.length + (l.drop s.1).length + r.flatten.length = n.lists.flatten.length ∧ newsOK s.2.1 (l.drop s.1 ++ r.flatten) = newsOK [] n.lists.flatten) (fun s => l.length - s.1)
     (fun s => [(38, I64 s.1), (37, I64 l.length), (36, .sl .none l.length (strs l)), (32, I64 k), (31, I64 3), (30, .sl .none 3 (encs SE n.lists)), (3, .sl s.2.2.1 s.2.1.length (strs s.2.1))]) (fun s => ext s.2.2.2 [.cells 24 n.enc]) (0, seen, tok, jx)
     ⟨by omega, ht, hc, Nat.le_refl _, by simp only [List.drop_zero]; omega, by simpa using hI⟩ ?_ (JDropH.refl _) ?_
   ·(try simp only[↓jr,jw,seval,DL])
    exact ⟨SubB.v, SubB.v, SubB.pure (by simp only [AV.pure]; exact strs_pur _), SubB.v, SubB.v, SubB.pure (by simp only [AV.pure]; exact SE.pur _), SubB.can hc (strs_pur _)⟩
   ·rintro ⟨i, sn, tk, jy⟩ ⟨hi, ht2, hc2, hjx, hlen2, hJ⟩
    simp only at hi ht2 hc2 hjx hlen2 hJ
    (try simp only[↓jr,jw,seval])
    refine wq.intro (fun h3 => ?_) (fun h3 => ?_)
    ·have hlt2 : i < l.length := by omega
     obtain ⟨s, q, hd2⟩ : ∃ s q, l.drop i = s :: q := ⟨_, _, List.drop_eq_getElem_cons hlt2⟩
     have hd3 : l.drop (i + 1) = q := by rw [← List.drop_drop, hd2]; rfl
     have hsm : s ∈ l := List.mem_of_mem_drop (hd2 ▸ List.mem_cons_self)
     (try simp only[↓jr,jw,seval,hd2])
     rw [hd2] at hJ hlen2
     simp only [List.cons_append, newsOK, List.length_cons] at hJ hlen2
     refine wc.intro (by omega) ?_
     (try simp only[↓jr,jw,seval,hd2])
     refine JCs.ret (s_rName s _ (short_mem hs hmem hsm)) ?_
     (try simp only[↓jr,jw,seval])
     refine ww.intro (fun h4 => ?_) (fun h4 => ?_)
     ·(try simp only[↓jr,jw,seval])
      refine JCs.ret (s_Find sn s tk _ (by omega)) ?_
      (try simp only[↓jr,jw,seval])
      refine wq.intro (fun h5 => ?_) (fun h5 => ?_)
      ·(try simp only[↓jr,jw,seval])
       refine hF ht2 ?_
       rw [← hJ, decide_eq_true h5]; simp
      ·(try simp only[↓jr,jw,seval])
       refine JAPP.can hc2.push (ht2.push 1) (by simp [d_len7]) (by simp) (by simp [AV.one]) (by omega) (by omega) (by omega) ?_
       intro tok1 j1 hcan ht3 hle
       (try simp only[↓jr,jw,seval])
       refine wc.intro (R64_add hlt2 hlo) ?_
       (try simp only[↓jr,jw,seval])
       rw [h4, decide_eq_false h5] at hJ
       simp only [Bool.not_false, Bool.true_and] at hJ
       have e1 : (sn ++ [s]).length = sn.length + 1 := by simp
       have e2 : strs (sn ++ [s]) = strs sn ++ [.v (.string s)] := by rw [strs_append, strs_one]
       have hle' : jy.tnext ≤ j1.tnext := Nat.le_trans (Nat.le_succ _) hle
       refine JNEXT.of (i + 1, sn ++ [s], tok1, j1) ⟨by simp only; omega, ht3, by rw [e1]; exact hcan, Nat.le_trans hjx hle', by simp only [hd3, e1]; omega, by simp only [hd3]; exact hJ⟩ (by simp only; omega) ?_ (JDropH.nextT ht2 ht3 (TokExt.refl _) hle' (by simp only [LSub, and_self, true_or, and_true]))
       (try simp only[↓jr,jw,seval,DL,e1,e2])
       refine ⟨SubB.v, SubB.v, SubB.pure (by simp only [AV.pure]; exact strs_pur _), SubB.v, SubB.v, SubB.pure (by simp only [AV.pure]; exact SE.pur _), SubB.can hcan (by rw [pures_append, strs_pur]; rfl)⟩
     ·(try simp only[↓jr,jw,seval])
      refine hF ht2 ?_
      rw [← hJ, h4]; simp
    ·(try simp only[↓jr,jw,seval])
     rw [List.drop_eq_nil_of_le (by omega)] at hJ hlen2
     simp only [List.nil_append, List.length_nil] at hJ hlen2
     refine wc.intro (by unfold R64; omega) ?_
     (try simp only[↓jr,jw,seval])
     refine JNEXT.of (k + 1, sn, tk, jy) ⟨by simp only; omega, ht2, hc2, by simp only [hd1]; omega, by simp only [hd1]; exact hJ⟩ (by simp only; omega) ?_ (JDropH.nextT ht ht2 (TokExt.refl _) hjx (by simp only [LSub, and_self, true_or, and_true]))
     (try simp only[↓jr,jw,seval,DL])
     refine ⟨SubB.v, SubB.v, SubB.pure (by simp only [AV.pure]; exact SE.pur _), SubB.can hc2 (strs_pur _)⟩
  ·(try simp only[↓jr,jw,seval])
   refine JFIN.ret ((JDropH.back ht).of_ext) ?_
   rw [List.drop_eq_nil_of_le (by rw [lists_len]; omega)] at hI
   simp only [List.flatten_nil, newsOK] at hI
   rw [hN, ← hI]; exact SubB.v
end Go.Proofs.YtcjlpklgnknpgaaGreatDoor.Pg
