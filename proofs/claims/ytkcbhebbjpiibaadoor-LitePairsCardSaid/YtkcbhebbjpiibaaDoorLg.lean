/-
  concept.ValidNames; validity of a concept as the program counts it.
-/
import Derived.Test.YtkcbhebbjpiibaaDoorLf
set_option linter.unusedVariables false
set_option linter.unusedSimpArgs false
set_option maxRecDepth 20000
set_option maxHeartbeats 8000000
namespace Go.Proofs.YtkcbhebbjpiibaaDoor.Pg
open Go
open Nat renaming reduceEqDiff → zA, reduceAdd → zB, reduceMul → zC, reduceSub → zD, reduceLT → zE, reduceLeDiff → zF
open Int renaming reduceAdd → zG, reduceSub → zH, reduceMul → zI, reduceNeg → zJ, reduceToNat → zK, reduceEq → zL, reduceLT → zM, reduceLE → zN
variable {m : Int}
def mapS (l : List ByteArray) : List (Value × AV) := l.map fun s => (.string s, .v (.bool true))
theorem ba_beq (s t : ByteArray) : (s == t) = decide (s = t) := by
  cases s with | mk a => cases t with | mk b =>
  have : (ByteArray.mk a == ByteArray.mk b) = (a == b) := rfl
  rw [this]; by_cases h : a = b
  · subst h; simp
  · simp [h]
theorem afind_mapS (s : ByteArray) : ∀ (l : List ByteArray) (i : Nat), afind .string (.string s) (mapS l) i = some (if 0 ≤ findS l s then some (i + (findS l s).toNat, .v (.bool true)) else none)
  | [], i => by simp [mapS, afind, findS]
  | t :: l, i => by
    have ih := afind_mapS s l (i + 1)
    have hge := findS_ge l s
    simp only [mapS, List.map_cons, afind] at ih ⊢
    have e : Instr.sameNow .string (.string s) (.string t) = some (decide (s = t)) := by rw [← ba_beq]; rfl
    rw [e]
    simp only [findS]
    by_cases h : s = t
    · subst h
      simp
    · simp only [h, decide_false, if_false]
      rw [ih]
      by_cases h2 : findS l s = -1
      · simp [h2]
      · have h3 : 0 ≤ findS l s := by omega
        have h4 : 0 ≤ findS l s + 1 := by omega
        simp only [h2, if_false, h3, if_true, h4]
        congr 3; omega
theorem lookup_mapS {C : Nat → Option AObj} {o : Nat} {l : List ByteArray} {s : ByteArray} (h : C o = some (.map (mapS l))) : ilookup C .string (.v (.bool false)) false (.mp o) (.v (.string s)) = some (.v (.bool (decide (0 ≤ findS l s)))) := by
  simp only [ilookup, mapOf, h, lit, afind_mapS]
  by_cases h2 : 0 ≤ findS l s <;> simp [h2]
theorem JMAPUP.new {j : JH} {o : Nat} {l : List ByteArray} {s : ByteArray} {K : JH → Prop} (h : j.get o = some (.map (mapS l))) (hn : ¬ 0 ≤ findS l s) (k : K (j.set o (.map (mapS (l ++ [s]))))) : @JMAPUP j .string (.mp o) (.v (.string s)) (.v (.bool true)) ⟨K⟩ := by
  unfold JMAPUP jmapup
  simp only [lit, wv_some, h, afind_mapS, hn, if_false]
  have e : mapS (l ++ [s]) = mapS l ++ [(.string s, .v (.bool true))] := by simp [mapS]
  rw [← e]; exact k
theorem mapS_pur : ∀ l : List ByteArray, AV.pures ((mapS l).map (·.2)) = true
  | [] => rfl
  | s :: l => by
    have := mapS_pur l
    simp only [mapS, List.map_cons, AV.pures, AV.pure, Bool.true_and] at this ⊢; exact this
theorem OSub.mapS {no nt : Nat} {l : List ByteArray} : OSub no nt (.map (mapS l)) (.map (mapS l)) := ⟨rfl, SubBs.pure (mapS_pur l)⟩
def ir90 : IFn := ⟨47, [⟨2, none⟩], (.seq (.reg [⟨(some 1), none, none, (.box 24 (.r 0))⟩, ⟨(some 2), none, none, (.mov (.k (.v (.bool false))))⟩]) (.seq (.seq (.reg [⟨(some 6), none, none, (.fadr 0 (.r 1))⟩, ⟨(some 7), none, (some (.r 6)), (.load none (.r 6))⟩, ⟨(some 8), none, (some (.r 7)), (.lenl (.r 7))⟩, ⟨(some 9), none, none, (.bin .gtr (.r 8) (.k (.v (.int .i64 16))))⟩, ⟨(some 10), none, none, (.mov (.r 9))⟩, ⟨(some 11), (some ((10, false))), none, (.fadr 1 (.r 1))⟩, ⟨(some 12), (some ((10, false))), (some (.r 11)), (.load none (.r 11))⟩, ⟨(some 13), (some ((10, false))), (some (.r 12)), (.lenl (.r 12))⟩, ⟨(some 14), (some ((10, false))), none, (.bin .gtr (.r 13) (.k (.v (.int .i64 6))))⟩, ⟨(some 15), none, none, (.pick (.r 10) (.k (.v (.bool true))) (.r 14))⟩, ⟨(some 16), none, none, (.mov (.r 15))⟩, ⟨(some 17), (some ((16, false))), none, (.fadr 2 (.r 1))⟩, ⟨(some 18), (some ((16, false))), (some (.r 17)), (.load none (.r 17))⟩, ⟨(some 19), (some ((16, false))), (some (.r 18)), (.lenl (.r 18))⟩, ⟨(some 20), (some ((16, false))), none, (.bin .gtr (.r 19) (.k (.v (.int .i64 10))))⟩, ⟨(some 21), none, none, (.pick (.r 16) (.k (.v (.bool true))) (.r 20))⟩]) (.cond (.r 21) (.seq (.reg [⟨(some 2), none, none, (.mov (.k (.v (.bool false))))⟩]) .ret) .skip)) (.seq (.reg [⟨(some 22), none, none, .mkmap⟩, ⟨(some 3), none, none, (.mov (.r 22))⟩]) (.seq (.seq (.reg [⟨(some 23), none, none, (.fadr 0 (.r 1))⟩, ⟨(some 24), none, (some (.r 23)), (.load none (.r 23))⟩, ⟨(some 25), none, none, (.fadr 1 (.r 1))⟩, ⟨(some 26), none, (some (.r 25)), (.load none (.r 25))⟩, ⟨(some 27), none, none, (.fadr 2 (.r 1))⟩, ⟨(some 28), none, (some (.r 27)), (.load none (.r 27))⟩, ⟨(some 29), none, none, (.bsl 3 1 [.sl .nil 0 []] [(0, (1, .r 24)), (1, (1, .r 26)), (2, (1, .r 28))])⟩, ⟨(some 30), none, (some (.r 29)), (.call 98 [.r 29])⟩, ⟨(some 31), none, (some (.r 30)), (.lenl (.r 30))⟩, ⟨(some 32), none, none, (.mov (.k (.v (.int .i64 0))))⟩]) (.block 0 (.loop (.seq (.reg [⟨(some 33), none, none, (.bin .lss (.r 32) (.r 31))⟩]) (.seq (.cond (.r 33) .skip (.exit 0)) (.seq (.block 1 (.seq (.reg [⟨(some 34), none, none, (.iasl 1 (.r 30) (.r 32))⟩, ⟨(some 35), none, (some (.r 34)), (.load none (.r 34))⟩, ⟨(some 5), none, none, (.mov (.r 35))⟩]) (.seq (.seq (.reg [⟨(some 36), none, none, (.mov (.r 5))⟩, ⟨(some 37), none, (some (.r 36)), (.call 99 [.r 36])⟩, ⟨(some 38), none, none, (.not (.r 37))⟩, ⟨(some 39), none, none, (.mov (.r 38))⟩, ⟨(some 40), (some ((39, false))), none, (.mov (.r 3))⟩, ⟨(some 41), (some ((39, false))), none, (.mov (.r 5))⟩, ⟨(some 42), (some ((39, false))), (some (.r 40)), (.lookup .string (.v (.bool false)) false (.r 40) (.r 41))⟩, ⟨(some 43), none, none, (.pick (.r 39) (.k (.v (.bool true))) (.r 42))⟩]) (.cond (.r 43) (.seq (.reg [⟨(some 2), none, none, (.mov (.k (.v (.bool false))))⟩]) .ret) .skip)) (.reg [⟨(some 44), none, none, (.mov (.r 3))⟩, ⟨(some 45), none, none, (.mov (.r 5))⟩, ⟨none, none, none, (.mapup .string (.r 44) (.r 45) (.k (.v (.bool true))))⟩])))) (.reg [⟨(some 46), none, none, (.bin .add (.r 32) (.k (.v (.int .i64 1))))⟩, ⟨(some 32), none, none, (.mov (.r 46))⟩]))))))) (.seq (.reg [⟨(some 2), none, none, (.mov (.k (.v (.bool true))))⟩]) .ret)))))⟩
theorem c90 : cfunc Tryd.prog 90 = some ir90 := by kernel_rfl
theorem k90 : okIR (max 1 ir90.n) ir90.ir = true := by decide +kernel
theorem s_ValidNames (n : Nms) (hn : n.ok) (hs : n.short) (j : JH) : JC Tryd.prog (GG m) 90 [.agg n.enc] j (RET (BOO (namesOK n)) j) := by
  refine JC.run hmix c90 (by exact k90) ?_
  (try simp only [↓jr, jp, jd, jz, zA, zB, zC, zD, zE, zF, zG, zH, zI, zJ, zK, zL, zM, zN, reduceIte, ir90])
  repeat' (first | (refine wq.intro (fun _ => ?_) (fun _ => ?_) <;> first | contradiction | (try simp only [↓jr, jp, jd, jz, zA, zB, zC, zD, zE, zF, zG, zH, zI, zJ, zK, zL, zM, zN, reduceIte])) | (refine ww.intro (fun _ => ?_) (fun _ => ?_) <;> first | contradiction | (try simp only [↓jr, jp, jd, jz, zA, zB, zC, zD, zE, zF, zG, zH, zI, zJ, zK, zL, zM, zN, reduceIte])) | (refine wc.intro (by first | omega | (unfold R64; omega) | trivial) ?_; (try simp only [↓jr, jp, jd, jz, zA, zB, zC, zD, zE, zF, zG, zH, zI, zJ, zK, zL, zM, zN, reduceIte])) | (refine wr.in (by unfold R64; omega) ?_; (try simp only [↓jr, jp, jd, jz, zA, zB, zC, zD, zE, zF, zG, zH, zI, zJ, zK, zL, zM, zN, reduceIte])))
  · refine JFIN.ret ((JDropH.back (by repeat' (first | exact TokExt.refl _ | refine TokExt.push ?_ _ | refine TokExt.setT ?_ (by first | exact Nat.le_refl _ | (simp only [pushTok_tnext, setTok_tnext, ext_tnext, set_tnext]; omega)) _))).of_ext) ?_
    unfold namesOK; rw [decide_eq_false (by omega : ¬ n.cs.length ≤ 16)]; exact SubB.v
  · refine JFIN.ret ((JDropH.back (by repeat' (first | exact TokExt.refl _ | refine TokExt.push ?_ _ | refine TokExt.setT ?_ (by first | exact Nat.le_refl _ | (simp only [pushTok_tnext, setTok_tnext, ext_tnext, set_tnext]; omega)) _))).of_ext) ?_
    unfold namesOK; rw [decide_eq_false (by omega : ¬ n.rs.length ≤ 6), Bool.and_false]; exact SubB.v
  · refine JFIN.ret ((JDropH.back (by repeat' (first | exact TokExt.refl _ | refine TokExt.push ?_ _ | refine TokExt.setT ?_ (by first | exact Nat.le_refl _ | (simp only [pushTok_tnext, setTok_tnext, ext_tnext, set_tnext]; omega)) _))).of_ext) ?_
    unfold namesOK; rw [decide_eq_false (by omega : ¬ n.is.length ≤ 10), Bool.and_false]; exact SubB.v
  rename_i b1 b2 b3
  have hL := newsOK_len n (by omega) (by omega) (by omega)
  have hN : namesOK n = newsOK [] n.lists.flatten := by
    unfold namesOK
    rw [decide_eq_true (by omega : n.cs.length ≤ 16), decide_eq_true (by omega : n.rs.length ≤ 6), decide_eq_true (by omega : n.is.length ≤ 10), newsOK_flat]; rfl
  have hcc := s_Concat (G := GG m) n.lists (.own j.tnext 0 1) (ext (j.pushTok 3) [.cells 24 n.enc, .map []]) (by rw [lists_len]; omega) (by omega)
  rw [lists_enc, lists_len] at hcc
  refine JCs.ret hcc ?_
  (try simp only [↓jr, jp, jd, jz, zA, zB, zC, zD, zE, zF, zG, zH, zI, zJ, zK, zL, zM, zN, reduceIte])
  have hF : ∀ {l : List AObj}, newsOK [] n.lists.flatten = false → @JFIN (ext j []) (ext (j.pushTok 3) l) (.v (.bool false)) ⟨fun y j' => RET (BOO (namesOK n)) j (.ret y) j'⟩ := by
    intro l h
    refine JFIN.ret ((JDropH.back (by repeat' (first | exact TokExt.refl _ | refine TokExt.push ?_ _ | refine TokExt.setT ?_ (by first | exact Nat.le_refl _ | (simp only [pushTok_tnext, setTok_tnext, ext_tnext, set_tnext]; omega)) _))).of_ext) ?_
    rw [hN, h]; exact SubB.v
  refine JLOOP.of (σ := Nat × List ByteArray) (fun s => s.1 ≤ n.lists.flatten.length ∧ newsOK s.2 (n.lists.flatten.drop s.1) = newsOK [] n.lists.flatten) (fun s => n.lists.flatten.length - s.1)
      (fun s => [(32, I64 s.1), (31, I64 n.lists.flatten.length), (30, .sl .none n.lists.flatten.length (strs n.lists.flatten)), (3, .mp (pid j.next 1))]) (fun s => ext (j.pushTok 3) [.cells 24 n.enc, .map (mapS s.2)]) (0, []) ⟨by omega, by simp⟩ ?_ (JDropH.refl _) ?_
  · ((try simp only [↓jr, jp, jd, jz, zA, zB, zC, zD, zE, zF, zG, zH, zI, zJ, zK, zL, zM, zN, reduceIte, DL]) <;> (repeat' (first | exact trivial | refine And.intro ?_ ?_ | exact SubB.v | exact SubB.any | ((first | refine SubB.ptr ?_ | refine SubB.arr ?_ | refine SubB.mp ?_) <;> first | assumption | (unfold pid; omega)) | ((first | refine SubB.pure ?_ | refine SubBs.pure ?_) <;> (simp only [AV.pure, AV.pures, pures_append, jpu, Bool.and_self, Bool.and_true, Bool.true_and]; done)) | refine SubB.fn ?_ ?_ | refine SubB.sl ?_ ?_ | refine SubB.agg ?_ | refine SubB.tup ?_ | rfl)))
  · rintro ⟨k, seen⟩ ⟨hk, hI⟩
    simp only at hk hI
    (try simp only [↓jr, jp, jd, jz, zA, zB, zC, zD, zE, zF, zG, zH, zI, zJ, zK, zL, zM, zN, reduceIte])
    refine wq.intro (fun h1 => ?_) (fun h1 => ?_)
    · have hlt : k < (n.lists.flatten).length := by omega
      obtain ⟨s, r, hd⟩ : ∃ c_ l_, List.drop k (n.lists.flatten) = c_ :: l_ := ⟨_, _, List.drop_eq_getElem_cons hlt⟩
      have hd1 : List.drop (k + 1) (n.lists.flatten) = r := by rw [← List.drop_drop, hd]; rfl
      have hmem : s ∈ n.lists.flatten := List.mem_of_mem_drop (hd ▸ List.mem_cons_self)
      (try simp only [↓jr, jp, jd, jz, zA, zB, zC, zD, zE, zF, zG, zH, zI, zJ, zK, zL, zM, zN, reduceIte, hd])
      rw [hd] at hI
      simp only [newsOK] at hI
      refine wc.intro (by omega) ?_
      (try simp only [↓jr, jp, jd, jz, zA, zB, zC, zD, zE, zF, zG, zH, zI, zJ, zK, zL, zM, zN, reduceIte, hd])
      have hsz : s.size < 4611686018427387904 := by
        obtain ⟨l, hl, hsl⟩ := List.mem_flatten.1 hmem
        exact short_mem hs hl hsl
      refine JCs.ret (s_Name s _ hsz) ?_
      (try simp only [↓jr, jp, jd, jz, zA, zB, zC, zD, zE, zF, zG, zH, zI, zJ, zK, zL, zM, zN, reduceIte])
      refine ww.intro (fun h2 => ?_) (fun h2 => ?_)
      · have hg : (ext (j.pushTok 3) [.cells 24 n.enc, .map (mapS seen)]).get (pid j.next 1) = some (.map (mapS seen)) := by (try simp only [↓jr, jp, jd, jz, zA, zB, zC, zD, zE, zF, zG, zH, zI, zJ, zK, zL, zM, zN, reduceIte])
        (try simp only [↓jr, jp, jd, jz, zA, zB, zC, zD, zE, zF, zG, zH, zI, zJ, zK, zL, zM, zN, reduceIte, lookup_mapS hg])
        refine wq.intro (fun h3 => ?_) (fun h3 => ?_)
        · (try simp only [↓jr, jp, jd, jz, zA, zB, zC, zD, zE, zF, zG, zH, zI, zJ, zK, zL, zM, zN, reduceIte])
          refine hF ?_
          rw [← hI, decide_eq_true h3]; simp
        · (try simp only [↓jr, jp, jd, jz, zA, zB, zC, zD, zE, zF, zG, zH, zI, zJ, zK, zL, zM, zN, reduceIte])
          refine JMAPUP.new hg h3 ?_
          (try simp only [↓jr, jp, jd, jz, zA, zB, zC, zD, zE, zF, zG, zH, zI, zJ, zK, zL, zM, zN, reduceIte])
          refine wc.intro (by unfold R64; omega) ?_
          (try simp only [↓jr, jp, jd, jz, zA, zB, zC, zD, zE, zF, zG, zH, zI, zJ, zK, zL, zM, zN, reduceIte])
          rw [h2, decide_eq_false h3] at hI
          simp only [Bool.not_false, Bool.true_and] at hI
          refine JNEXT.of (k + 1, seen ++ [s]) ⟨by simp only; omega, by simp only [hd1]; exact hI⟩ (by simp only; omega) ?_ (JDropH.next0 (TokExt.refl _) ⟨.inl ⟨rfl, rfl⟩, .inr OSub.mapS, trivial⟩)
          ((try simp only [↓jr, jp, jd, jz, zA, zB, zC, zD, zE, zF, zG, zH, zI, zJ, zK, zL, zM, zN, reduceIte, DL]) <;> (repeat' (first | exact trivial | refine And.intro ?_ ?_ | exact SubB.v | exact SubB.any | ((first | refine SubB.ptr ?_ | refine SubB.arr ?_ | refine SubB.mp ?_) <;> first | assumption | (unfold pid; omega)) | ((first | refine SubB.pure ?_ | refine SubBs.pure ?_) <;> (simp only [AV.pure, AV.pures, pures_append, jpu, Bool.and_self, Bool.and_true, Bool.true_and]; done)) | refine SubB.fn ?_ ?_ | refine SubB.sl ?_ ?_ | refine SubB.agg ?_ | refine SubB.tup ?_ | rfl)))
      · (try simp only [↓jr, jp, jd, jz, zA, zB, zC, zD, zE, zF, zG, zH, zI, zJ, zK, zL, zM, zN, reduceIte])
        refine hF ?_
        rw [← hI, h2]; simp
    · (try simp only [↓jr, jp, jd, jz, zA, zB, zC, zD, zE, zF, zG, zH, zI, zJ, zK, zL, zM, zN, reduceIte])
      refine JFIN.ret ((JDropH.back (by repeat' (first | exact TokExt.refl _ | refine TokExt.push ?_ _ | refine TokExt.setT ?_ (by first | exact Nat.le_refl _ | (simp only [pushTok_tnext, setTok_tnext, ext_tnext, set_tnext]; omega)) _))).of_ext) ?_
      rw [List.drop_eq_nil_of_le (by omega)] at hI
      simp only [newsOK] at hI
      rw [hN, ← hI]; exact SubB.v
end Go.Proofs.YtkcbhebbjpiibaaDoor.Pg
