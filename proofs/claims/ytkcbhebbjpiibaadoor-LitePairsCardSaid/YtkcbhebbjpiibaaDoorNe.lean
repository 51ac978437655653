/-
  LitePairs: the walk.
-/
import Derived.Test.YtkcbhebbjpiibaaDoorNd
import Derived.Test.YtkcbhebbjpiibaaDoorMc
set_option linter.unusedVariables false
set_option linter.unusedSimpArgs false
set_option linter.defProp false
set_option maxRecDepth 20000
set_option maxHeartbeats 1000000
namespace Go.Proofs.YtkcbhebbjpiibaaDoor.Pg
open Go
open Nat renaming reduceEqDiff → zA, reduceAdd → zB, reduceMul → zC, reduceSub → zD, reduceLT → zE, reduceLeDiff → zF
open Int renaming reduceAdd → zG, reduceSub → zH, reduceMul → zI, reduceNeg → zJ, reduceToNat → zK, reduceEq → zL, reduceLT → zM, reduceLE → zN
variable {m : Int} {G : Nat → Option (List AV)}
def sB (b : Bas) (p q : Nat) : Bool := soundB (onl b (partL b.ir (b.ir + p) (b.ir + (p + q))))
def acO (b : Bas) (k : Nat) : Bool := (List.range k).all fun p => (List.range (b.nd - p)).all (sB b p)
def acI (b : Bas) (k q : Nat) : Bool := acO b k && (List.range q).all (sB b k)
theorem acI_zero (b : Bas) (k : Nat) : acI b k 0 = acO b k := by unfold acI; simp
theorem acI_succ (b : Bas) (k q : Nat) : acI b k (q + 1) = (acI b k q && sB b k q) := by
  unfold acI; rw [List.range_succ, List.all_append, Bool.and_assoc]; simp
theorem acO_succ (b : Bas) (k : Nat) : acO b (k + 1) = acI b k (b.nd - k) := by
  unfold acI acO; rw [List.range_succ, List.all_append]; simp
theorem acO_end (b : Bas) : acO b b.nd = soundB b := by
  have e : b.dat.length = b.nd := by unfold Bas.dat Bas.nd; simp
  rw [soundB_pairs, e]; rfl
theorem upto_drop {r n k : Nat} (h : k < n) : (upto r n).drop k = (r + k) :: (upto r n).drop (k + 1) := by
  have hl : k < (upto r n).length := by rw [upto_len]; exact h
  rw [List.drop_eq_getElem_cons hl]
  congr 1
  have e : (upto r n)[k]? = some (r + k) := by unfold upto; rw [List.getElem?_map, List.getElem?_range h]; rfl
  rw [List.getElem?_eq_getElem hl] at e
  exact Option.some.inj e
theorem natv_part (r x y : Nat) : natv (partL r x y) = natv (List.range r) ++ [I64 x] ++ (if y = x then [] else [I64 y]) := by
  unfold partL; rw [natv_append, natv_append]; split <;> rfl
theorem partL_len (r x y : Nat) : (partL r x y).length = r + 1 + (if y = x then 0 else 1) := by
  unfold partL; rw [List.length_append, List.length_append, List.length_range]; split <;> rfl
theorem s_look0 (b : Bas) (hb : b.ok) (tok : Tok) (j : JH) : JC Tryd.prog G 8 [.agg b.enc, .sl tok 0 []] j (RET (BOO (lookB b [])) j) := s_looked (G := G) b hb [] tok trivial (by simp) j
theorem refE_ask {b : Bas} (h : refE b = 0) : askE b = 0 := by
  unfold refE at h; unfold askE; rw [← basR_eq]; exact h
def ir3 : IFn := ⟨88, [⟨2, none⟩], (.seq (.reg [⟨(some 1), none, none, (.box 30 (.r 0))⟩, ⟨(some 2), none, none, (.mov (.k (.v (.bool false))))⟩]) (.seq (.seq (.reg [⟨(some 14), none, (some (.r 1)), (.load (some 7) (.r 1))⟩, ⟨(some 15), none, none, (.call 8 [.r 14, .k (.sl .nil 0 [])])⟩, ⟨(some 16), none, none, (.not (.r 15))⟩, ⟨(some 17), none, none, (.mov (.r 16))⟩, ⟨(some 18), (some ((17, false))), (some (.r 1)), (.load (some 7) (.r 1))⟩, ⟨(some 19), (some ((17, false))), (some (.r 18)), (.call 9 [.r 18])⟩, ⟨(some 20), (some ((17, false))), none, (.bin .neq (.r 19) (.k (.v (.int .i64 0))))⟩, ⟨(some 21), none, none, (.pick (.r 17) (.k (.v (.bool true))) (.r 20))⟩, ⟨(some 22), none, none, (.mov (.r 21))⟩, ⟨(some 23), (some ((22, false))), (some (.r 1)), (.load (some 7) (.r 1))⟩, ⟨(some 24), (some ((22, false))), (some (.r 23)), (.call 10 [.r 23])⟩, ⟨(some 25), (some ((22, false))), (some (.r 24)), (.lenl (.r 24))⟩, ⟨(some 26), (some ((22, false))), none, (.bin .gtr (.r 25) (.k (.v (.int .i64 12))))⟩, ⟨(some 27), none, none, (.pick (.r 22) (.k (.v (.bool true))) (.r 26))⟩]) (.cond (.r 27) (.seq (.reg [⟨(some 28), none, none, (.call 11 [])⟩, ⟨(some 2), none, none, (.mov (.r 28))⟩]) .ret) .skip)) (.seq (.reg [⟨(some 30), none, (some (.r 1)), (.load (some 7) (.r 1))⟩, ⟨(some 31), none, (some (.r 30)), (.call 12 [.r 30])⟩, ⟨(some 29), none, none, (.mov (.r 31))⟩, ⟨(some 32), none, none, (.ext (.r 29) 0)⟩, ⟨(some 33), none, none, (.ext (.r 29) 1)⟩, ⟨(some 3), none, none, (.mov (.r 32))⟩, ⟨(some 4), none, none, (.mov (.r 33))⟩]) (.seq (.reg [⟨(some 5), none, none, (.mov (.k (.v (.bool true))))⟩]) (.seq (.reg [⟨(some 34), none, (some (.r 1)), (.load (some 7) (.r 1))⟩, ⟨(some 35), none, (some (.r 34)), (.call 10 [.r 34])⟩, ⟨(some 6), none, none, (.mov (.r 35))⟩]) (.seq (.seq (.reg [⟨(some 36), none, none, (.mov (.r 6))⟩, ⟨(some 37), none, (some (.r 36)), (.lenl (.r 36))⟩, ⟨(some 38), none, none, (.mov (.k (.v (.int .i64 0))))⟩]) (.block 0 (.loop (.seq (.reg [⟨(some 39), none, none, (.bin .lss (.r 38) (.r 37))⟩]) (.seq (.cond (.r 39) .skip (.exit 0)) (.seq (.block 1 (.seq (.reg [⟨(some 40), none, none, (.mov (.r 38))⟩, ⟨(some 41), none, none, (.iasl 1 (.r 36) (.r 38))⟩, ⟨(some 42), none, (some (.r 41)), (.load none (.r 41))⟩, ⟨(some 7), none, none, (.mov (.r 40))⟩, ⟨(some 8), none, none, (.mov (.r 42))⟩]) (.seq (.reg [⟨(some 43), none, none, (.mov (.r 6))⟩, ⟨(some 44), none, none, (.mov (.r 7))⟩, ⟨(some 45), none, none, (.slc 1 (.r 43) (some (.r 44)) none)⟩, ⟨(some 46), none, (some (.r 45)), (.lenl (.r 45))⟩, ⟨(some 47), none, none, (.mov (.k (.v (.int .i64 0))))⟩]) (.block 2 (.loop (.seq (.reg [⟨(some 48), none, none, (.bin .lss (.r 47) (.r 46))⟩]) (.seq (.cond (.r 48) .skip (.exit 2)) (.seq (.block 3 (.seq (.reg [⟨(some 49), none, none, (.iasl 1 (.r 45) (.r 47))⟩, ⟨(some 50), none, (some (.r 49)), (.load none (.r 49))⟩, ⟨(some 10), none, none, (.mov (.r 50))⟩]) (.seq (.reg [⟨(some 51), none, (some (.r 1)), (.load (some 7) (.r 1))⟩, ⟨(some 52), none, (some (.r 51)), (.call 13 [.r 51])⟩, ⟨(some 53), none, none, (.mov (.r 8))⟩, ⟨(some 54), none, none, (.bsl 1 1 [.v (.int .i64 0)] [(0, (1, .r 53))])⟩, ⟨(some 55), none, none, (.app 1 8 (.r 52) (.r 54))⟩, ⟨(some 11), none, none, (.mov (.r 55))⟩]) (.seq (.seq (.reg [⟨(some 56), none, none, (.mov (.r 10))⟩, ⟨(some 57), none, none, (.mov (.r 8))⟩, ⟨(some 58), none, none, (.bin .neq (.r 56) (.r 57))⟩]) (.cond (.r 58) (.reg [⟨(some 59), none, none, (.mov (.r 11))⟩, ⟨(some 60), none, none, (.mov (.r 10))⟩, ⟨(some 61), none, none, (.bsl 1 1 [.v (.int .i64 0)] [(0, (1, .r 60))])⟩, ⟨(some 62), none, none, (.app 1 8 (.r 59) (.r 61))⟩, ⟨(some 11), none, none, (.mov (.r 62))⟩]) .skip)) (.seq (.reg [⟨(some 64), none, (some (.r 1)), (.load (some 7) (.r 1))⟩, ⟨(some 65), none, none, (.mov (.r 11))⟩, ⟨(some 66), none, none, (.call 14 [.r 64, .r 65])⟩, ⟨(some 67), none, (some (.r 66)), (.call 12 [.r 66])⟩, ⟨(some 63), none, none, (.mov (.r 67))⟩, ⟨(some 68), none, none, (.ext (.r 63) 0)⟩, ⟨(some 69), none, none, (.ext (.r 63) 1)⟩, ⟨(some 12), none, none, (.mov (.r 68))⟩, ⟨(some 13), none, none, (.mov (.r 69))⟩]) (.seq (.reg [⟨(some 70), none, none, (.mov (.r 5))⟩, ⟨(some 71), none, none, (.mov (.r 70))⟩, ⟨(some 72), (some ((71, true))), none, (.mov (.r 12))⟩, ⟨(some 73), none, none, (.pick (.r 71) (.r 72) (.k (.v (.bool false))))⟩, ⟨(some 5), none, none, (.mov (.r 73))⟩]) (.seq (.reg [⟨(some 74), none, none, (.mov (.r 13))⟩, ⟨(some 75), none, none, (.bin .neq (.r 74) (.k (.v (.int .i64 0))))⟩]) (.cond (.r 75) (.seq (.reg [⟨(some 2), none, none, (.mov (.k (.v (.bool false))))⟩]) .ret) .skip)))))))) (.reg [⟨(some 76), none, none, (.bin .add (.r 47) (.k (.v (.int .i64 1))))⟩, ⟨(some 47), none, none, (.mov (.r 76))⟩]))))))))) (.reg [⟨(some 77), none, none, (.bin .add (.r 38) (.k (.v (.int .i64 1))))⟩, ⟨(some 38), none, none, (.mov (.r 77))⟩]))))))) (.seq (.reg [⟨(some 78), none, none, (.mov (.r 4))⟩, ⟨(some 79), none, none, (.bin .eql (.r 78) (.k (.v (.int .i64 0))))⟩, ⟨(some 80), none, none, (.mov (.r 79))⟩, ⟨(some 81), (some ((80, true))), none, (.mov (.r 3))⟩, ⟨(some 82), (some ((80, true))), none, (.mov (.r 5))⟩, ⟨(some 83), (some ((80, true))), none, (.beq false (.r 81) (.r 82))⟩, ⟨(some 84), none, none, (.pick (.r 80) (.r 83) (.k (.v (.bool false))))⟩, ⟨(some 85), none, none, (.mov (.r 84))⟩, ⟨(some 86), (some ((85, true))), none, (.call 11 [])⟩, ⟨(some 87), none, none, (.pick (.r 85) (.r 86) (.k (.v (.bool false))))⟩, ⟨(some 2), none, none, (.mov (.r 87))⟩]) .ret)))))))⟩
theorem c3 : cfunc Tryd.prog 3 = some ir3 := by kernel_rfl
theorem k3 : okIR (max 1 ir3.n) ir3.ir = true := by decide +kernel
theorem s_LitePairs (b : Bas) (hb : b.ok) (j : JH) : JC Tryd.prog (GG m) 3 [.agg b.enc] j (RET (BOO true) j) := by
  have aw : ∀ {l : List AObj} {j1 : JH}, TokExt j j1 → @JFIN (ext j []) (ext j1 l) (BOO true) ⟨fun y j' => RET (BOO true) j (.ret y) j'⟩ := fun ht => JFIN.ret ((JDropH.back ht).of_ext) SubB.v
  refine JC.run hmix c3 (by exact k3) ?_
  (try simp only [↓jr, jp, jd, jz, zA, zB, zC, zD, zE, zF, zG, zH, zI, zJ, zK, zL, zM, zN, reduceIte, ir3])
  refine JCs.ret (s_look0 b hb _ _) ?_
  (try simp only [↓jr, jp, jd, jz, zA, zB, zC, zD, zE, zF, zG, zH, zI, zJ, zK, zL, zM, zN, reduceIte])
  refine ww.intro (fun h0 => ?_) (fun h0 => by (try simp only [↓jr, jp, jd, jz, zA, zB, zC, zD, zE, zF, zG, zH, zI, zJ, zK, zL, zM, zN, reduceIte]); refine JCs.ret (s_awake _) ?_; (try simp only [↓jr, jp, jd, jz, zA, zB, zC, zD, zE, zF, zG, zH, zI, zJ, zK, zL, zM, zN, reduceIte]); exact aw (by repeat' (first | exact TokExt.refl _ | refine TokExt.push ?_ _ | refine TokExt.setT ?_ (by first | exact Nat.le_refl _ | (simp only [pushTok_tnext, setTok_tnext, ext_tnext, set_tnext]; omega)) _)))
  have hf := (look_few h0).1
  (try simp only [↓jr, jp, jd, jz, zA, zB, zC, zD, zE, zF, zG, zH, zI, zJ, zK, zL, zM, zN, reduceIte])
  refine JCs.ret (s_RFault b hb _) ?_
  (try simp only [↓jr, jp, jd, jz, zA, zB, zC, zD, zE, zF, zG, zH, zI, zJ, zK, zL, zM, zN, reduceIte])
  refine wq.intro (fun h1 => ?_) (fun h1 => by (try simp only [↓jr, jp, jd, jz, zA, zB, zC, zD, zE, zF, zG, zH, zI, zJ, zK, zL, zM, zN, reduceIte]); refine JCs.ret (s_awake _) ?_; (try simp only [↓jr, jp, jd, jz, zA, zB, zC, zD, zE, zF, zG, zH, zI, zJ, zK, zL, zM, zN, reduceIte]); exact aw (by repeat' (first | exact TokExt.refl _ | refine TokExt.push ?_ _ | refine TokExt.setT ?_ (by first | exact Nat.le_refl _ | (simp only [pushTok_tnext, setTok_tnext, ext_tnext, set_tnext]; omega)) _)))
  have hask := refE_ask h1
  have hR := (askE_basR hask).1
  have hcnt := (basR_said hR).cnt
  have hir : b.ir ≤ 60 := by unfold Bas.count at hcnt; unfold Bas.ir; omega
  have hnd : b.nd ≤ 60 := by unfold Bas.count at hcnt; unfold Bas.nd; omega
  (try simp only [↓jr, jp, jd, jz, zA, zB, zC, zD, zE, zF, zG, zH, zI, zJ, zK, zL, zM, zN, reduceIte])
  refine JCs.ret (s_data b hb (by omega) (by omega) _) ?_
  (try simp only [↓jr, jp, jd, jz, zA, zB, zC, zD, zE, zF, zG, zH, zI, zJ, zK, zL, zM, zN, reduceIte])
  refine wq.intro (fun h2 => by (try simp only [↓jr, jp, jd, jz, zA, zB, zC, zD, zE, zF, zG, zH, zI, zJ, zK, zL, zM, zN, reduceIte]); refine JCs.ret (s_awake _) ?_; (try simp only [↓jr, jp, jd, jz, zA, zB, zC, zD, zE, zF, zG, zH, zI, zJ, zK, zL, zM, zN, reduceIte]); exact aw (by repeat' (first | exact TokExt.refl _ | refine TokExt.push ?_ _ | refine TokExt.setT ?_ (by first | exact Nat.le_refl _ | (simp only [pushTok_tnext, setTok_tnext, ext_tnext, set_tnext]; omega)) _))) (fun h2 => ?_)
  (try simp only [↓jr, jp, jd, jz, zA, zB, zC, zD, zE, zF, zG, zH, zI, zJ, zK, zL, zM, zN, reduceIte])
  refine JCs.ret (s_Consistent b hb hf hask _) ?_
  (try simp only [↓jr, jp, jd, jz, zA, zB, zC, zD, zE, zF, zG, zH, zI, zJ, zK, zL, zM, zN, reduceIte])
  refine JCs.ret (s_data b hb (by omega) (by omega) _) ?_
  (try simp only [↓jr, jp, jd, jz, zA, zB, zC, zD, zE, zF, zG, zH, zI, zJ, zK, zL, zM, zN, reduceIte])
  have hE := upto_len b.ir b.nd
  refine JLOOP.of (σ := Nat) (fun k => k ≤ b.nd) (fun k => b.nd - k)
    (fun k => [(38, I64 k), (37, I64 b.nd), (36, .sl .none b.nd (natv (upto b.ir b.nd))), (6, .sl .none b.nd (natv (upto b.ir b.nd))), (1, .ptr (pid j.next 0) 0), (3, BOO (soundB b)), (4, I64 0), (5, BOO (acO b k))])
    (fun _ => ext j [.cells 30 b.enc]) 0 (Nat.zero_le _) ?_ (JDropH.refl _) ?_
  · (try simp only [↓jr, jp, jd, jz, zA, zB, zC, zD, zE, zF, zG, zH, zI, zJ, zK, zL, zM, zN, reduceIte, natv_drop, natv_cons, natv_len, hE, DL])
    exact ⟨SubB.v, SubB.v, SubB.sl rfl (SubBs.pure (natv_pur _)), SubB.sl rfl (SubBs.pure (natv_pur _)), SubB.ptr (by unfold pid; omega), SubB.v, SubB.v, SubB.boo rfl⟩
  rintro k hk
  (try simp only [↓jr, jp, jd, jz, zA, zB, zC, zD, zE, zF, zG, zH, zI, zJ, zK, zL, zM, zN, reduceIte, natv_drop, natv_cons, natv_len, hE])
  refine wq.intro (fun g1 => ?_) (fun g1 => ?_)
  · have hd := upto_drop (r := b.ir) (show k < b.nd by omega)
    (try simp only [↓jr, jp, jd, jz, zA, zB, zC, zD, zE, zF, zG, zH, zI, zJ, zK, zL, zM, zN, reduceIte, natv_drop, natv_cons, natv_len, hE, hd])
    refine wc.intro (by omega) ?_
    (try simp only [↓jr, jp, jd, jz, zA, zB, zC, zD, zE, zF, zG, zH, zI, zJ, zK, zL, zM, zN, reduceIte, natv_drop, natv_cons, natv_len, hE, hd])
    have hsl := slc_from hE hk
    (try simp only [↓jr, jp, jd, jz, zA, zB, zC, zD, zE, zF, zG, zH, zI, zJ, zK, zL, zM, zN, reduceIte, natv_drop, natv_cons, natv_len, hE, hsl])
    refine JLOOP.of (σ := Nat) (fun q => q ≤ b.nd - k) (fun q => b.nd - k - q)
      (fun q => [(47, I64 q), (46, I64 ((b.nd - k : Nat) : Int)), (45, .sl .none (b.nd - k) (natv ((upto b.ir b.nd).drop k))), (8, I64 ((b.ir + k : Nat) : Int)), (38, I64 k), (37, I64 b.nd), (36, .sl .none b.nd (natv (upto b.ir b.nd))), (6, .sl .none b.nd (natv (upto b.ir b.nd))), (1, .ptr (pid j.next 0) 0), (3, BOO (soundB b)), (4, I64 0), (5, BOO (acI b k q))])
      (fun _ => ext j [.cells 30 b.enc]) 0 (Nat.zero_le _) ?_ (JDropH.refl _) ?_
    · (try simp only [↓jr, jp, jd, jz, zA, zB, zC, zD, zE, zF, zG, zH, zI, zJ, zK, zL, zM, zN, reduceIte, natv_drop, natv_cons, natv_len, hE, DL])
      exact ⟨SubB.v, SubB.v, SubB.sl rfl (SubBs.pure (natv_pur _)), SubB.v, SubB.v, SubB.v, SubB.sl rfl (SubBs.pure (natv_pur _)), SubB.sl rfl (SubBs.pure (natv_pur _)), SubB.ptr (by unfold pid; omega), SubB.v, SubB.v, SubB.boo (acI_zero b k).symm⟩
    rintro q hq
    (try simp only [↓jr, jp, jd, jz, zA, zB, zC, zD, zE, zF, zG, zH, zI, zJ, zK, zL, zM, zN, reduceIte, natv_drop, natv_cons, natv_len, hE])
    refine wq.intro (fun g2 => ?_) (fun g2 => ?_)
    · have hd2 : ((upto b.ir b.nd).drop k).drop q = (b.ir + (k + q)) :: (upto b.ir b.nd).drop (k + q + 1) := by rw [List.drop_drop]; exact upto_drop (by omega)
      have hlE : ((upto b.ir b.nd).drop k).length = b.nd - k := by rw [List.length_drop, hE]
      (try simp only [↓jr, jp, jd, jz, zA, zB, zC, zD, zE, zF, zG, zH, zI, zJ, zK, zL, zM, zN, reduceIte, natv_drop, natv_cons, natv_len, hE, hd2,hlE])
      refine wc.intro (by omega) ?_
      (try simp only [↓jr, jp, jd, jz, zA, zB, zC, zD, zE, zF, zG, zH, zI, zJ, zK, zL, zM, zN, reduceIte, natv_drop, natv_cons, natv_len, hE, hd2])
      refine JCs.use (s_rules b hb (by omega) _) ?_
      rintro o j' ⟨tok, j1, hc, ht, rfl, rfl⟩
      obtain ⟨j2, ht2, he, hn2, hk2⟩ := ht.low
      have hc2 : CanApp j j2 tok 1 b.ir := by unfold CanApp at hc ⊢; rw [hn2, hk2]; exact hc
      have hx := ht2.next
      rw [he]
      (try simp only [↓jr, jp, jd, jz, zA, zB, zC, zD, zE, zF, zG, zH, zI, zJ, zK, zL, zM, zN, reduceIte, natv_drop, natv_cons, natv_len, hE, hx])
      refine JAPP.can' hc2.push (ht2.push 1) (by rw [natv_len, Nat.mul_one, List.length_range]) rfl rfl (by omega) (by omega) ?_
      intro tok1 j3 hcan ht3 hle
      have hx3 := ht3.next
      (try simp only [↓jr, jp, jd, jz, zA, zB, zC, zD, zE, zF, zG, zH, zI, zJ, zK, zL, zM, zN, reduceIte, natv_drop, natv_cons, natv_len, hE, hx3])
      refine wq.intro (fun h3 => ?_) (fun h3 => ?_)
      · have h3' : b.ir + (k + q) = b.ir + k := by omega
        have ho := s_Only (G := GG m) b hb (partL b.ir (b.ir + k) (b.ir + (k + q))) tok1 (by rw [partL_len]; split <;> omega) (by unfold Bas.ir at hir; omega) (by unfold Bas.ir at hir; omega) (by unfold Bas.nd at hnd; omega) (by unfold Bas.nd at hnd; omega) (ext j3 [.cells 30 b.enc])
        rw [natv_part, partL_len, if_pos h3', if_pos h3', List.append_nil, Nat.add_zero] at ho
        (try simp only [↓jr, jp, jd, jz, zA, zB, zC, zD, zE, zF, zG, zH, zI, zJ, zK, zL, zM, zN, reduceIte, natv_drop, natv_cons, natv_len, hE, hx3])
        refine JCs.ret ho ?_
        (try simp only [↓jr, jp, jd, jz, zA, zB, zC, zD, zE, zF, zG, zH, zI, zJ, zK, zL, zM, zN, reduceIte, natv_drop, natv_cons, natv_len, hE, hx3])
        refine JCs.ret (s_Consistent (onl b (partL b.ir (b.ir + k) (b.ir + (k + q)))) (onl_ok hb _) (onl_few hf _) (onl_askE hask _) _) ?_
        (try simp only [↓jr, jp, jd, jz, zA, zB, zC, zD, zE, zF, zG, zH, zI, zJ, zK, zL, zM, zN, reduceIte, natv_drop, natv_cons, natv_len, hE, hx3])
        refine ww.intro (fun h4 => ?_) (fun h4 => ?_)
        all_goals
          (try simp only [↓jr, jp, jd, jz, zA, zB, zC, zD, zE, zF, zG, zH, zI, zJ, zK, zL, zM, zN, reduceIte, natv_drop, natv_cons, natv_len, hE, hx3])
          refine wc.intro (by unfold R64; omega) ?_
          (try simp only [↓jr, jp, jd, jz, zA, zB, zC, zD, zE, zF, zG, zH, zI, zJ, zK, zL, zM, zN, reduceIte, natv_drop, natv_cons, natv_len, hE, hx3])
          refine JNEXT.of (q + 1) (by omega) (by omega) ?_ (JDropH.nextT (TokExt.refl j) (TokExt.refl j) ht3 (Nat.le_refl _) (by simp only [LSub, and_self, true_or, and_true]))
          (try simp only [↓jr, jp, jd, jz, zA, zB, zC, zD, zE, zF, zG, zH, zI, zJ, zK, zL, zM, zN, reduceIte, natv_drop, natv_cons, natv_len, hE, DL])
          exact ⟨SubB.eqi (by omega), SubB.v, SubB.sl rfl (SubBs.pure (natv_pur _)), SubB.v, SubB.v, SubB.v, SubB.sl rfl (SubBs.pure (natv_pur _)), SubB.sl rfl (SubBs.pure (natv_pur _)), SubB.ptr (by unfold pid; omega), SubB.v, SubB.v, SubB.boo (by rw [acI_succ, h4]; rfl)⟩
      · have h3' : ¬ b.ir + (k + q) = b.ir + k := by omega
        (try simp only [↓jr, jp, jd, jz, zA, zB, zC, zD, zE, zF, zG, zH, zI, zJ, zK, zL, zM, zN, reduceIte, natv_drop, natv_cons, natv_len, hE, hx3])
        refine JAPP.can' hcan.push (ht3.push 1) (by rw [List.length_append, natv_len, List.length_range, Nat.mul_one]; rfl) rfl rfl (by omega) (by omega) ?_
        intro tok2 j4 hcan4 ht4 hle4
        have hx4 := ht4.next
        have ho := s_Only (G := GG m) b hb (partL b.ir (b.ir + k) (b.ir + (k + q))) tok2 (by rw [partL_len]; split <;> omega) (by unfold Bas.ir at hir; omega) (by unfold Bas.ir at hir; omega) (by unfold Bas.nd at hnd; omega) (by unfold Bas.nd at hnd; omega) (ext j4 [.cells 30 b.enc])
        rw [natv_part, partL_len, if_neg h3', if_neg h3'] at ho
        (try simp only [↓jr, jp, jd, jz, zA, zB, zC, zD, zE, zF, zG, zH, zI, zJ, zK, zL, zM, zN, reduceIte, natv_drop, natv_cons, natv_len, hE, hx4])
        refine JCs.ret ho ?_
        (try simp only [↓jr, jp, jd, jz, zA, zB, zC, zD, zE, zF, zG, zH, zI, zJ, zK, zL, zM, zN, reduceIte, natv_drop, natv_cons, natv_len, hE, hx4])
        refine JCs.ret (s_Consistent (onl b (partL b.ir (b.ir + k) (b.ir + (k + q)))) (onl_ok hb _) (onl_few hf _) (onl_askE hask _) _) ?_
        (try simp only [↓jr, jp, jd, jz, zA, zB, zC, zD, zE, zF, zG, zH, zI, zJ, zK, zL, zM, zN, reduceIte, natv_drop, natv_cons, natv_len, hE, hx4])
        refine ww.intro (fun h4 => ?_) (fun h4 => ?_)
        all_goals
          (try simp only [↓jr, jp, jd, jz, zA, zB, zC, zD, zE, zF, zG, zH, zI, zJ, zK, zL, zM, zN, reduceIte, natv_drop, natv_cons, natv_len, hE, hx4])
          refine wc.intro (by unfold R64; omega) ?_
          (try simp only [↓jr, jp, jd, jz, zA, zB, zC, zD, zE, zF, zG, zH, zI, zJ, zK, zL, zM, zN, reduceIte, natv_drop, natv_cons, natv_len, hE, hx4])
          refine JNEXT.of (q + 1) (by omega) (by omega) ?_ (JDropH.nextT (TokExt.refl j) (TokExt.refl j) ht4 (Nat.le_refl _) (by simp only [LSub, and_self, true_or, and_true]))
          (try simp only [↓jr, jp, jd, jz, zA, zB, zC, zD, zE, zF, zG, zH, zI, zJ, zK, zL, zM, zN, reduceIte, natv_drop, natv_cons, natv_len, hE, DL])
          exact ⟨SubB.eqi (by omega), SubB.v, SubB.sl rfl (SubBs.pure (natv_pur _)), SubB.v, SubB.v, SubB.v, SubB.sl rfl (SubBs.pure (natv_pur _)), SubB.sl rfl (SubBs.pure (natv_pur _)), SubB.ptr (by unfold pid; omega), SubB.v, SubB.v, SubB.boo (by rw [acI_succ, h4]; rfl)⟩
    · (try simp only [↓jr, jp, jd, jz, zA, zB, zC, zD, zE, zF, zG, zH, zI, zJ, zK, zL, zM, zN, reduceIte, natv_drop, natv_cons, natv_len, hE])
      have eq : q = b.nd - k := by omega
      refine wc.intro (by unfold R64; omega) ?_
      (try simp only [↓jr, jp, jd, jz, zA, zB, zC, zD, zE, zF, zG, zH, zI, zJ, zK, zL, zM, zN, reduceIte, natv_drop, natv_cons, natv_len, hE])
      refine JNEXT.of (k + 1) (by omega) (by omega) ?_ (JDropH.nextT (TokExt.refl j) (TokExt.refl j) (TokExt.refl j) (Nat.le_refl _) (by simp only [LSub, and_self, true_or, and_true]))
      (try simp only [↓jr, jp, jd, jz, zA, zB, zC, zD, zE, zF, zG, zH, zI, zJ, zK, zL, zM, zN, reduceIte, natv_drop, natv_cons, natv_len, hE, DL])
      exact ⟨SubB.eqi (by omega), SubB.v, SubB.sl rfl (SubBs.pure (natv_pur _)), SubB.sl rfl (SubBs.pure (natv_pur _)), SubB.ptr (by unfold pid; omega), SubB.v, SubB.v, SubB.boo (by rw [eq, acO_succ])⟩
  · have ek : k = b.nd := by omega
    rw [ek, acO_end]
    (try simp only [↓jr, jp, jd, jz, zA, zB, zC, zD, zE, zF, zG, zH, zI, zJ, zK, zL, zM, zN, reduceIte, natv_drop, natv_cons, natv_len, hE])
    simp only [Bool.false_eq_true, if_false, beq_self_eq_true]
    (try simp only [↓jr, jp, jd, jz, zA, zB, zC, zD, zE, zF, zG, zH, zI, zJ, zK, zL, zM, zN, reduceIte, natv_drop, natv_cons, natv_len, hE])
    refine JCs.ret (s_awake _) ?_
    (try simp only [↓jr, jp, jd, jz, zA, zB, zC, zD, zE, zF, zG, zH, zI, zJ, zK, zL, zM, zN, reduceIte, natv_drop, natv_cons, natv_len, hE])
    exact aw (by repeat' (first | exact TokExt.refl _ | refine TokExt.push ?_ _ | refine TokExt.setT ?_ (by first | exact Nat.le_refl _ | (simp only [pushTok_tnext, setTok_tnext, ext_tnext, set_tnext]; omega)) _))
end Go.Proofs.YtkcbhebbjpiibaaDoor.Pg
