/-
  Tokens, the document's.
-/
import Derived.Test.YtcajjicdbphkpaaDoorQf
set_option linter.unusedVariables false
set_option linter.unusedSimpArgs false
set_option maxRecDepth 100000
set_option maxHeartbeats 8000000
namespace Go.Proofs.YtcajjicdbphkpaaDoor.Pg
open Go
section
variable {m : Int} {G : Nat → Option (List AV)}
def ir83 : IFn := ⟨17, [⟨4, none⟩], (.seq (.reg [oA 4 (.mov (kB false))]) (.seq (.seq (.reg [oA 5 (.mov (kI 0))]) (.block 0 (.loop (.seq (.seq (.reg [oA 6 (kM 5), oA 7 (kM 0), oT 8 7 (.lens (.r 7)), oA 9 (.bin .lss (.r 6) (.r 8))]) (.cond (.r 9) .skip (.exit 0))) (.seq (.block 1 (.seq (.reg [oA 12 (kM 0), oA 13 (kM 5), oA 14 (.idxs (.r 12) (.r 13)), oA 15 (kM 1), oA 16 (.bin .eql (.r 14) (.r 15))]) (.cond (.r 16) (.seq (.reg [oA 4 (.mov (kB true))]) .ret) .skip))) (.reg [oA 10 (kM 5), oA 11 (.bin .add (.r 10) (kI 1)), oA 5 (kM 11)])))))) (.seq (.reg [oA 4 (.mov (kB false))]) .ret)))⟩
theorem c83 : cfunc Tryd.prog 83 = some ir83 := by kernel_rfl
theorem k83 : okIR (max 2 ir83.n) ir83.ir = true := by decide +kernel
theorem s_Within (s : ByteArray) (b : UInt8) (hs : s.size < 4611686018427387904) (j : JH) : JC Tryd.prog G 83 [STR s, U8 b.toNat] j (RET (BOO ((bs s).contains b)) j) := by
  have hlen := bs_len s
  refine JC.run hmix c83 (by exact k83) ?_
  (try simp only[↓jr,jw,seval,ir83])
  refine JLOOP.of (σ := Nat) (fun k => k ≤ s.size ∧ ((bs s).drop k).contains b = (bs s).contains b) (fun k => s.size - k)
      (fun k => [(5, I64 k), (0, STR s), (1, U8 b.toNat)]) (fun k => ext j []) 0 ⟨by omega, by simp⟩ ?_ (JDropH.refl _) ?_
  · ((try simp only[↓jr,jw,seval,DL]) <;> exact sbq)
  rintro k ⟨hk, hI⟩
  (try simp only[↓jr,jw,seval])
  refine wq.intro (fun h1 => ?_) (fun h1 => ?_)
  · have hlt : k < (bs s).length := by omega
    obtain ⟨c, l, hd⟩ : ∃ c_ l_, List.drop k (bs s) = c_ :: l_ := ⟨_, _, List.drop_eq_getElem_cons hlt⟩
    have hd1 : List.drop (k + 1) (bs s) = l := by rw [← List.drop_drop, hd]; rfl
    have hmem : c ∈ bs s := List.mem_of_mem_drop (hd ▸ List.mem_cons_self)
    have hb := byte_at hd
    rw [hd, List.contains_cons] at hI
    (try simp only[↓jr,jw,seval,hb])
    refine wc.intro (by omega) ?_
    (try simp only[↓jr,jw,seval,hb])
    refine wq.intro (fun h2 => ?_) (fun h2 => ?_)
    · (try simp only[↓jr,jw,seval])
      refine JFIN.rb ?_
      have e : b = c := UInt8.toNat_inj.1 (by omega)
      rw [← hI, e]; simp only [beq_self_eq_true, Bool.true_or]; exact SubB.v
    · (try simp only[↓jr,jw,seval])
      refine wc.intro (by unfold R64; omega) ?_
      (try simp only[↓jr,jw,seval])
      have e : (b == c) = false := by
        rw [beq_eq_false_iff_ne]; rintro rfl; exact h2 rfl
      rw [e, Bool.false_or] at hI
      refine JNEXT.of (k + 1) ⟨by omega, by rw [hd1]; exact hI⟩ (by omega) ?_ JDropH.nx
      (try simp only[↓jr,jw,seval,DL])
      exact ⟨SubB.eqj (by omega), SubB.v, SubB.v⟩
  · (try simp only[↓jr,jw,seval])
    rw [List.drop_eq_nil_of_le (by omega)] at hI
    refine JFIN.rb ?_
    rw [← hI]; exact SubB.v
def rTOKV (r : Option (List (List UInt8))) : AV := match r with
  | some ts => .tup [.sl .none ts.length (strs (ts.map ofL)), BOO true]
  | none => .tup [.sl .none 0 [], BOO false]
def ir51 : IFn := ⟨68, [⟨4, none⟩, ⟨5, none⟩], (.seq (.reg [oA 4 (.mov (.k (.sl .nil 0 []))), oA 5 (.mov (kB false))]) (.seq (.reg [oA 6 (.mov (.k (.sl .nil 0 [])))]) (.seq (.seq (.reg [oA 7 (.mov (kI 0))]) (.block 0 (.loop (.seq (.seq (.reg [oA 9 (kM 7), oA 10 (kM 0), oT 11 10 (.lens (.r 10)), oA 12 (.bin .lss (.r 9) (.r 11))]) (.cond (.r 12) .skip (.exit 0))) (.block 1 (.seq (.reg [oA 13 (kM 7), oA 14 (.bin .add (.r 13) (kI 1)), oA 8 (kM 14)]) (.seq (.block 2 (.seq (.reg [oA 16 (kM 0), oA 17 (kM 7), oA 18 (.idxs (.r 16) (.r 17)), oA 19 (.bin .eql (.r 18) (.k (.v (.int .u8 32)))), oA 15 (kM 19)]) (.cond (.r 15) (.seq (.reg [oA 20 (kM 7), oA 21 (.bin .add (.r 20) (kI 1)), oA 7 (kM 21)]) (.exit 1)) (.seq (.reg [oA 23 (kM 0), oA 24 (kM 7), oA 25 (.idxs (.r 23) (.r 24)), oT 26 25 (.call 81 [.r 25]), oA 22 (kM 26)]) (.cond (.r 22) (.block 3 (.loop (.seq (.seq (.reg [oA 27 (kM 8), oA 28 (kM 0), oT 29 28 (.lens (.r 28)), oA 30 (.bin .lss (.r 27) (.r 29)), oA 31 (kM 30), ⟨(some 32), (some ((31, true))), none, (kM 0)⟩, ⟨(some 33), (some ((31, true))), none, (kM 8)⟩, ⟨(some 34), (some ((31, true))), none, (.idxs (.r 32) (.r 33))⟩, ⟨(some 35), (some ((31, true))), (some (.r 34)), (.call 81 [.r 34])⟩, ⟨(some 36), (some ((31, true))), none, (kM 35)⟩, ⟨(some 37), (some ((36, false))), none, (kM 0)⟩, ⟨(some 38), (some ((36, false))), none, (kM 8)⟩, ⟨(some 39), (some ((36, false))), none, (.idxs (.r 37) (.r 38))⟩, ⟨(some 40), (some ((36, false))), (some (.r 39)), (.call 82 [.r 39])⟩, ⟨(some 41), (some ((31, true))), none, (.pick (.r 36) (kB true) (.r 40))⟩, ⟨(some 42), (some ((31, true))), none, (kM 41)⟩, ⟨(some 43), (some ((42, false))), none, (kM 0)⟩, ⟨(some 44), (some ((42, false))), none, (kM 8)⟩, ⟨(some 45), (some ((42, false))), none, (.idxs (.r 43) (.r 44))⟩, ⟨(some 46), (some ((42, false))), none, (.bin .eql (.r 45) (.k (.v (.int .u8 95))))⟩, ⟨(some 47), (some ((31, true))), none, (.pick (.r 42) (kB true) (.r 46))⟩, oA 48 (.pick (.r 31) (.r 47) (kB false))]) (.cond (.r 48) .skip (.exit 3))) (.block 4 (.reg [oA 49 (kM 8), oA 50 (.bin .add (.r 49) (kI 1)), oA 8 (kM 50)]))))) (.seq (.reg [oA 52 (kM 1), oA 53 (.bin .add (.k (.v (.string ⟨#[40, 41, 45]⟩))) (.r 52)), oA 54 (kM 0), oA 55 (kM 7), oA 56 (.idxs (.r 54) (.r 55)), oA 57 (.call 83 [.r 53, .r 56]), oA 58 (.not (.r 57)), oA 51 (kM 58)]) (.cond (.r 51) (.seq (.reg [oA 4 (.mov (.k (.sl .nil 0 []))), oA 5 (.mov (kB false))]) .ret) .skip))))))) (.seq (.reg [oA 59 (kM 6), oA 60 (kM 0), oA 61 (kM 7), oA 62 (kM 8), oA 63 (.slcs (.r 60) (some (.r 61)) (some (.r 62))), oA 64 (.bsl 1 1 [.v (.string ⟨#[]⟩)] [(0, (1, .r 63))]), oA 65 (.app 1 16 (.r 59) (.r 64)), oA 6 (kM 65)]) (.reg [oA 66 (kM 8), oA 7 (kM 66)]))))))))) (.seq (.reg [oA 67 (kM 6), oA 4 (kM 67), oA 5 (.mov (kB true))]) .ret))))⟩
theorem c51 : cfunc Tryd.prog 51 = some ir51 := by kernel_rfl
theorem k51 : okIR (max 2 ir51.n) ir51.ir = true := by decide +kernel
theorem s_rTokens (s mk : ByteArray) (hs : s.size ≤ 1000000) (hmk : mk.size ≤ 1000) (sg : List UInt8) (hsg : sg = [40, 41, 45] ++ bs mk) (j : JH) : JC Tryd.prog G 51 [STR s, STR mk] j (RET (rTOKV (toks sg (bs s))) j) := by
  have hlen := bs_len s
  refine JC.run hmix c51 (by exact k51) ?_
  (try simp only[↓jr,jw,seval,ir51])
  refine JLOOP.of (σ := Nat × List (List UInt8) × Tok × JH) (fun x => x.1 ≤ s.size ∧ TokExt j x.2.2.2 ∧ CanApp j x.2.2.2 x.2.2.1 1 x.2.1.length ∧ x.2.1.length ≤ x.1 ∧ toks sg (bs s) = (toks sg ((bs s).drop x.1)).map (x.2.1 ++ ·)) (fun x => s.size - x.1)
      (fun x => [(7, I64 x.1), (6, .sl x.2.2.1 x.2.1.length (strs (x.2.1.map ofL))), (0, STR s), (1, STR mk)]) (fun x => ext x.2.2.2 []) (0, [], .nil, j) ⟨by omega, TokExt.refl _, CanApp.nil, by simp, by simp⟩ ?_ (JDropH.refl _) ?_
  · ((try simp only[↓jr,jw,seval,DL]) <;> exact sbq)
  rintro ⟨i, acc, tk, jx⟩ ⟨hi, ht, hc, hla, hI⟩
  simp only at hi ht hc hla hI
  (try simp only[↓jr,jw,seval])
  refine wq.intro (fun h1 => ?_) (fun h1 => ?_)
  · have hlt : i < (bs s).length := by omega
    obtain ⟨b, l, hd⟩ : ∃ c_ l_, List.drop i (bs s) = c_ :: l_ := ⟨_, _, List.drop_eq_getElem_cons hlt⟩
    have hd1 : List.drop (i + 1) (bs s) = l := by rw [← List.drop_drop, hd]; rfl
    have hmem : b ∈ bs s := List.mem_of_mem_drop (hd ▸ List.mem_cons_self)
    have hb := byte_at hd
    rw [hd, toks_cons] at hI
    (try simp only[↓jr,jw,seval,hb])
    refine wc.intro (by unfold R64; omega) ?_
    (try simp only[↓jr,jw,seval,hb])
    refine wc.intro (by omega) ?_
    (try simp only[↓jr,jw,seval,hb])
    refine wq.intro (fun h2 => ?_) (fun h2 => ?_)
    · rw [if_pos (b32.mp h2)] at hI
      (try simp only[↓jr,jw,seval])
      refine wc.intro (by unfold R64; omega) ?_
      (try simp only[↓jr,jw,seval])
      refine JNEXT.of (i + 1, acc, tk, jx) ⟨by simp only; omega, ht, hc, by simp only; omega, by simp only [hd1]; exact hI⟩ (by simp only; omega) ?_ (JDropH.nextT ht ht (TokExt.refl _) (Nat.le_refl _) True.intro)
      (try simp only[↓jr,jw,seval,DL])
      exact ⟨SubB.eqj (by omega), SubB.can hc (strs_pur _), SubB.v, SubB.v⟩
    rw [if_neg (fun q => h2 (b32.mpr q))] at hI
    (try simp only[↓jr,jw,seval,hb])
    refine wc.intro (by omega) ?_
    (try simp only[↓jr,jw,seval,hb])
    refine JCs.ret (s_rletter _ _) ?_
    rw [show lttI (b.toNat : Int) = letB b from rfl]
    (try simp only[↓jr,jw,seval])
    refine ww.intro (fun h3 => ?_) (fun h3 => ?_)
    · rw [if_pos h3] at hI
      (try simp only[↓jr,jw,seval])
      refine JLOOP.of (σ := Nat) (fun k => i + 1 ≤ k ∧ k ≤ s.size ∧ ((bs s).drop k).dropWhile witB = l.dropWhile witB) (fun k => s.size - k)
        (fun k => [(8, I64 k), (7, I64 i), (6, .sl tk acc.length (strs (acc.map ofL))), (0, STR s), (1, STR mk)]) (fun k => ext jx []) (i + 1) ⟨Nat.le_refl _, by omega, by rw [hd1]⟩ ?_ (JDropH.refl _) ?_
      · (try simp only[↓jr,jw,seval,DL])
        exact ⟨SubB.eqj (by omega), SubB.v, SubB.can hc (strs_pur _), SubB.v, SubB.v⟩
      rintro k ⟨hk1, hk2, hk3⟩
      (try simp only[↓jr,jw,seval])
      refine wq.intro (fun g1 => ?_) (fun g1 => ?_)
      · obtain ⟨c, r, he⟩ : ∃ c_ l_, List.drop k (bs s) = c_ :: l_ := ⟨_, _, List.drop_eq_getElem_cons (by omega)⟩
        have he1 : List.drop (k + 1) (bs s) = r := by rw [← List.drop_drop, he]; rfl
        have hcb := byte_at he
        have nxt : ∀ {fr : L} {n : Nat}, n = s.size - k → witB c = true → DL jx.next jx.tnext fr [(8, I64 (k + 1 : Nat)), (7, I64 i), (6, .sl tk acc.length (strs (acc.map ofL))), (0, STR s), (1, STR mk)] → JNEXT
            (fun n l_1 j_1 => ∃ s_1, (i + 1 ≤ s_1 ∧ s_1 ≤ s.size ∧ ((bs s).drop s_1).dropWhile witB = l.dropWhile witB) ∧ s.size - s_1 = n ∧ l_1 = [(8, I64 ↑s_1), (7, I64 i), (6, .sl tk acc.length (strs (acc.map ofL))), (0, STR s), (1, STR mk)] ∧ j_1 = ext jx []) n (ext jx []) fr (ext jx []) := by
          intro fr n hn hw hfr
          refine JNEXT.of (k + 1) ⟨by omega, by omega, ?_⟩ (by omega) hfr (JDropH.refl _)
          rw [he1, ← hk3, he, List.dropWhile_cons_of_pos hw]
        (try simp only[↓jr,jw,seval,hcb])
        refine wc.intro (by omega) ?_
        (try simp only[↓jr,jw,seval,hcb])
        refine JCs.ret (s_rletter _ _) ?_
        (try simp only[↓jr,jw,seval,hcb])
        refine ww.intro (fun w1 => ?_) (fun w1 => ?_)
        · (try simp only[↓jr,jw,seval])
          refine wc.intro (by unfold R64; omega) ?_
          (try simp only[↓jr,jw,seval])
          refine nxt rfl (by unfold witB; simp [*]) ?_
          (try simp only[↓jr,jw,seval,DL])
          exact ⟨SubB.eqj (by omega), SubB.v, SubB.can hc (strs_pur _), SubB.v, SubB.v⟩
        · (try simp only[↓jr,jw,seval,hcb])
          refine wc.intro (by omega) ?_
          (try simp only[↓jr,jw,seval,hcb])
          refine JCs.ret (s_digit _ _) ?_
          (try simp only[↓jr,jw,seval])
          refine ww.intro (fun w2 => ?_) (fun w2 => ?_)
          · (try simp only[↓jr,jw,seval])
            refine wc.intro (by unfold R64; omega) ?_
            (try simp only[↓jr,jw,seval])
            refine nxt rfl (by unfold witB; simp [*]) ?_
            (try simp only[↓jr,jw,seval,DL])
            exact ⟨SubB.eqj (by omega), SubB.v, SubB.can hc (strs_pur _), SubB.v, SubB.v⟩
          · (try simp only[↓jr,jw,seval,hcb])
            refine wc.intro (by omega) ?_
            (try simp only[↓jr,jw,seval,hcb])
            refine wq.intro (fun w3 => ?_) (fun w3 => ?_)
            · (try simp only[↓jr,jw,seval])
              refine wc.intro (by unfold R64; omega) ?_
              (try simp only[↓jr,jw,seval])
              refine nxt rfl (by unfold witB; simp [*]) ?_
              (try simp only[↓jr,jw,seval,DL])
              exact ⟨SubB.eqj (by omega), SubB.v, SubB.can hc (strs_pur _), SubB.v, SubB.v⟩
            · have hdr : (bs s).drop k = l.dropWhile witB := by
                rw [← hk3, he, List.dropWhile_cons_of_neg (by unfold witB; simp [*])]
              (try simp only[↓jr,jw,seval])
              (try simp only[↓jr,jw,seval,slcs_at (s := s) (i := i) (k := k) (by omega) (by omega)])
              refine JAPP.can' hc.push (ht.push 1) (by simp [d_len7]) (by simp) (by simp [AV.one]) (by omega) (by omega) ?_
              intro tok1 j1 hcan ht3 hle
              have hle' : jx.tnext ≤ j1.tnext := Nat.le_trans (Nat.le_succ _) hle
              (try simp only[↓jr,jw,seval])
              have hx := tok_end hd hk1 hk2 hdr
              have e1 : (acc ++ [(b :: l.takeWhile witB)]).length = acc.length + 1 := by simp
              have e2 : strs (acc.map ofL) ++ [STR (s.extract i (k))] = strs ((acc ++ [(b :: l.takeWhile witB)]).map ofL) := by rw [hx]; simp [strs]
              refine JNEXT.of (k, acc ++ [(b :: l.takeWhile witB)], tok1, j1) ⟨by simp only; omega, ht3, by rw [e1]; exact hcan, by simp only [e1]; omega, ?_⟩ (by simp only; omega) ?_ (JDropH.nextT ht ht3 (TokExt.refl _) hle' True.intro)
              · simp only [hdr]
                rw [hI, Option.map_map]
                congr 1; funext x; simp
              · (try simp only[↓jr,jw,seval,DL,e1])
                rw [← e2]
                exact ⟨SubB.eqj (by omega), SubB.can hcan (by rw [pures_append, strs_pur]; rfl), SubB.v, SubB.v⟩
      · have hdr : (bs s).drop k = l.dropWhile witB := by
          have e : (bs s).drop k = [] := List.drop_eq_nil_of_le (by omega)
          rw [← hk3, e]; rfl
        (try simp only[↓jr,jw,seval])
        (try simp only[↓jr,jw,seval,slcs_at (s := s) (i := i) (k := k) (by omega) (by omega)])
        refine JAPP.can' hc.push (ht.push 1) (by simp [d_len7]) (by simp) (by simp [AV.one]) (by omega) (by omega) ?_
        intro tok1 j1 hcan ht3 hle
        have hle' : jx.tnext ≤ j1.tnext := Nat.le_trans (Nat.le_succ _) hle
        (try simp only[↓jr,jw,seval])
        have hx := tok_end hd hk1 hk2 hdr
        have e1 : (acc ++ [(b :: l.takeWhile witB)]).length = acc.length + 1 := by simp
        have e2 : strs (acc.map ofL) ++ [STR (s.extract i (k))] = strs ((acc ++ [(b :: l.takeWhile witB)]).map ofL) := by rw [hx]; simp [strs]
        refine JNEXT.of (k, acc ++ [(b :: l.takeWhile witB)], tok1, j1) ⟨by simp only; omega, ht3, by rw [e1]; exact hcan, by simp only [e1]; omega, ?_⟩ (by simp only; omega) ?_ (JDropH.nextT ht ht3 (TokExt.refl _) hle' True.intro)
        · simp only [hdr]
          rw [hI, Option.map_map]
          congr 1; funext x; simp
        · (try simp only[↓jr,jw,seval,DL,e1])
          rw [← e2]
          exact ⟨SubB.eqj (by omega), SubB.can hcan (by rw [pures_append, strs_pur]; rfl), SubB.v, SubB.v⟩
    · rw [if_neg (by rw [h3]; exact Bool.false_ne_true)] at hI
      (try simp only[↓jr,jw,seval,hb])
      refine wc.intro (by rw [lz3]; omega) ?_
      (try simp only[↓jr,jw,seval,hb])
      refine wc.intro (by omega) ?_
      (try simp only[↓jr,jw,seval,hb])
      refine JCs.ret (s_Within _ b (by rw [ba_size_append, lz3]; omega) _) ?_
      rw [show (bs (⟨#[40, 41, 45]⟩ ++ mk)).contains b = sg.contains b by first | (rw [bs_append, hsg]; done) | (rw [bs_append, hsg]; rfl)]
      (try simp only[↓jr,jw,seval])
      refine ww.intro (fun h4 => ?_) (fun h4 => ?_)
      · rw [if_pos h4] at hI
        (try simp only[↓jr,jw,seval])
        (try simp only[↓jr,jw,seval,slcs_at1 (s := s) (i := i) (by omega)])
        refine JAPP.can' hc.push (ht.push 1) (by simp [d_len7]) (by simp) (by simp [AV.one]) (by omega) (by omega) ?_
        intro tok1 j1 hcan ht3 hle
        have hle' : jx.tnext ≤ j1.tnext := Nat.le_trans (Nat.le_succ _) hle
        (try simp only[↓jr,jw,seval])
        have hx := tok_one hd
        have e1 : (acc ++ [[b]]).length = acc.length + 1 := by simp
        have e2 : strs (acc.map ofL) ++ [STR (s.extract i (i + 1))] = strs ((acc ++ [[b]]).map ofL) := by rw [hx]; simp [strs]
        refine JNEXT.of (i + 1, acc ++ [[b]], tok1, j1) ⟨by simp only; omega, ht3, by rw [e1]; exact hcan, by simp only [e1]; omega, ?_⟩ (by simp only; omega) ?_ (JDropH.nextT ht ht3 (TokExt.refl _) hle' True.intro)
        · simp only [hd1]
          rw [hI, Option.map_map]
          congr 1; funext x; simp
        · (try simp only[↓jr,jw,seval,DL,e1])
          rw [← e2]
          exact ⟨SubB.eqj (by omega), SubB.can hcan (by rw [pures_append, strs_pur]; rfl), SubB.v, SubB.v⟩
      · rw [if_neg (by rw [h4]; exact Bool.false_ne_true)] at hI
        (try simp only[↓jr,jw,seval])
        rw [hI]
        exact JFIN.ret ((JDropH.back ht).of_ext) (SubB.tup ⟨SubB.sl rfl True.intro, SubB.v, True.intro⟩)
  · (try simp only[↓jr,jw,seval])
    rw [List.drop_eq_nil_of_le (by omega), toks_nil] at hI
    simp only [Option.map_some, List.append_nil] at hI
    rw [hI]
    refine JFIN.ret ((JDropH.back ht).of_ext) (SubB.tup ⟨SubB.sl rfl (SubBs.pure (strs_pur _)), SubB.v, True.intro⟩)
end
end Go.Proofs.YtcajjicdbphkpaaDoor.Pg
