/-
  ConceptTexts.
-/
import Derived.Test.YtcajjicdbphkpaaDoorQw
set_option linter.unusedVariables false
set_option linter.unusedSimpArgs false
set_option maxRecDepth 100000
set_option maxHeartbeats 8000000
namespace Go.Proofs.YtcajjicdbphkpaaDoor.Pg
open Go
theorem rPar_ok (n : Nms) (h1 : n.cs.length ≤ 1000000) (h2 : n.rs.length ≤ 1000000) (s : ByteArray) : (rPar n s).1.ok := by
  unfold rPar
  split
  · exact nilC_ok
  · split
    · exact nilC_ok
    · unfold rParT
      split
      · exact nilC_ok
      · split
        · exact nilC_ok
        · exact rcF_ok n h1 h2 _ _
theorem pPar_ok (n : Nms) (h1 : n.cs.length ≤ 1000000) (h2 : n.rs.length ≤ 1000000) (s : ByteArray) : (pPar n s).1.ok := by
  unfold pPar
  split
  · exact nilC_ok
  · exact rPar_ok n h1 h2 s
theorem few_spec {n : Nms} (h : fewNames n = true) : n.cs.length ≤ 100 ∧ n.rs.length ≤ 100 ∧ (∀ s ∈ n.cs, s.size ≤ 100) ∧ (∀ s ∈ n.rs, s.size ≤ 100) := by
  simp only [fewNames, Nms.lists, List.all_cons, List.all_nil, Bool.and_eq_true, decide_eq_true_eq, List.all_eq_true] at h
  exact ⟨h.1.1, h.2.1.1, h.1.2, h.2.1.2⟩
theorem replicate_acy {x : AV} (k : Nat) : acycle [x] (k * 1) = List.replicate k x := by
  unfold acycle
  refine List.ext_getElem (by simp) fun i h1 h2 => ?_
  simp [Nat.mod_one]
section
variable {m : Int} {G : Nat → Option (List AV)}
def strR (n : Nms) (c : Con) : ByteArray := if faultE n c = 0 then strC n c else ⟨#[]⟩
theorem s_cString (n : Nms) (hn : n.ok) (hs : n.short) (hf : fewNames n = true) (c : Con) (hc : c.ok) (hb : c.nodes ≤ 1000000) (j : JH) : JC Tryd.prog (GG m) 11 [.agg n.enc, .agg c.enc] j (RET (.tup [STR (strR n c), I64 (faultE n c)]) j) := by
  obtain ⟨w1, w2, w3, w4⟩ := few_spec hf
  refine JC.run hmix c11 (by exact k11) ?_
  (try simp only[↓jr,jw,seval,ir11])
  have hf := s_fine (m := m) n hn hs [c] (.own j.tnext 0 3) ⟨hc, trivial⟩ (by simp) (fun d hd => by rw [List.mem_singleton.1 hd]; omega) (ext (j.pushTok 1) [.cells 24 n.enc, .cells 27 c.enc])
  rw [encs_cons, encs_nil, List.append_nil] at hf
  refine JCs.ret hf ?_
  rw [faultE_eq]
  (try simp only[↓jr,jw,seval])
  refine wq.intro (fun h => ?_) (fun h => ?_)
  · (try simp only[↓jr,jw,seval])
    have hk1 := conOK_shaped (faultE_zero h)
    refine JCs.ret (s_Text n.cs.length n.rs.length n rfl rfl w3 w4 hn.1 hn.2.1 c _ hc hk1.1 hb) ?_
    (try simp only[↓jr,jw,seval])
    refine JFIN.rb ?_
    unfold strR; rw [if_pos h, h]
    exact SubB.tup ⟨SubB.v, SubB.v, True.intro⟩
  · (try simp only[↓jr,jw,seval])
    refine JFIN.rb ?_
    unfold strR; rw [if_neg h]
    exact SubB.tup ⟨SubB.v, SubB.v, True.intro⟩
theorem spl_u8 {ns : List Int} {k : Nat} (h : k < ns.length) (x : Int) : splice (ns.map U8) k [U8 x] = (ns.set k x).map U8 := by
  unfold splice
  rw [List.map_set, List.set_eq_take_append_cons_drop, if_pos (by simpa using h)]
  simp
theorem pures_u8 : ∀ ns : List Int, AV.pures (ns.map U8) = true
  | [] => rfl
  | n :: ns => by simp only [List.map_cons, AV.pures, AV.pure, pures_u8 ns, Bool.and_self]
theorem JDropH.nextS0 {j : JH} {a b x y : AObj} (h : OSub (pid j.next 3) j.tnext y y) : JDropH (ext j [a, b, x]) (ext j [a, b, y]) (ext j [a, b, y]) := JDropH.next0 (TokExt.refl _) ⟨.inl ⟨rfl, rfl⟩, .inl ⟨rfl, rfl⟩, .inr h, True.intro⟩
def ir3 : IFn := ⟨98, [⟨8, none⟩], (.seq (.reg [oA 4 (.box 24 (.r 0)), oA 5 (.box 27 (.r 1)), oA 8 (.mov (kB false))]) (.seq (.seq (.reg [oL 19 4 (some 3), oT 20 19 (.call 8 [.r 19]), oA 21 (.not (.r 20)), oA 22 (kM 21), ⟨(some 23), (some ((22, false))), (some (.r 5)), (.load (some 3) (.r 5))⟩, ⟨(some 24), (some ((22, false))), none, (.call 9 [.r 23, .k (.v (.int .i64 3000))])⟩, ⟨(some 25), (some ((22, false))), none, (.not (.r 24))⟩, oA 26 (.pick (.r 22) (kB true) (.r 25)), oA 27 (kM 26), ⟨(some 28), (some ((27, false))), none, (kM 2)⟩, ⟨(some 29), (some ((27, false))), (some (.r 28)), (.lens (.r 28))⟩, ⟨(some 30), (some ((27, false))), none, (.bin .gtr (.r 29) (kI 4000))⟩, oA 31 (.pick (.r 27) (kB true) (.r 30))]) (.cond (.r 31) (.seq (.reg [oA 32 (.call 10 []), oA 8 (kM 32)]) .ret) .skip)) (.seq (.seq (.reg [oA 33 (kM 3)]) (.cond (.r 33) (.seq (.reg [oA 34 (.mks 5 1 1 [.v (.int .u8 0)] (kI 30001) (kI 30001)), oA 9 (kM 34)]) (.seq (.seq (.reg [oA 35 (kM 9), oT 36 35 (.lenl (.r 35)), oA 37 (.mov (kI 0))]) (.block 0 (.loop (.seq (.reg [oA 38 (.bin .lss (.r 37) (.r 36))]) (.seq (.cond (.r 38) .skip (.exit 0)) (.seq (.block 1 (.seq (.reg [oA 39 (kM 37), oA 10 (kM 39)]) (.reg [oA 40 (kM 9), oA 41 (kM 10), oA 42 (.iasl 1 (.r 40) (.r 41)), oN (.store 1 (.r 42) (.k (.v (.int .u8 32))))]))) (.reg [oA 43 (.bin .add (.r 37) (kI 1)), oA 37 (kM 43)]))))))) (.reg [oA 44 (kM 2), oA 45 (kM 9), oA 46 (.gen ⟨(some 46), (.convert 31 9 (.tmp 45)), 9, "law.go:112", #[⟨1, .data⟩], none⟩), oA 47 (.bin .add (.r 44) (.r 46)), oA 2 (kM 47)]))) .skip)) (.seq (.reg [oL 49 4 (some 3), oL 50 5 (some 3), oA 51 (.call 11 [.r 49, .r 50]), oA 48 (kM 51), oA 52 (.ext (.r 48) 0), oA 53 (.ext (.r 48) 1), oA 11 (kM 52), oA 12 (kM 53)]) (.seq (.reg [oL 54 4 (some 3), oL 55 5 (some 3), oA 56 (.call 12 [.r 54, .r 55]), oA 13 (.mov (.k (.v (.string ⟨#[]⟩)))), oA 14 (kM 56)]) (.seq (.seq (.reg [oA 57 (kM 14), oA 58 (.bin .eql (.r 57) (kI 0))]) (.cond (.r 58) (.reg [oL 59 4 (some 3), oL 60 5 (some 3), oA 61 (.call 13 [.r 59, .r 60]), oA 13 (kM 61)]) .skip)) (.seq (.reg [oL 63 4 (some 3), oA 64 (kM 2), oA 65 (.call 14 [.r 63, .r 64]), oA 62 (kM 65), oA 66 (.ext (.r 62) 0), oA 67 (.ext (.r 62) 1), oA 15 (.alloc 27 [.v (.int .i64 0), .v (.int .i64 0), .sl .nil 0 []]), oN (.store 3 (.r 15) (.r 66)), oA 16 (kM 67)]) (.seq (.reg [oA 68 (.build [.v (.int .i64 0), .v (.int .i64 0), .sl .nil 0 []] []), oA 17 (.alloc 27 [.v (.int .i64 0), .v (.int .i64 0), .sl .nil 0 []]), oN (.store 3 (.r 17) (.r 68)), oA 18 (.mov (kI 20))]) (.seq (.seq (.reg [oL 69 4 (some 3), oT 70 69 (.call 15 [.r 69])]) (.cond (.r 70) (.reg [oL 72 4 (some 3), oA 73 (kM 2), oA 74 (.call 16 [.r 72, .r 73]), oA 71 (kM 74), oA 75 (.ext (.r 71) 0), oA 76 (.ext (.r 71) 1), oN (.store 3 (.r 17) (.r 75)), oA 18 (kM 76)]) .skip)) (.seq (.reg [oA 77 (kM 11), oA 78 (kM 13), oA 79 (.bin .eql (.r 77) (.r 78)), oA 80 (kM 79), ⟨(some 81), (some ((80, true))), none, (kM 12)⟩, ⟨(some 82), (some ((80, true))), none, (kM 14)⟩, ⟨(some 83), (some ((80, true))), none, (.bin .eql (.r 81) (.r 82))⟩, oA 84 (.pick (.r 80) (.r 83) (kB false)), oA 85 (kM 84), ⟨(some 86), (some ((85, true))), (some (.r 15)), (.load (some 3) (.r 15))⟩, ⟨(some 87), (some ((85, true))), (some (.r 17)), (.load (some 3) (.r 17))⟩, ⟨(some 88), (some ((85, true))), none, (.call 17 [.r 86, .r 87])⟩, oA 89 (.pick (.r 85) (.r 88) (kB false)), oA 90 (kM 89), ⟨(some 91), (some ((90, true))), none, (kM 16)⟩, ⟨(some 92), (some ((90, true))), none, (kM 18)⟩, ⟨(some 93), (some ((90, true))), none, (.bin .eql (.r 91) (.r 92))⟩, oA 94 (.pick (.r 90) (.r 93) (kB false)), oA 95 (kM 94), ⟨(some 96), (some ((95, true))), none, (.call 10 [])⟩, oA 97 (.pick (.r 95) (.r 96) (kB false)), oA 8 (kM 97)]) .ret))))))))))⟩
theorem c3 : cfunc Tryd.prog 3 = some ir3 := by kernel_rfl
theorem k3 : okIR (max 4 ir3.n) ir3.ir = true := by decide +kernel
theorem s_ConceptTexts (n : Nms) (hn : n.ok) (hs : n.short) (c : Con) (hc : c.ok) (s : ByteArray) (lg : Bool) (j : JH) : JC Tryd.prog (GG m) 3 [.agg n.enc, .agg c.enc, STR s, BOO lg] j (RET (BOO true) j) := by
  refine JC.run hmix c3 (by exact k3) ?_
  (try simp only[↓jr,jw,seval,ir3])
  refine JCs.ret (s_FewNames n hn hs _) ?_
  (try simp only[↓jr,jw,seval])
  refine ww.intro (fun h1 => ?_) (fun h1 => ?_)
  · (try simp only[↓jr,jw,seval])
    refine JCs.ret (s_Fits c 3000 _ hc (by omega) (by omega)) ?_
    (try simp only[↓jr,jw,seval])
    refine wq.intro (fun h2 => ?_) (fun h2 => ?_)
    · (try simp only[↓jr,jw,seval])
      refine wq.intro (fun h3 => ?_) (fun h3 => ?_)
      · (try simp only[↓jr,jw,seval])
        refine JCs.ret (s_awake1 m _) ?_
        (try simp only[↓jr,jw,seval])
        refine JFIN.rb ?_
        exact SubB.v
      · (try simp only[↓jr,jw,seval])
        obtain ⟨w1, w2, w3, w4⟩ := few_spec h1
        cases lg with
        | true =>
          (try simp only[↓jr,jw,seval])
          refine JMKS.same (n := 30001) (by omega) (by omega) ?_
          obtain ⟨ns0, hl0, e0⟩ : ∃ ns0 : List Int, ns0.length = 30001 ∧ acycle [U8 0] (30001 * 1) = ns0.map U8 := ⟨List.replicate 30001 0, List.length_replicate, by rw [replicate_acy, List.map_replicate]⟩
          rw [e0]
          (try simp only[↓jr,jw,seval])
          refine JLOOP.of (σ := Nat × List Int) (fun x => x.1 ≤ 30001 ∧ x.2.length = 30001) (fun x => 30001 - x.1)
            (fun x => [(37, I64 x.1), (36, I64 30001), (9, .arr (pid j.next 2) 0 30001), (4, .ptr (pid j.next 0) 0), (5, .ptr (pid j.next 1) 0), (2, STR s)])
            (fun x => ext j [.cells 24 n.enc, .cells 27 c.enc, .cells 5 (x.2.map U8)]) (0, ns0) ⟨Nat.zero_le _, hl0⟩ ?_ (JDropH.refl _) ?_
          · (try simp only[↓jr,jw,seval,DL])
            exact ⟨SubB.v, SubB.v, SubB.arr (by unfold pid; omega), SubB.ptr (by unfold pid; omega), SubB.ptr (by unfold pid; omega), SubB.v⟩
          rintro ⟨k, ns⟩ ⟨hk, hl⟩
          simp only at hk hl
          (try simp only[↓jr,jw,seval])
          refine wq.intro (fun g1 => ?_) (fun g1 => ?_)
          · (try simp only[↓jr,jw,seval])
            refine wc.intro (by omega) ?_
            (try simp only[↓jr,jw,seval])
            refine wc.intro (by simp; omega) ?_
            rw [show (AV.v (.int .u8 32)).cells = [U8 32] from rfl, spl_u8 (by omega)]
            (try simp only[↓jr,jw,seval])
            refine wc.intro (by unfold R64; omega) ?_
            (try simp only[↓jr,jw,seval])
            refine JNEXT.of (k + 1, ns.set k 32) ⟨by simp only; omega, by simp only [List.length_set]; exact hl⟩ (by simp only; omega) ?_ (JDropH.nextS0 (by exact OSub.pure (pures_u8 _)))
            (try simp only[↓jr,jw,seval,DL])
            exact ⟨SubB.v, SubB.v, SubB.arr (by unfold pid; omega), SubB.ptr (by unfold pid; omega), SubB.ptr (by unfold pid; omega), SubB.v⟩
          · (try simp only[↓jr,jw,seval])
            refine JGEN.b2s (t := 45) (by kernel_rfl) rfl (ext_get_new rfl) (by simp; omega) (by rw [List.drop_zero, List.take_of_length_le (by simp; omega)]; exact u8s_u8 ns) ?_
            have hz : (strOfNums ns).size = 30001 := by rw [strOfNums_size, hl]
            have hz2 : (s ++ strOfNums ns).size = s.size + 30001 := by rw [ba_size_append, hz]
            (try simp only[↓jr,jw,seval])
            refine wc.intro (by omega) ?_
            (try simp only[↓jr,jw,seval])
            have hP := pPar_ok n (by omega) (by omega) (s ++ strOfNums ns)
            refine JCs.ret (s_cString n hn hs h1 c hc (by omega) _) ?_
            (try simp only[↓jr,jw,seval])
            refine JCs.ret (s_fault n c hn hs hc _) ?_
            (try simp only[↓jr,jw,seval])
            refine wq.intro (fun h5 => ?_) (fun h5 => ?_)
            · (try simp only[↓jr,jw,seval])
              have hk1 := conOK_shaped (faultE_zero h5)
              refine JCs.ret (s_rString n.cs.length n.rs.length n rfl rfl w3 w4 hn.1 hn.2.1 c _ hc hk1.1 (by omega)) ?_
              (try simp only[↓jr,jw,seval])
              have es : strR n c = strC n c := by unfold strR; rw [if_pos h5]
              refine JCs.ret (s_cParse n hn hs (s ++ strOfNums ns) (by omega) _) ?_
              (try simp only[↓jr,jw,seval])
              refine JCs.ret (s_rNames n hn hs _) ?_
              (try simp only[↓jr,jw,seval])
              refine ww.intro (fun h6 => ?_) (fun h6 => ?_)
              · (try simp only[↓jr,jw,seval])
                refine JCs.ret (s_rParse n hn (by omega) (by omega) (s ++ strOfNums ns) (by omega) _) ?_
                have e6 : pPar n (s ++ strOfNums ns) = rPar n (s ++ strOfNums ns) := by unfold pPar; rw [if_neg (by rw [h6]; decide)]
                rw [e6] at hP ⊢
                (try simp only[↓jr,jw,seval,es])
                refine JCs.ret (s_rSame _ _ _ hP hP) ?_
                rw [ceq_refl]
                (try simp only[↓jr,jw,seval])
                refine JCs.ret (s_awake1 m _) ?_
                (try simp only[↓jr,jw,seval])
                refine JFIN.rb ?_
                exact SubB.v
              · (try simp only[↓jr,jw,seval])
                have e6 : pPar n (s ++ strOfNums ns) = (nilC, 20) := by unfold pPar; rw [if_pos h6]
                rw [e6] at hP ⊢
                (try simp only[↓jr,jw,seval,es])
                refine JCs.ret (JC.weakS (s_rSame _ nilC _ hP hP) ⟨SubB.pure (by simp [AV.pure, Con.pur]), SubB.agg nilC_sub, True.intro⟩) ?_
                rw [ceq_refl]
                (try simp only[↓jr,jw,seval])
                refine JCs.ret (s_awake1 m _) ?_
                (try simp only[↓jr,jw,seval])
                refine JFIN.rb ?_
                exact SubB.v
            · (try simp only[↓jr,jw,seval])
              have es : strR n c = ⟨#[]⟩ := by unfold strR; rw [if_neg h5]
              refine JCs.ret (s_cParse n hn hs (s ++ strOfNums ns) (by omega) _) ?_
              (try simp only[↓jr,jw,seval])
              refine JCs.ret (s_rNames n hn hs _) ?_
              (try simp only[↓jr,jw,seval])
              refine ww.intro (fun h6 => ?_) (fun h6 => ?_)
              · (try simp only[↓jr,jw,seval])
                refine JCs.ret (s_rParse n hn (by omega) (by omega) (s ++ strOfNums ns) (by omega) _) ?_
                have e6 : pPar n (s ++ strOfNums ns) = rPar n (s ++ strOfNums ns) := by unfold pPar; rw [if_neg (by rw [h6]; decide)]
                rw [e6] at hP ⊢
                (try simp only[↓jr,jw,seval,es])
                refine JCs.ret (s_rSame _ _ _ hP hP) ?_
                rw [ceq_refl]
                (try simp only[↓jr,jw,seval])
                refine JCs.ret (s_awake1 m _) ?_
                (try simp only[↓jr,jw,seval])
                refine JFIN.rb ?_
                exact SubB.v
              · (try simp only[↓jr,jw,seval])
                have e6 : pPar n (s ++ strOfNums ns) = (nilC, 20) := by unfold pPar; rw [if_pos h6]
                rw [e6] at hP ⊢
                (try simp only[↓jr,jw,seval,es])
                refine JCs.ret (JC.weakS (s_rSame _ nilC _ hP hP) ⟨SubB.pure (by simp [AV.pure, Con.pur]), SubB.agg nilC_sub, True.intro⟩) ?_
                rw [ceq_refl]
                (try simp only[↓jr,jw,seval])
                refine JCs.ret (s_awake1 m _) ?_
                (try simp only[↓jr,jw,seval])
                refine JFIN.rb ?_
                exact SubB.v
        | false =>
          (try simp only[↓jr,jw,seval])
          have hP := pPar_ok n (by omega) (by omega) s
          refine JCs.ret (s_cString n hn hs h1 c hc (by omega) _) ?_
          (try simp only[↓jr,jw,seval])
          refine JCs.ret (s_fault n c hn hs hc _) ?_
          (try simp only[↓jr,jw,seval])
          refine wq.intro (fun h5 => ?_) (fun h5 => ?_)
          · (try simp only[↓jr,jw,seval])
            have hk1 := conOK_shaped (faultE_zero h5)
            refine JCs.ret (s_rString n.cs.length n.rs.length n rfl rfl w3 w4 hn.1 hn.2.1 c _ hc hk1.1 (by omega)) ?_
            (try simp only[↓jr,jw,seval])
            have es : strR n c = strC n c := by unfold strR; rw [if_pos h5]
            refine JCs.ret (s_cParse n hn hs s (by omega) _) ?_
            (try simp only[↓jr,jw,seval])
            refine JCs.ret (s_rNames n hn hs _) ?_
            (try simp only[↓jr,jw,seval])
            refine ww.intro (fun h6 => ?_) (fun h6 => ?_)
            · (try simp only[↓jr,jw,seval])
              refine JCs.ret (s_rParse n hn (by omega) (by omega) s (by omega) _) ?_
              have e6 : pPar n s = rPar n s := by unfold pPar; rw [if_neg (by rw [h6]; decide)]
              rw [e6] at hP ⊢
              (try simp only[↓jr,jw,seval,es])
              refine JCs.ret (s_rSame _ _ _ hP hP) ?_
              rw [ceq_refl]
              (try simp only[↓jr,jw,seval])
              refine JCs.ret (s_awake1 m _) ?_
              (try simp only[↓jr,jw,seval])
              refine JFIN.rb ?_
              exact SubB.v
            · (try simp only[↓jr,jw,seval])
              have e6 : pPar n s = (nilC, 20) := by unfold pPar; rw [if_pos h6]
              rw [e6] at hP ⊢
              (try simp only[↓jr,jw,seval,es])
              refine JCs.ret (JC.weakS (s_rSame _ nilC _ hP hP) ⟨SubB.pure (by simp [AV.pure, Con.pur]), SubB.agg nilC_sub, True.intro⟩) ?_
              rw [ceq_refl]
              (try simp only[↓jr,jw,seval])
              refine JCs.ret (s_awake1 m _) ?_
              (try simp only[↓jr,jw,seval])
              refine JFIN.rb ?_
              exact SubB.v
          · (try simp only[↓jr,jw,seval])
            have es : strR n c = ⟨#[]⟩ := by unfold strR; rw [if_neg h5]
            refine JCs.ret (s_cParse n hn hs s (by omega) _) ?_
            (try simp only[↓jr,jw,seval])
            refine JCs.ret (s_rNames n hn hs _) ?_
            (try simp only[↓jr,jw,seval])
            refine ww.intro (fun h6 => ?_) (fun h6 => ?_)
            · (try simp only[↓jr,jw,seval])
              refine JCs.ret (s_rParse n hn (by omega) (by omega) s (by omega) _) ?_
              have e6 : pPar n s = rPar n s := by unfold pPar; rw [if_neg (by rw [h6]; decide)]
              rw [e6] at hP ⊢
              (try simp only[↓jr,jw,seval,es])
              refine JCs.ret (s_rSame _ _ _ hP hP) ?_
              rw [ceq_refl]
              (try simp only[↓jr,jw,seval])
              refine JCs.ret (s_awake1 m _) ?_
              (try simp only[↓jr,jw,seval])
              refine JFIN.rb ?_
              exact SubB.v
            · (try simp only[↓jr,jw,seval])
              have e6 : pPar n s = (nilC, 20) := by unfold pPar; rw [if_pos h6]
              rw [e6] at hP ⊢
              (try simp only[↓jr,jw,seval,es])
              refine JCs.ret (JC.weakS (s_rSame _ nilC _ hP hP) ⟨SubB.pure (by simp [AV.pure, Con.pur]), SubB.agg nilC_sub, True.intro⟩) ?_
              rw [ceq_refl]
              (try simp only[↓jr,jw,seval])
              refine JCs.ret (s_awake1 m _) ?_
              (try simp only[↓jr,jw,seval])
              refine JFIN.rb ?_
              exact SubB.v
    · (try simp only[↓jr,jw,seval])
      refine JCs.ret (s_awake1 m _) ?_
      (try simp only[↓jr,jw,seval])
      refine JFIN.rb ?_
      exact SubB.v
  · (try simp only[↓jr,jw,seval])
    refine JCs.ret (s_awake1 m _) ?_
    (try simp only[↓jr,jw,seval])
    refine JFIN.rb ?_
    exact SubB.v
end
end Go.Proofs.YtcajjicdbphkpaaDoor.Pg
