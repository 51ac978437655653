/-
  The statement about the parts of a concept.
-/
import Derived.Test.YtcajjicdbphkpaaGreatDoorUo
set_option linter.unusedVariables false
set_option linter.unusedSimpArgs false
set_option maxRecDepth 100000
set_option maxHeartbeats 8000000
namespace Go.Proofs.YtcajjicdbphkpaaGreatDoor.Pg
open Go
theorem subs_same {n : Nms} (hn : namesOK n = true) : ∀ (l a : List Con), (∀ x ∈ l, shaped n.cs.length n.rs.length x = true) → (∀ x ∈ a, shaped n.cs.length n.rs.length x = true) → l.foldl (ded n) a = rsb a l
  | [], a, _, _ => rfl
  | x :: l, a, hl, ha => by
    have hx := hl x (List.mem_cons_self ..)
    have e : ded n a x = if plcE a x < 0 then a ++ [x] else a := by
      have h1 := findS_mem (a.map (strC n)) (strC n x)
      have h2 := plcE_mem a x
      have h3 : strC n x ∈ a.map (strC n) ↔ x ∈ a := by
        constructor
        · intro h
          obtain ⟨y, hy, he⟩ := List.mem_map.1 h
          rw [← Inj.str_inj hn (ha y hy) hx he]; exact hy
        · exact List.mem_map_of_mem
      unfold ded
      by_cases q : x ∈ a
      · rw [if_pos (by rw [h1]; exact h3.2 q), if_neg (by have := h2.2 q; omega)]
      · rw [if_neg (by rw [h1]; exact fun e => q (h3.1 e)), if_pos (by have : ¬ 0 ≤ plcE a x := fun e => q (h2.1 e); omega)]
    simp only [List.foldl_cons, rsb, e]
    refine subs_same hn l _ (fun y hy => hl y (List.mem_cons_of_mem _ hy)) ?_
    split
    · intro y hy
      rcases List.mem_append.1 hy with q | q
      · exact ha y q
      · rw [List.mem_singleton.1 q]; exact hx
    · exact ha
section
variable {k : Int}
def ir3 : IFn := ⟨107, [⟨4, none⟩], (.seq (.reg [oA 2 (.box 24 (.r 0)), oA 3 (.box 27 (.r 1)), oA 4 (.mov (kB false))]) (.seq (.seq (.reg [oL 15 2 (some 3), oT 16 15 (.call 4 [.r 15]), oA 17 (.not (.r 16)), oA 18 (kM 17), ⟨(some 19), (some ((18, false))), (some (.r 3)), (.load (some 3) (.r 3))⟩, ⟨(some 20), (some ((18, false))), none, (.call 5 [.r 19, .k (.v (.int .i64 3000))])⟩, ⟨(some 21), (some ((18, false))), none, (.not (.r 20))⟩, oA 22 (.pick (.r 18) (kB true) (.r 21))]) (.cond (.r 22) (.seq (.reg [oA 23 (.call 6 []), oA 4 (kM 23)]) .ret) .skip)) (.seq (.reg [oL 25 2 (some 3), oL 26 3 (some 3), oA 27 (.call 7 [.r 25, .r 26]), oA 24 (kM 27), oA 28 (.ext (.r 24) 0), oA 29 (.ext (.r 24) 1), oA 5 (kM 28), oA 6 (kM 29)]) (.seq (.reg [oL 31 2 (some 3), oL 32 3 (some 3), oA 33 (.call 8 [.r 31, .r 32]), oA 30 (kM 33), oA 34 (.ext (.r 30) 0), oA 35 (.ext (.r 30) 1), oA 36 (.ext (.r 30) 2), oA 7 (kM 34), oA 8 (kM 35), oA 9 (kM 36)]) (.seq (.reg [oL 37 2 (some 3), oL 38 3 (some 3), oA 39 (.call 9 [.r 37, .r 38]), oA 10 (kM 39)]) (.seq (.seq (.reg [oA 40 (kM 6), oA 41 (kM 10), oA 42 (.bin .neq (.r 40) (.r 41)), oA 43 (kM 42), ⟨(some 44), (some ((43, false))), none, (kM 9)⟩, ⟨(some 45), (some ((43, false))), none, (kM 10)⟩, ⟨(some 46), (some ((43, false))), none, (.bin .neq (.r 44) (.r 45))⟩, oA 47 (.pick (.r 43) (kB true) (.r 46))]) (.cond (.r 47) (.seq (.reg [oA 4 (.mov (kB false))]) .ret) .skip)) (.seq (.seq (.reg [oA 48 (kM 10), oA 49 (.bin .neq (.r 48) (kI 0))]) (.cond (.r 49) (.seq (.reg [oA 50 (kM 5), oT 51 50 (.lenl (.r 50)), oA 52 (.bin .eql (.r 51) (kI 0)), oA 53 (kM 52), ⟨(some 54), (some ((53, true))), none, (kM 7)⟩, ⟨(some 55), (some ((53, true))), (some (.r 54)), (.lenl (.r 54))⟩, ⟨(some 56), (some ((53, true))), none, (.bin .eql (.r 55) (kI 0))⟩, oA 57 (.pick (.r 53) (.r 56) (kB false)), oA 58 (kM 57), ⟨(some 59), (some ((58, true))), none, (kM 8)⟩, ⟨(some 60), (some ((58, true))), (some (.r 59)), (.lenl (.r 59))⟩, ⟨(some 61), (some ((58, true))), none, (.bin .eql (.r 60) (kI 0))⟩, oA 62 (.pick (.r 58) (.r 61) (kB false)), oA 63 (kM 62), ⟨(some 64), (some ((63, true))), none, (.call 6 [])⟩, oA 65 (.pick (.r 63) (.r 64) (kB false)), oA 4 (kM 65)]) .ret) .skip)) (.seq (.reg [oL 66 3 (some 3), oA 67 (.call 10 [.r 66, .k (.sl .nil 0 [])]), oA 11 (kM 67)]) (.seq (.reg [oL 69 3 (some 3), oA 70 (.call 11 [.r 69, .k (.sl .nil 0 []), .k (.sl .nil 0 [])]), oA 68 (kM 70), oA 71 (.ext (.r 68) 0), oA 72 (.ext (.r 68) 1), oA 12 (kM 71), oA 13 (kM 72)]) (.seq (.seq (.reg [oA 73 (kM 5), oT 74 73 (.lenl (.r 73)), oA 75 (kM 11), oT 76 75 (.lenl (.r 75)), oA 77 (.bin .neq (.r 74) (.r 76)), oA 78 (kM 77), ⟨(some 79), (some ((78, false))), none, (kM 7)⟩, ⟨(some 80), (some ((78, false))), none, (kM 12)⟩, ⟨(some 81), (some ((78, false))), none, (.call 12 [.r 79, .r 80])⟩, ⟨(some 82), (some ((78, false))), none, (.not (.r 81))⟩, oA 83 (.pick (.r 78) (kB true) (.r 82)), oA 84 (kM 83), ⟨(some 85), (some ((84, false))), none, (kM 8)⟩, ⟨(some 86), (some ((84, false))), none, (kM 13)⟩, ⟨(some 87), (some ((84, false))), none, (.call 12 [.r 85, .r 86])⟩, ⟨(some 88), (some ((84, false))), none, (.not (.r 87))⟩, oA 89 (.pick (.r 84) (kB true) (.r 88))]) (.cond (.r 89) (.seq (.reg [oA 4 (.mov (kB false))]) .ret) .skip)) (.seq (.seq (.reg [oA 90 (kM 5), oT 91 90 (.lenl (.r 90)), oA 92 (.mov (kI 0))]) (.block 0 (.loop (.seq (.reg [oA 93 (.bin .lss (.r 92) (.r 91))]) (.seq (.cond (.r 93) .skip (.exit 0)) (.seq (.block 1 (.seq (.reg [oA 94 (kM 92), oA 14 (kM 94)]) (.seq (.draw [oA 95 (kM 5), oA 96 (kM 14), oA 97 (.iasl 3 (.r 95) (.r 96)), oL 98 97 (some 3), oA 99 (kM 11), oA 100 (kM 14), oA 101 (.iasl 3 (.r 99) (.r 100)), oL 102 101 (some 3), oA 103 (.call 13 [.r 98, .r 102]), oA 104 (.not (.r 103))] []) (.cond (.r 104) (.seq (.reg [oA 4 (.mov (kB false))]) .ret) .skip)))) (.reg [oA 105 (.bin .add (.r 92) (kI 1)), oA 92 (kM 105)]))))))) (.seq (.reg [oA 106 (.call 6 []), oA 4 (kM 106)]) .ret))))))))))))⟩
theorem c3 : cfunc Tryz.prog 3 = some ir3 := by kernel_rfl
theorem k3 : okIR (max 2 ir3.n) ir3.ir = true := by decide +kernel
theorem s_ConceptParts (n : Nms) (hn : n.ok) (hs : n.short) (c : Con) (hc : c.ok) (j : JH) : JC Tryz.prog (GG (GM1 k)) 3 [.agg n.enc, .agg c.enc] j (RET (BOO true) j) := by
  refine JC.run hmix c3 (by exact k3) ?_
  (try simp only[↓jr,jw,seval,ir3])
  refine JCs.ret (s_FewNames n hn hs _) ?_
  (try simp only[↓jr,jw,seval])
  refine ww.intro (fun h1 => ?_) (fun h1 => ?_)
  rotate_left
  · (try simp only[↓jr,jw,seval])
    refine JCs.ret (s_awake1 k _) ?_
    (try simp only[↓jr,jw,seval])
    refine JFIN.rb ?_
    exact SubB.v
  (try simp only[↓jr,jw,seval])
  refine JCs.ret (s_Fits c 3000 _ hc (by omega) (by omega)) ?_
  (try simp only[↓jr,jw,seval])
  refine wq.intro (fun h2 => ?_) (fun h2 => ?_)
  rotate_left
  · (try simp only[↓jr,jw,seval])
    refine JCs.ret (s_awake1 k _) ?_
    (try simp only[↓jr,jw,seval])
    refine JFIN.rb ?_
    exact SubB.v
  (try simp only[↓jr,jw,seval])
  refine JCs.ret (s_Subs n hn hs h1 c hc (by omega) _) ?_
  (try simp only[↓jr,jw,seval])
  refine JCs.ret (s_Uses n hn hs c hc (by omega) _) ?_
  (try simp only[↓jr,jw,seval])
  refine JCs.ret (s_fault n c hn hs hc _) ?_
  rw [← faultE_eq]
  (try simp only[↓jr,jw,seval])
  have hp1 : (pre c).length = c.nodes := pre_len c
  refine wq.intro (fun q => ?_) (fun q => ?_)
  rotate_left
  · have e1 : (if fineE n [c] = 0 then outL n (pre c) else []) = [] := if_neg q
    have e2 : usC n c = [] := if_neg q
    have e3 : usR n c = [] := if_neg q
    rw [e1, e2, e3]
    (try simp only[↓jr,jw,seval,List.length_nil])
    refine JCs.ret (s_awake1 k _) ?_
    (try simp only[↓jr,jw,seval])
    refine JFIN.rb ?_
    exact SubB.v
  obtain ⟨f1, f2, f3⟩ := fine_zero q
  have e1 : (if fineE n [c] = 0 then outL n (pre c) else []) = rsb [] (pre c) := by
    rw [if_pos q]; exact subs_same f1 _ _ (pre_shaped c f3) (fun x h => by cases h)
  have e2 : usC n c = rcI [] (pre c) := by unfold usC; rw [if_pos q]; exact uses_c _
  have e3 : usR n c = rrI [] (pre c) := by unfold usR; rw [if_pos q]; exact uses_r _
  rw [e1, e2, e3, q]
  (try simp only[↓jr,jw,seval])
  refine JCs.use (s_rSubs c (fun t => t < j.tnext) .nil [] _ CanP.nil (fun t h => h) hc (fun y h => by cases h) (by simp; omega)) ?_
  rintro o j' ⟨t1, j1, g1, g2, rfl, rfl⟩
  obtain ⟨j2, e, g3, e4, e5⟩ := g2.unbox
  rw [e]
  have hn2 := g3.next
  (try simp only[↓jr,jw,seval,hn2])
  refine JCs.use (s_rUses c (fun t => t < j.tnext) .nil .nil [] [] _ ⟨CanP.nil, CanP.nil, fun t h => by cases h⟩ (fun t h => Nat.lt_of_lt_of_le h g3.tnext) hc (by simp; omega) (by simp; omega)) ?_
  rintro o j' ⟨t3, t4, j3, k1, k2, rfl, rfl⟩
  obtain ⟨j4, e, k3, e6, e7⟩ := k2.unbox
  rw [e]
  have hn4 : j4.next = j.next := k3.next.trans hn2
  (try simp only[↓jr,jw,seval,hn4])
  have b1 := rcI_len (pre c) []
  have b2 := rrI_len (pre c) []
  have b3 := rsb_len (pre c) []
  simp only [List.length_nil] at b1 b2 b3
  refine JCs.ret (s_SameIntsU _ _ _ _ (by omega) (by omega) _) ?_
  rw [decide_eq_true rfl]
  (try simp only[↓jr,jw,seval,hn4])
  refine JCs.ret (s_SameIntsU _ _ _ _ (by omega) (by omega) _) ?_
  rw [decide_eq_true rfl]
  (try simp only[↓jr,jw,seval,hn4])
  have hT : TokExt j j4 := (g3.trans k3).ext
  have hall : ∀ x ∈ rsb [] (pre c), x.ok := rsb_ok _ _ (fun y h => by cases h) (pre_ok c hc)
  generalize rsb [] (pre c) = R at *
  refine JLOOP.of (σ := Nat) (fun s => s ≤ R.length) (fun s => R.length - s) (fun s => [(92, I64 s), (91, I64 R.length), (5, .sl .none R.length (encs Con.enc R)), (11, .sl .none R.length (encs Con.enc R))]) (fun s => Pg.ext j4 [.cells 24 n.enc, .cells 27 c.enc]) 0 (Nat.zero_le _) ?_ (JDropH.refl _) ?_
  · (try simp only[↓jr,jw,seval,DL])
    exact ⟨SubB.v, SubB.v, SubB.sl rfl (SubBs.pure (encs_pur Con.pur _)), SubB.sl rfl (SubBs.pure (encs_pur Con.pur _))⟩
  intro s hk
  try simp only at hk
  (try simp only[↓jr,jw,seval,hn4])
  refine wq.intro (fun g1 => ?_) (fun g1 => ?_)
  · have hlt : s < (R).length := by omega
    obtain ⟨x, r, hd⟩ : ∃ c_ l_, List.drop s (R) = c_ :: l_ := ⟨_, _, List.drop_eq_getElem_cons hlt⟩
    have hd1 : List.drop (s + 1) (R) = r := by rw [← List.drop_drop, hd]; rfl
    have hmem : x ∈ R := List.mem_of_mem_drop (hd ▸ List.mem_cons_self)
    (try simp only[↓jr,jw,seval,hd,hn4])
    refine wc.intro (by omega) ?_
    (try simp only[↓jr,jw,seval,hd,hn4])
    refine wc.intro (by omega) ?_
    (try simp only[↓jr,jw,seval,hd,hn4])
    refine JDC.use (s_rSame x x _ (hall x hmem) (hall x hmem)) ?_
    rw [ceq_refl]
    (try simp only[↓jr,jw,seval,hn4])
    refine JDRAW.oc (by (try simp only[↓jr,jw,seval,jq]) <;> exact orq) ?_; (try simp only[↓jr,jw,seval])
    (try simp only[↓jr,jw,seval,hn4])
    refine wc.intro (by unfold R64; omega) ?_
    (try simp only[↓jr,jw,seval,hn4])
    refine JNEXT.of (s + 1) (by omega) (by omega) ?_ (JDropH.refl _)
    (try simp only[↓jr,jw,seval,DL])
    exact ⟨SubB.v, SubB.v, SubB.sl rfl (SubBs.pure (encs_pur Con.pur _))⟩
  · (try simp only[↓jr,jw,seval,hn4])
    refine JCs.ret (s_awake1 k _) ?_
    (try simp only[↓jr,jw,seval])
    exact JFIN.ret ((JDropH.back hT).of_ext) SubB.v
end
end Go.Proofs.YtcajjicdbphkpaaGreatDoor.Pg
