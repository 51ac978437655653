/-
  concept.ValidNames; validity of a concept as the program counts it.
-/
import Derived.Test.YtcjlpklgnknpgaaGreatDoorLf
set_option linter.unusedVariables false
set_option linter.unusedSimpArgs false
set_option maxRecDepth 20000
set_option maxHeartbeats 8000000
namespace Go.Proofs.YtcjlpklgnknpgaaGreatDoor.Pg
open Go
section
section
variable {m : GM}
def mapS (l : List ByteArray) : List (Value × AV) := l.map fun s => (.string s, .v (.bool true))
theorem ba_beq (s t : ByteArray) : (s == t) = decide (s = t) := by
 cases s with | mk a => cases t with | mk b =>
 have : (ByteArray.mk a == ByteArray.mk b) = (a == b) := rfl
 rw [this]; by_cases h : a = b
 ·subst h; simp
 ·simp [h]
theorem afind_mapS (s : ByteArray) : ∀ (l : List ByteArray) (i : Nat), afind .string (.string s) (mapS l) i = some (if 0 ≤ findS l s then some (i + (findS l s).toNat, .v (.bool true)) else none)
 | [], i => by simp [mapS, afind, findS, keyOK]
 | t :: l, i => by
  have ih := afind_mapS s l (i + 1)
  have hge := findS_ge l s
  simp only [mapS, List.map_cons, afind] at ih ⊢
  have e : asame .string (.string s) (.string t) = some (decide (s = t)) := by rw [← ba_beq]; rfl
  rw [e]
  simp only [findS]
  by_cases h : s = t
  ·subst h
   simp
  ·simp only [h, decide_false, if_false]
   rw [ih]
   by_cases h2 : findS l s = -1
   ·simp [h2]
   ·have h3 : 0 ≤ findS l s := by omega
    have h4 : 0 ≤ findS l s + 1 := by omega
    simp only [h2, if_false, h3, if_true, h4]
    congr 3; omega
theorem lookup_mapS {C : Nat → Option AObj} {o : Nat} {l : List ByteArray} {s : ByteArray} (h : C o = some (.map (mapS l))) : ilookup C .string (.v (.bool false)) false (.mp o) (.v (.string s)) = some (.v (.bool (decide (0 ≤ findS l s)))) := by
 simp only [ilookup, mapOf, h, lit, afind_mapS]
 by_cases h2 : 0 ≤ findS l s <;> simp [h2]
theorem JMAPUP.new {j : JH} {o : Nat} {l : List ByteArray} {s : ByteArray} {K : JH → Prop} (h : j.get o = some (.map (mapS l))) (hn : ¬ 0 ≤ findS l s) (k : K (j.set o (.map (mapS (l ++ [s]))))) : @JMAPUP j .string (.mp o) (.v (.string s)) (.v (.bool true)) ⟨K⟩ := by
 unfold JMAPUP jmapup
 simp only [lit, wv_some, h, afind_mapS, hn, if_false]
 have e : mapS (l ++ [s]) = mapS l ++ [(.string s, .v (.bool true))] := by simp [mapS]
 rw [← e]; exact k
theorem mapS_pur : ∀ l : List ByteArray, AV.pures ((mapS l).map (·.2)) = true
 | [] => rfl
 | s :: l => by
  have := mapS_pur l
  simp only [mapS, List.map_cons, AV.pures, AV.pure, Bool.true_and] at this ⊢; exact this
theorem OSub.mapS {no nt : Nat} {l : List ByteArray} : OSub no nt (.map (mapS l)) (.map (mapS l)) := ⟨rfl, SubBs.pure (mapS_pur l)⟩
noncomputable def ir71 : IFn := ⟨47, [⟨2, none⟩], (.seq (.reg [oA 1 (.box 24 (.r 0)), oA 2 (.mov (kB false))]) (.seq (.seq (.reg [oA 6 (.fadr 0 (.r 1)), oL 7 6 none, oT 8 7 (.lenl (.r 7)), oA 9 (.bin .gtr (.r 8) (kI 16)), oA 10 (kM 9), ⟨(some 11), (some ((10, false))), none, (.fadr 1 (.r 1))⟩, ⟨(some 12), (some ((10, false))), (some (.r 11)), (.load none (.r 11))⟩, ⟨(some 13), (some ((10, false))), (some (.r 12)), (.lenl (.r 12))⟩, ⟨(some 14), (some ((10, false))), none, (.bin .gtr (.r 13) (kI 6))⟩, oA 15 (.pick (.r 10) (kB true) (.r 14)), oA 16 (kM 15), ⟨(some 17), (some ((16, false))), none, (.fadr 2 (.r 1))⟩, ⟨(some 18), (some ((16, false))), (some (.r 17)), (.load none (.r 17))⟩, ⟨(some 19), (some ((16, false))), (some (.r 18)), (.lenl (.r 18))⟩, ⟨(some 20), (some ((16, false))), none, (.bin .gtr (.r 19) (kI 10))⟩, oA 21 (.pick (.r 16) (kB true) (.r 20))]) (.cond (.r 21) (.seq (.reg [oA 2 (.mov (kB false))]) .ret) .skip)) (.seq (.reg [oA 22 (.mkmap), oA 3 (kM 22)]) (.seq (.seq (.reg [oA 23 (.fadr 0 (.r 1)), oL 24 23 none, oA 25 (.fadr 1 (.r 1)), oL 26 25 none, oA 27 (.fadr 2 (.r 1)), oL 28 27 none, oA 29 (.bsl 3 1 [.sl .nil 0 []] [(0, (1, .r 24)), (1, (1, .r 26)), (2, (1, .r 28))]), oT 30 29 (.call 102 [.r 29]), oT 31 30 (.lenl (.r 30)), oA 32 (.mov (kI 0))]) (.block 0 (.loop (.seq (.reg [oA 33 (.bin .lss (.r 32) (.r 31))]) (.seq (.cond (.r 33) .skip (.exit 0)) (.seq (.block 1 (.seq (.reg [oA 34 (.iasl 1 (.r 30) (.r 32)), oL 35 34 none, oA 5 (kM 35)]) (.seq (.seq (.reg [oA 36 (kM 5), oT 37 36 (.call 103 [.r 36]), oA 38 (.not (.r 37)), oA 39 (kM 38), ⟨(some 40), (some ((39, false))), none, (kM 3)⟩, ⟨(some 41), (some ((39, false))), none, (kM 5)⟩, ⟨(some 42), (some ((39, false))), (some (.r 40)), (.lookup .string (.v (.bool false)) false (.r 40) (.r 41))⟩, oA 43 (.pick (.r 39) (kB true) (.r 42))]) (.cond (.r 43) (.seq (.reg [oA 2 (.mov (kB false))]) .ret) .skip)) (.reg [oA 44 (kM 3), oA 45 (kM 5), oN (.mapup .string (.r 44) (.r 45) (kB true))])))) (.reg [oA 46 (.bin .add (.r 32) (kI 1)), oA 32 (kM 46)]))))))) (.seq (.reg [oA 2 (.mov (kB true))]) .ret)))))⟩
theorem c71 : cfunc Tryz.prog 71 = some ir71 := by kernel_rfl
theorem k71 : okIR (max 1 ir71.n) ir71.ir = true := by decide +kernel
theorem s_ValidNames (n : Nms) (hn : n.ok) (hs : n.short) (j : JH) : JC Tryz.prog (GG m) 71 [.agg n.enc] j (RET (BOO (namesOK n)) j) := by
 refine JC.run hmix c71 (by exact k71) ?_
 (try simp only[↓jr,jw,seval,ir71])
 repeat' ((first | refine wq.intro (fun _ => ?_) (fun _ => ?_) | refine ww.intro (fun _ => ?_) (fun _ => ?_) | refine wc.intro (by first | omega | (unfold R64; omega) | trivial) ?_ | refine wr.in (by unfold R64; omega) ?_) <;> first | contradiction | (try simp only[↓jr,jw,seval]))
 ·refine JFIN.rb ?_
  unfold namesOK; rw [decide_eq_false (by omega : ¬ n.cs.length ≤ 16)]; exact SubB.v
 ·refine JFIN.rb ?_
  unfold namesOK; rw [decide_eq_false (by omega : ¬ n.rs.length ≤ 6), Bool.and_false]; exact SubB.v
 ·refine JFIN.rb ?_
  unfold namesOK; rw [decide_eq_false (by omega : ¬ n.is.length ≤ 10), Bool.and_false]; exact SubB.v
 rename_i b1 b2 b3
 have hL := newsOK_len n (by omega) (by omega) (by omega)
 have hN : namesOK n = newsOK [] n.lists.flatten := by
  unfold namesOK
  rw [decide_eq_true (by omega : n.cs.length ≤ 16), decide_eq_true (by omega : n.rs.length ≤ 6), decide_eq_true (by omega : n.is.length ≤ 10), newsOK_flat]; rfl
 have hcc := s_Concat (G := GG m) n.lists (.own j.tnext 0 1) (ext (j.pushTok 3) [.cells 24 n.enc, .map []]) (by rw [lists_len]; omega) (by omega)
 rw [lists_enc, lists_len] at hcc
 refine JCs.ret hcc ?_
 (try simp only[↓jr,jw,seval])
 have hF : ∀ {l : List AObj}, newsOK [] n.lists.flatten = false → @JFIN (ext j []) (ext (j.pushTok 3) l) (.v (.bool false)) ⟨fun y j' => RET (BOO (namesOK n)) j (.ret y) j'⟩ := by
  intro l h
  refine JFIN.rb ?_
  rw [hN, h]; exact SubB.v
 refine JLOOP.of (σ := Nat × List ByteArray) (fun s => s.1 ≤ n.lists.flatten.length ∧ newsOK s.2 (n.lists.flatten.drop s.1) = newsOK [] n.lists.flatten) (fun s => n.lists.flatten.length - s.1)
   (fun s => [(32, I64 s.1), (31, I64 n.lists.flatten.length), (30, .sl .none n.lists.flatten.length (strs n.lists.flatten)), (3, .mp (pid j.next 1))]) (fun s => ext (j.pushTok 3) [.cells 24 n.enc, .map (mapS s.2)]) (0, []) ⟨by omega, by simp⟩ ?_ (JDropH.refl _) ?_
 ·((try simp only[↓jr,jw,seval,DL]) <;> exact sbq)
 ·rintro ⟨k, seen⟩ ⟨hk, hI⟩
  simp only at hk hI
  (try simp only[↓jr,jw,seval])
  refine wq.intro (fun h1 => ?_) (fun h1 => ?_)
  ·have hlt : k < (n.lists.flatten).length := by omega
   obtain ⟨s, r, hd⟩ : ∃ c_ l_, List.drop k (n.lists.flatten) = c_ :: l_ := ⟨_, _, List.drop_eq_getElem_cons hlt⟩
   have hd1 : List.drop (k + 1) (n.lists.flatten) = r := by rw [← List.drop_drop, hd]; rfl
   have hmem : s ∈ n.lists.flatten := List.mem_of_mem_drop (hd ▸ List.mem_cons_self)
   (try simp only[↓jr,jw,seval,hd])
   rw [hd] at hI
   simp only [newsOK] at hI
   refine wc.intro (by omega) ?_
   (try simp only[↓jr,jw,seval,hd])
   have hsz : s.size < 4611686018427387904 := by
    obtain ⟨l, hl, hsl⟩ := List.mem_flatten.1 hmem
    exact short_mem hs hl hsl
   refine JCs.ret (s_Name s _ hsz) ?_
   (try simp only[↓jr,jw,seval])
   refine ww.intro (fun h2 => ?_) (fun h2 => ?_)
   ·have hg : (ext (j.pushTok 3) [.cells 24 n.enc, .map (mapS seen)]).get (pid j.next 1) = some (.map (mapS seen)) := by (try simp only[↓jr,jw,seval])
    (try simp only[↓jr,jw,seval,lookup_mapS hg])
    refine wq.intro (fun h3 => ?_) (fun h3 => ?_)
    ·(try simp only[↓jr,jw,seval])
     refine hF ?_
     rw [← hI, decide_eq_true h3]; simp
    ·(try simp only[↓jr,jw,seval])
     refine JMAPUP.new hg h3 ?_
     (try simp only[↓jr,jw,seval])
     refine wc.intro (by unfold R64; omega) ?_
     (try simp only[↓jr,jw,seval])
     rw [h2, decide_eq_false h3] at hI
     simp only [Bool.not_false, Bool.true_and] at hI
     refine JNEXT.of (k + 1, seen ++ [s]) ⟨by simp only; omega, by simp only [hd1]; exact hI⟩ (by simp only; omega) ?_ (JDropH.next0 (TokExt.refl _) ⟨.inl ⟨rfl, rfl⟩, .inr OSub.mapS, trivial⟩)
     ((try simp only[↓jr,jw,seval,DL]) <;> exact sbq)
   ·(try simp only[↓jr,jw,seval])
    refine hF ?_
    rw [← hI, h2]; simp
  ·(try simp only[↓jr,jw,seval])
   refine JFIN.rb ?_
   rw [List.drop_eq_nil_of_le (by omega)] at hI
   simp only [newsOK] at hI
   rw [hN, ← hI]; exact SubB.v
end
section
variable {m : GM}
instance {nc nr : Nat} {op n : Int} {k : Nat} : Decidable (SH nc nr op n k) := by unfold SH; infer_instance
mutual
def vld (nc nr : Nat) : Con → Int → Int → Bool × Int
 | .mk op n l, x, d => if 1 ≤ x ∧ d ≤ 20 ∧ SH nc nr op n l.length then vlds nc nr l (x - 1) (d + 1) else (false, x - 1)
def vlds (nc nr : Nat) : List Con → Int → Int → Bool × Int
 | [], x, d => (true, x)
 | c :: l, x, d => if (vld nc nr c x d).1 then vlds nc nr l (vld nc nr c x d).2 d else (false, (vld nc nr c x d).2)
end
mutual
theorem vld_eq (nc nr : Nat) : ∀ (c : Con) (x d : Int), (vld nc nr c x d).1 = (decide ((c.nodes : Int) ≤ x) && decide (d + c.depth ≤ 21) && shaped nc nr c) ∧ ((vld nc nr c x d).1 = true → (vld nc nr c x d).2 = x - c.nodes) ∧ (vld nc nr c x d).2 ≤ x ∧ x - c.nodes ≤ (vld nc nr c x d).2
 | .mk op n l, x, d => by
  simp only [vld]
  by_cases h : 1 ≤ x ∧ d ≤ 20 ∧ SH nc nr op n l.length
  ·rw [if_pos h]
   obtain ⟨h1, h2, h3⟩ := h
   obtain ⟨i1, i2, i3, i4⟩ := vlds_eq nc nr l (x - 1) (d + 1) (by omega) (by omega)
   refine ⟨?_, fun q => ?_, by omega, by simp only [Con.nodes]; omega⟩
   ·rw [i1, shaped_t h3]
    congr 1
    rw [Bool.eq_iff_iff]
    simp only [Bool.and_eq_true, decide_eq_true_eq]
    simp only [Con.nodes, Con.depth]
    omega
   ·rw [i2 q]; simp only [Con.nodes]; omega
  ·rw [if_neg h]
   refine ⟨?_, fun q => (by cases q), by simp only; omega, by simp only [Con.nodes]; omega⟩
   rw [eq_comm, Bool.eq_false_iff]
   intro q
   simp only [Bool.and_eq_true, decide_eq_true_eq, shaped_mk] at q
   simp only [Con.nodes, Con.depth] at q
   obtain ⟨⟨q1, q2⟩, q3, q4⟩ := q
   exact h ⟨by omega, by omega, q3⟩
theorem vlds_eq (nc nr : Nat) : ∀ (l : List Con) (x d : Int), 0 ≤ x → d ≤ 21 → (vlds nc nr l x d).1 = (decide ((Con.nodesL l : Int) ≤ x) && decide (d + Con.depthL l ≤ 21) && shapedL nc nr l) ∧ ((vlds nc nr l x d).1 = true → (vlds nc nr l x d).2 = x - Con.nodesL l) ∧ (vlds nc nr l x d).2 ≤ x ∧ x - Con.nodesL l ≤ (vlds nc nr l x d).2
 | [], x, d, hx, hd => by
  simp only [vlds, shapedL]
  rw [decide_eq_true (by simp only [Con.nodesL]; omega), decide_eq_true (by simp only [Con.depthL]; omega)]
  exact ⟨rfl, fun _ => by simp only [Con.nodesL]; omega, Int.le_refl _, by simp only [Con.nodesL]; omega⟩
 | c :: l, x, d, hx, hd => by
  obtain ⟨i1, i2, i3, i4⟩ := vld_eq nc nr c x d
  simp only [vlds, shapedL]
  by_cases h : (vld nc nr c x d).1 = true
  ·rw [if_pos h]
   have e2 := i2 h
   rw [h, eq_comm] at i1
   simp only [Bool.and_eq_true, decide_eq_true_eq] at i1
   obtain ⟨⟨q1, q2⟩, q3⟩ := i1
   obtain ⟨j1, j2, j3, j4⟩ := vlds_eq nc nr l (vld nc nr c x d).2 d (by omega) hd
   refine ⟨?_, fun q => ?_, by omega, by simp only [Con.nodesL]; omega⟩
   ·rw [j1, q3, Bool.true_and]
    congr 1
    rw [Bool.eq_iff_iff]
    simp only [Bool.and_eq_true, decide_eq_true_eq]
    simp only [Con.nodesL, Con.depthL]
    omega
   ·rw [j2 q]; simp only [Con.nodesL]; omega
  ·rw [if_neg h]
   refine ⟨?_, fun q => (by cases q), i3, by simp only [Con.nodesL]; omega⟩
   simp only [Bool.not_eq_true] at h
   rw [h, eq_comm, Bool.eq_false_iff] at i1
   rw [eq_comm, Bool.eq_false_iff]
   intro q
   apply i1
   simp only [Bool.and_eq_true, decide_eq_true_eq] at q ⊢
   simp only [Con.nodesL, Con.depthL] at q
   obtain ⟨⟨q1, q2⟩, q3, q4⟩ := q
   exact ⟨⟨by omega, by omega⟩, q3⟩
end
theorem GGa : GG m 0 = some [I64 0, I64 0, I64 0, I64 1, I64 2, I64 2, I64 1, I64 1] := rfl
theorem args_at {op : Int} (h0 : 0 ≤ op) (h1 : op ≤ 7) : icut none [I64 0, I64 0, I64 0, I64 1, I64 2, I64 2, I64 1, I64 1] op.toNat = some (I64 (arity op)) := by
 have : op = 0 ∨ op = 1 ∨ op = 2 ∨ op = 3 ∨ op = 4 ∨ op = 5 ∨ op = 6 ∨ op = 7 := by omega
 rcases this with rfl | rfl | rfl | rfl | rfl | rfl | rfl | rfl <;> rfl
theorem set_set {j : JH} {o : Nat} {x y : AObj} : (j.set o x).set o y = j.set o y := by
 unfold JH.set
 simp only [JH.mk.injEq, true_and, and_true]
 funext p; by_cases h : p = o <;> simp [h]
theorem JDropH.nextS {j : JH} {o : Nat} {a b : AObj} {l m n : List AObj} (hb : OSub (pid j.next n.length) j.tnext b b) (hl : LSub (pid j.next n.length) j.tnext l m n) : JDropH (ext (j.set o a) l) (ext (j.set o b) m) (ext (j.set o b) n) := by
 refine JDropH.next (TokExt.refl _) rfl (Nat.le_refl _) (fun p ob hp e => ?_) hl
 rw [set_get] at e ⊢
 by_cases h : p = o
 ·rw [if_pos h] at e; cases e; exact .inr hb
 ·rw [if_neg h] at e ⊢; exact .inl e
theorem arity_ne {op : Int} (h : op < 0 ∨ 7 < op) : arity op = -1 := by
 unfold arity
 repeat' split
 all_goals omega
noncomputable def ir104 : IFn := ⟨92, [⟨8, none⟩], (.seq (.reg [oA 4 (.box 24 (.r 0)), oA 5 (.box 71 (.r 1)), oA 8 (.mov (kB false))]) (.seq (.reg [oA 11 (kM 2), oA 12 (.nchk (.r 11)), oL 13 12 none, oA 14 (.bin .sub (.r 13) (kI 1)), oA 15 (.nchk (.r 11)), oN (.store 1 (.r 15) (.r 14))]) (.seq (.seq (.draw [oA 16 (kM 2), oA 17 (.nchk (.r 16)), oL 18 17 none, oA 19 (.bin .lss (.r 18) (kI 0)), oA 20 (kM 19), ⟨(some 21), (some ((20, false))), none, (kM 3)⟩, ⟨(some 22), (some ((20, false))), none, (.bin .gtr (.r 21) (kI 20))⟩, oA 23 (.pick (.r 20) (kB true) (.r 22)), oA 24 (kM 23), ⟨(some 25), (some ((24, false))), none, (.fadr 0 (.r 5))⟩, ⟨(some 26), (some ((24, false))), (some (.r 25)), (.load none (.r 25))⟩, ⟨(some 27), (some ((24, false))), none, (.bin .lss (.r 26) (kI 0))⟩, oA 28 (.pick (.r 24) (kB true) (.r 27)), oA 29 (kM 28), ⟨(some 30), (some ((29, false))), none, (.fadr 0 (.r 5))⟩, ⟨(some 31), (some ((29, false))), (some (.r 30)), (.load none (.r 30))⟩, ⟨(some 32), (some ((29, false))), none, (.bin .gtr (.r 31) (kI 7))⟩, oA 33 (.pick (.r 29) (kB true) (.r 32)), oA 34 (kM 33), ⟨(some 35), (some ((34, false))), none, (.fadr 2 (.r 5))⟩, ⟨(some 36), (some ((34, false))), (some (.r 35)), (.load none (.r 35))⟩, ⟨(some 37), (some ((34, false))), (some (.r 36)), (.lenl (.r 36))⟩, ⟨(some 38), (some ((34, false))), none, (.fadr 0 (.r 5))⟩, ⟨(some 39), (some ((34, false))), (some (.r 38)), (.load none (.r 38))⟩, ⟨(some 40), (some ((34, false))), none, (.iaar 8 1 (.g 0) (.r 39))⟩, ⟨(some 41), (some ((34, false))), (some (.r 40)), (.load none (.r 40))⟩, ⟨(some 42), (some ((34, false))), none, (.bin .neq (.r 37) (.r 41))⟩, oA 43 (.pick (.r 34) (kB true) (.r 42))] []) (.cond (.r 43) (.seq (.reg [oA 8 (.mov (kB false))]) .ret) .skip)) (.seq (.seq (.reg [oA 44 (.fadr 0 (.r 5)), oL 45 44 none]) (.block 0 (.seq (.reg [oA 50 (.bin .eql (.r 45) (kI 0)), oA 49 (kM 50)]) (.cond (.r 49) (.seq (.reg [oA 51 (.fadr 1 (.r 5)), oL 52 51 none, oA 53 (.bin .lss (.r 52) (kI 0)), oA 54 (kM 53), ⟨(some 55), (some ((54, false))), none, (.fadr 1 (.r 5))⟩, ⟨(some 56), (some ((54, false))), (some (.r 55)), (.load none (.r 55))⟩, ⟨(some 57), (some ((54, false))), none, (.fadr 0 (.r 4))⟩, ⟨(some 58), (some ((54, false))), (some (.r 57)), (.load none (.r 57))⟩, ⟨(some 59), (some ((54, false))), (some (.r 58)), (.lenl (.r 58))⟩, ⟨(some 60), (some ((54, false))), none, (.bin .geq (.r 56) (.r 59))⟩, oA 61 (.pick (.r 54) (kB true) (.r 60))]) (.cond (.r 61) (.seq (.reg [oA 8 (.mov (kB false))]) .ret) .skip)) (.seq (.seq (.reg [oA 63 (.bin .eql (.r 45) (kI 6)), oA 62 (kM 63)]) (.cond (.r 62) .skip (.reg [oA 64 (.bin .eql (.r 45) (kI 7)), oA 62 (kM 64)]))) (.cond (.r 62) (.seq (.reg [oA 65 (.fadr 1 (.r 5)), oL 66 65 none, oA 67 (.bin .lss (.r 66) (kI 0)), oA 68 (kM 67), ⟨(some 69), (some ((68, false))), none, (.fadr 1 (.r 5))⟩, ⟨(some 70), (some ((68, false))), (some (.r 69)), (.load none (.r 69))⟩, ⟨(some 71), (some ((68, false))), none, (.fadr 1 (.r 4))⟩, ⟨(some 72), (some ((68, false))), (some (.r 71)), (.load none (.r 71))⟩, ⟨(some 73), (some ((68, false))), (some (.r 72)), (.lenl (.r 72))⟩, ⟨(some 74), (some ((68, false))), none, (.bin .mul (kI 2) (.r 73))⟩, ⟨(some 75), (some ((68, false))), none, (.bin .geq (.r 70) (.r 74))⟩, oA 76 (.pick (.r 68) (kB true) (.r 75))]) (.cond (.r 76) (.seq (.reg [oA 8 (.mov (kB false))]) .ret) .skip)) (.seq (.reg [oA 46 (.fadr 1 (.r 5)), oL 47 46 none, oA 48 (.bin .neq (.r 47) (kI 0))]) (.cond (.r 48) (.seq (.reg [oA 8 (.mov (kB false))]) .ret) .skip)))))))) (.seq (.seq (.reg [oA 77 (.fadr 2 (.r 5)), oL 78 77 none, oT 79 78 (.lenl (.r 78)), oA 80 (.mov (kI 0))]) (.block 1 (.loop (.seq (.reg [oA 81 (.bin .lss (.r 80) (.r 79))]) (.seq (.cond (.r 81) .skip (.exit 1)) (.seq (.block 2 (.seq (.reg [oA 82 (.iasl 3 (.r 78) (.r 80)), oL 83 82 (some 3), oA 10 (.alloc 71 [.v (.int .i64 0), .v (.int .i64 0), .sl .nil 0 []]), oN (.store 3 (.r 10) (.r 83))]) (.seq (.reg [oL 84 4 (some 3), oL 85 10 (some 3), oA 86 (kM 2), oA 87 (kM 3), oA 88 (.bin .add (.r 87) (kI 1)), oA 89 (.call 104 [.r 84, .r 85, .r 86, .r 88]), oA 90 (.not (.r 89))]) (.cond (.r 90) (.seq (.reg [oA 8 (.mov (kB false))]) .ret) .skip)))) (.reg [oA 91 (.bin .add (.r 80) (kI 1)), oA 80 (kM 91)]))))))) (.seq (.reg [oA 8 (.mov (kB true))]) .ret))))))⟩
theorem c104 : cfunc Tryz.prog 104 = some ir104 := by kernel_rfl
theorem k104 : okIR (max 4 ir104.n) ir104.ir = true := by decide +kernel
theorem s_valid (n : Nms) (hn : n.ok) (e : TypeId) : ∀ (c : Con) (o : Nat) (x d : Int) (j : JH), c.ok → o < j.next → j.get o = some (.cells e [I64 x]) → -4611686018427387904 ≤ x - c.nodes → x ≤ 4611686018427387904 → 0 ≤ d → d ≤ 21 →
  JC Tryz.prog (GG m) 104 [.agg n.enc, .agg c.enc, .ptr o 0, I64 d] j (RET (BOO (vld n.cs.length n.rs.length c x d).1) (j.set o (.cells e [I64 (vld n.cs.length n.rs.length c x d).2]))) := by
 intro c
 induction c using Con.ind with
 | h op k args ih =>
 intro o x d j hc ho hg hx1 hx2 hd0 hd2
 simp only [Con.ok] at hc
 obtain ⟨hc1, hc2, hc3, hc4⟩ := hc
 obtain ⟨hn1, hn2, hn3⟩ := hn
 simp only [Con.nodes] at hx1
 refine JC.run hmix c104 (by exact k104) ?_
 (try simp only[↓jr,jw,seval,ext_get_old,ext_set_old,ho,hg,set_get,set_set,GGa,ir104])
 (try simp only[↓jr,jw,seval,ext_get_old,ext_set_old,ho,hg,set_get,set_set,GGa])
 refine wc.intro (by unfold R64; omega) ?_
 have hRUN := @ext_get_old
 have hv0 : ¬ (1 ≤ x ∧ d ≤ 20 ∧ SH n.cs.length n.rs.length op k args.length) → vld n.cs.length n.rs.length (Con.mk op k args) x d = (false, x - 1) := by
  intro h; simp only [vld]; rw [if_neg h]
 have hv1 : (1 ≤ x ∧ d ≤ 20 ∧ SH n.cs.length n.rs.length op k args.length) → vld n.cs.length n.rs.length (Con.mk op k args) x d = vlds n.cs.length n.rs.length args (x - 1) (d + 1) := by
  intro h; simp only [vld]; rw [if_pos h]
 have fls : ∀ {l : List AObj}, ¬ (1 ≤ x ∧ d ≤ 20 ∧ SH n.cs.length n.rs.length op k args.length) → @JFIN (ext j []) (ext (j.set o (.cells e [.v (.int .i64 (x - 1))])) l) (.v (.bool false)) ⟨fun y j' => RET (BOO (vld n.cs.length n.rs.length (Con.mk op k args) x d).1) (j.set o (.cells e [I64 (vld n.cs.length n.rs.length (Con.mk op k args) x d).2])) (.ret y) j'⟩ := by
  intro l h
  rw [hv0 h]
  exact JFIN.ret (JDropH.back1 (TokExt.refl _) ho (OSub.pure rfl)).of_ext SubB.v
 (try simp only[↓jr,jw,seval,ext_get_old,ext_set_old,ho,hg,set_get,set_set,GGa])
 refine wq.intro (fun q1 => ?_) (fun q1 => ?_)
 ·(try simp only[↓jr,jw,seval,ext_get_old,ext_set_old,ho,hg,set_get,set_set,GGa])
  refine JDRAW.oc (by (try simp only[↓jr,jw,seval,ext_get_old,ext_set_old,ho,hg,set_get,set_set,GGa,jq]) <;> exact orq) ?_; (try simp only[↓jr,jw,seval,ext_get_old,ext_set_old,ho,hg,set_get,set_set,GGa])
  exact fls (by omega)
 (try simp only[↓jr,jw,seval,ext_get_old,ext_set_old,ho,hg,set_get,set_set,GGa])
 refine wq.intro (fun q2 => ?_) (fun q2 => ?_)
 ·(try simp only[↓jr,jw,seval,ext_get_old,ext_set_old,ho,hg,set_get,set_set,GGa])
  refine JDRAW.oc (by (try simp only[↓jr,jw,seval,ext_get_old,ext_set_old,ho,hg,set_get,set_set,GGa,jq]) <;> exact orq) ?_; (try simp only[↓jr,jw,seval,ext_get_old,ext_set_old,ho,hg,set_get,set_set,GGa])
  exact fls (by omega)
 (try simp only[↓jr,jw,seval,ext_get_old,ext_set_old,ho,hg,set_get,set_set,GGa])
 refine wq.intro (fun q3 => ?_) (fun q3 => ?_)
 ·(try simp only[↓jr,jw,seval,ext_get_old,ext_set_old,ho,hg,set_get,set_set,GGa])
  refine JDRAW.oc (by (try simp only[↓jr,jw,seval,ext_get_old,ext_set_old,ho,hg,set_get,set_set,GGa,jq]) <;> exact orq) ?_; (try simp only[↓jr,jw,seval,ext_get_old,ext_set_old,ho,hg,set_get,set_set,GGa])
  refine fls (fun h => ?_)
  have := h.2.2.1; have := arity_ne (op := op) (by omega); omega
 (try simp only[↓jr,jw,seval,ext_get_old,ext_set_old,ho,hg,set_get,set_set,GGa])
 refine wq.intro (fun q4 => ?_) (fun q4 => ?_)
 ·(try simp only[↓jr,jw,seval,ext_get_old,ext_set_old,ho,hg,set_get,set_set,GGa])
  refine JDRAW.oc (by (try simp only[↓jr,jw,seval,ext_get_old,ext_set_old,ho,hg,set_get,set_set,GGa,jq]) <;> exact orq) ?_; (try simp only[↓jr,jw,seval,ext_get_old,ext_set_old,ho,hg,set_get,set_set,GGa])
  refine fls (fun h => ?_)
  have := h.2.2.1; have := arity_ne (op := op) (by omega); omega
 (try simp only[↓jr,jw,seval,ext_get_old,ext_set_old,ho,hg,set_get,set_set,GGa])
 refine wc.intro (by omega) ?_
 (try simp only[↓jr,jw,seval,ext_get_old,ext_set_old,ho,hg,set_get,set_set,GGa,args_at (op := op) (by omega) (by omega)])
 refine JDRAW.oc (by (try simp only[↓jr,jw,seval,ext_get_old,ext_set_old,ho,hg,set_get,set_set,GGa,jq]) <;> exact orq) ?_; (try simp only[↓jr,jw,seval,ext_get_old,ext_set_old,ho,hg,set_get,set_set,GGa])
 repeat' ((first | refine wq.intro (fun _ => ?_) (fun _ => ?_) | refine ww.intro (fun _ => ?_) (fun _ => ?_) | refine wc.intro (by first | omega | (unfold R64; omega) | trivial) ?_ | refine wr.in (by unfold R64; omega) ?_) <;> first | contradiction | (try simp only[↓jr,jw,seval,ext_get_old,ext_set_old,ho,hg,set_get,set_set,GGa]))
 any_goals exact fls (by rintro ⟨g1, g2, h1, h2, h3, h4, h5⟩; first | omega | (simp_all [quant]; done) | (simp_all [quant]; omega))
 all_goals
  have hSH : 1 ≤ x ∧ d ≤ 20 ∧ SH n.cs.length n.rs.length op k args.length := ⟨by omega, by omega, by omega, by omega, fun _ => by first | omega | contradiction, fun _ hq => by first | omega | (simp [quant] at hq; omega), fun _ hq => by first | omega | (simp [quant] at hq; omega)⟩
  rw [hv1 hSH]
  refine JLOOP.of (σ := Nat × Int) (fun s => s.1 ≤ args.length ∧ s.2 ≤ x ∧ x - (1 + Con.nodesL args) ≤ s.2 - Con.nodesL (args.drop s.1) ∧ vlds n.cs.length n.rs.length (args.drop s.1) s.2 (d + 1) = vlds n.cs.length n.rs.length args (x - 1) (d + 1)) (fun s => args.length - s.1)
   (fun s => [(80, I64 s.1), (79, I64 args.length), (78, .sl .none args.length (encs Con.enc args)), (4, .ptr (pid j.next 0) 0), (2, .ptr o 0), (3, I64 d)]) (fun s => ext (j.set o (.cells e [I64 s.2])) [.cells 24 n.enc, .cells 71 (Con.mk op k args).enc]) (0, x - 1) ⟨by omega, by simp only; omega, by simp only [List.drop_zero]; omega, by simp only [List.drop_zero]⟩ ?_ (JDropH.refl _) ?_
  ·have ho2 : o < pid j.next 2 := by unfold pid; omega
   ((try simp only[↓jr,jw,seval,ext_get_old,ext_set_old,ho,hg,set_get,set_set,GGa,DL]) <;> exact sbq)
  ·rintro ⟨i, y⟩ ⟨hi, hy1, hy2, hI⟩
   simp only at hi hy1 hy2 hI
   have ho2 : o < pid j.next 2 := by unfold pid; omega
   (try simp only[↓jr,jw,seval,ext_get_old,ext_set_old,ho,hg,set_get,set_set,GGa])
   refine wq.intro (fun h1 => ?_) (fun h1 => ?_)
   ·have hlt : i < (args).length := by omega
    obtain ⟨c, l, hd⟩ : ∃ c_ l_, List.drop i (args) = c_ :: l_ := ⟨_, _, List.drop_eq_getElem_cons hlt⟩
    have hd1 : List.drop (i + 1) (args) = l := by rw [← List.drop_drop, hd]; rfl
    have hmem : c ∈ args := List.mem_of_mem_drop (hd ▸ List.mem_cons_self)
    rw [hd] at hI hy2
    simp only [vlds, Con.nodesL] at hI hy2
    (try simp only[↓jr,jw,seval,ext_get_old,ext_set_old,ho,hg,set_get,set_set,GGa,hd])
    refine wc.intro (by omega) ?_
    (try simp only[↓jr,jw,seval,ext_get_old,ext_set_old,ho,hg,set_get,set_set,GGa,hd])
    refine wc.intro (by unfold R64; omega) ?_
    (try simp only[↓jr,jw,seval,ext_get_old,ext_set_old,ho,hg,set_get,set_set,GGa])
    obtain ⟨v1, v2, v3, v4⟩ := vld_eq n.cs.length n.rs.length c y (d + 1)
    refine JCs.ret (ih c hmem o y (d + 1) (ext (j.set o (.cells e [I64 y])) [.cells 24 n.enc, .cells 71 (Con.mk op k args).enc, .cells 71 c.enc]) (Con.oks_mem hc4 hmem) (by rw [ext_next, set_next]; unfold pid; omega) (by rw [ext_get_old (by rw [set_next]; exact ho), set_get, if_pos rfl]) (by omega) (by omega) (by omega) (by omega)) ?_
    (try simp only[↓jr,jw,seval,ext_get_old,ext_set_old,ho,hg,set_get,set_set,GGa])
    refine ww.intro (fun h2 => ?_) (fun h2 => ?_)
    ·(try simp only[↓jr,jw,seval,ext_get_old,ext_set_old,ho,hg,set_get,set_set,GGa])
     refine wc.intro (R64_add hlt hc3) ?_
     (try simp only[↓jr,jw,seval,ext_get_old,ext_set_old,ho,hg,set_get,set_set,GGa])
     have v2' := v2 h2
     rw [h2] at hI
     refine JNEXT.of (i + 1, (vld n.cs.length n.rs.length c y (d + 1)).2) ⟨by simp only; omega, by simp only; omega, by simp only [hd1]; omega, by simp only [hd1]; exact hI⟩ (by simp only; omega) ?_ (JDropH.nextS (OSub.pure rfl) (by simp only [LSub, and_self, true_or, and_true]))
     ((try simp only[↓jr,jw,seval,ext_get_old,ext_set_old,ho,hg,set_get,set_set,GGa,DL]) <;> exact sbq)
    ·(try simp only[↓jr,jw,seval,ext_get_old,ext_set_old,ho,hg,set_get,set_set,GGa])
     rw [h2] at hI
     simp only [Bool.false_eq_true, if_false] at hI
     rw [← hI]
     exact JFIN.ret (JDropH.back1 (TokExt.refl _) ho (OSub.pure rfl)).of_ext SubB.v
   ·(try simp only[↓jr,jw,seval,ext_get_old,ext_set_old,ho,hg,set_get,set_set,GGa])
    rw [List.drop_eq_nil_of_le (by omega)] at hI
    simp only [vlds] at hI
    rw [← hI]
    exact JFIN.ret (JDropH.back1 (TokExt.refl _) ho (OSub.pure rfl)).of_ext SubB.v
end
end
section
variable {m : GM}
noncomputable def ir72 : IFn := ⟨11, [⟨6, none⟩], (.seq (.reg [oA 3 (.box 24 (.r 0)), oA 4 (.box 71 (.r 1)), oA 6 (.mov (kB false))]) (.seq (.reg [oL 7 3 (some 3), oL 8 4 (some 3), oA 9 (kM 2), oA 10 (.call 104 [.r 7, .r 8, .r 9, .k (.v (.int .i64 1))]), oA 6 (kM 10)]) .ret))⟩
theorem c72 : cfunc Tryz.prog 72 = some ir72 := by kernel_rfl
theorem k72 : okIR (max 3 ir72.n) ir72.ir = true := by decide +kernel
theorem s_Valid (n : Nms) (hn : n.ok) (e : TypeId) (c : Con) (o : Nat) (x : Int) (j : JH) (hc : c.ok) (ho : o < j.next) (hg : j.get o = some (.cells e [I64 x])) (h1 : -4611686018427387904 ≤ x - c.nodes) (h2 : x ≤ 4611686018427387904) :
  JC Tryz.prog (GG m) 72 [.agg n.enc, .agg c.enc, .ptr o 0] j (RET (BOO (vld n.cs.length n.rs.length c x 1).1) (j.set o (.cells e [I64 (vld n.cs.length n.rs.length c x 1).2]))) := by
 refine JC.run hmix c72 (by exact k72) ?_
 (try simp only[↓jr,jw,seval,ir72])
 refine JCs.ret (s_valid n hn e c o x 1 (ext j [.cells 24 n.enc, .cells 71 c.enc]) hc (by rw [ext_next]; unfold pid; omega) (by rw [ext_get_old ho]; exact hg) h1 h2 (by omega) (by omega)) ?_
 (try simp only[↓jr,jw,seval,ext_set_old,ho])
 exact JFIN.ret (JDropH.back1 (TokExt.refl _) ho (OSub.pure rfl)).of_ext SubB.v
end
end Go.Proofs.YtcjlpklgnknpgaaGreatDoor.Pg
