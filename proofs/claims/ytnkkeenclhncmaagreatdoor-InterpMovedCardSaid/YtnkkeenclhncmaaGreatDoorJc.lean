/-
  The renumbered interpretation as the statement builds it.
-/
import Derived.Test.YtnkkeenclhncmaaGreatDoorJb
set_option linter.unusedVariables false
set_option linter.unusedSimpArgs false
set_option maxRecDepth 100000
set_option maxHeartbeats 8000000
namespace Go.Proofs.YtnkkeenclhncmaaGreatDoor.Pg
open Go
theorem insI_mem {x y : Int} : ∀ {l : List Int}, y ∈ insI l x ↔ y = x ∨ y ∈ l
  | [] => by simp [insI]
  | z :: l => by
    simp only [insI]
    split
    · rename_i h; subst h; simp
    · split
      · simp
      · rw [List.mem_cons, insI_mem (l := l), List.mem_cons]
        constructor
        · rintro (h | h | h)
          · exact .inr (.inl h)
          · exact .inl h
          · exact .inr (.inr h)
        · rintro (h | h | h)
          · exact .inr (.inl h)
          · exact .inl h
          · exact .inr (.inr h)
theorem insI_pw {x : Int} : ∀ {l : List Int}, l.Pairwise (· < ·) → (insI l x).Pairwise (· < ·)
  | [], _ => by simp [insI]
  | z :: l, h => by
    obtain ⟨h1, h2⟩ := List.pairwise_cons.1 h
    simp only [insI]
    split
    · exact h
    · split
      · rename_i g1 g2
        refine List.pairwise_cons.2 ⟨fun y hy => ?_, h⟩
        rcases List.mem_cons.1 hy with rfl | hy
        · exact g2
        · have := h1 y hy; omega
      · rename_i g1 g2
        refine List.pairwise_cons.2 ⟨fun y hy => ?_, insI_pw h2⟩
        rcases insI_mem.1 hy with rfl | hy
        · omega
        · exact h1 y hy
theorem strictI : ∀ {l m : List Int}, l.Pairwise (· < ·) → m.Pairwise (· < ·) → (∀ x, x ∈ l ↔ x ∈ m) → l = m
  | [], [], _, _, _ => rfl
  | [], y :: m, _, _, h => by have := (h y).2 List.mem_cons_self; cases this
  | x :: l, [], _, _, h => by have := (h x).1 List.mem_cons_self; cases this
  | x :: l, y :: m, h1, h2, h => by
    obtain ⟨a1, b1⟩ := List.pairwise_cons.1 h1
    obtain ⟨a2, b2⟩ := List.pairwise_cons.1 h2
    have exy : x = y := by
      rcases List.mem_cons.1 ((h x).1 List.mem_cons_self) with e | e
      · exact e
      rcases List.mem_cons.1 ((h y).2 List.mem_cons_self) with e' | e'
      · exact e'.symm
      · have := a2 x e; have := a1 y e'; omega
    subst exy
    rw [strictI b1 b2 fun z => ⟨fun hz => ?_, fun hz => ?_⟩]
    · rcases List.mem_cons.1 ((h z).1 (List.mem_cons_of_mem _ hz)) with rfl | e
      · have := a1 z hz; omega
      · exact e
    · rcases List.mem_cons.1 ((h z).2 (List.mem_cons_of_mem _ hz)) with rfl | e
      · have := a2 z hz; omega
      · exact e
theorem bitsL_mem {f : Nat → Bool} {n : Nat} {x : Int} : x ∈ bitsL f n ↔ ∃ u : Nat, x = u ∧ u < n ∧ f u = true := by
  unfold bitsL
  rw [List.mem_map]
  constructor
  · rintro ⟨u, hu, rfl⟩
    obtain ⟨h1, h2⟩ := List.mem_filter.1 hu
    exact ⟨u, rfl, List.mem_range.1 h1, h2⟩
  · rintro ⟨u, rfl, h1, h2⟩
    exact ⟨u, List.mem_filter.2 ⟨List.mem_range.2 h1, h2⟩, rfl⟩
theorem bitsL_pw {f : Nat → Bool} {n : Nat} : (bitsL f n).Pairwise (· < ·) := by
  unfold bitsL
  rw [List.pairwise_map]
  exact List.Pairwise.imp (fun {a b} h => by omega) ((List.pairwise_lt_range (n := n)).filter _)
theorem ins_bits {l : List Int} {x : Int} {n : Nat} (h0 : 0 ≤ x) (h1 : x < n) : insI (bitsL (memF l) n) x = bitsL (memF (l ++ [x])) n := by
  refine strictI (insI_pw bitsL_pw) bitsL_pw fun z => ?_
  rw [insI_mem, bitsL_mem, bitsL_mem]
  unfold memF
  constructor
  · rintro (rfl | ⟨u, rfl, hu, hm⟩)
    · refine ⟨z.toNat, by omega, by omega, ?_⟩
      rw [List.contains_iff_mem, show ((z.toNat : Nat) : Int) = z by omega]; simp
    · refine ⟨u, rfl, hu, ?_⟩
      rw [List.contains_iff_mem] at hm ⊢
      exact List.mem_append.2 (.inl hm)
  · rintro ⟨u, rfl, hu, hm⟩
    rw [List.contains_iff_mem] at hm
    rcases List.mem_append.1 hm with h | h
    · exact .inr ⟨u, rfl, hu, by rw [List.contains_iff_mem]; exact h⟩
    · exact .inl (List.mem_singleton.1 h)
def rowQ (n : Nat) (l : List (Int × Int)) (a b : Nat) : List (Int × Int) := ((List.range b).filter fun (b : Nat) => decide (((a : Int), (b : Int)) ∈ l)).map fun (b : Nat) => ((a : Int), (b : Int))
def sortQ (n : Nat) (l : List (Int × Int)) (a : Nat) : List (Int × Int) := (List.range a).flatMap fun a => rowQ n l a n
theorem sortQ_all {n : Nat} {l : List (Int × Int)} : sortQ n l n = sortP n l := rfl
theorem sortQ_succ {n : Nat} {l : List (Int × Int)} {a : Nat} : sortQ n l (a + 1) = sortQ n l a ++ rowQ n l a n := by
  unfold sortQ; rw [List.range_succ, List.flatMap_append]; simp
theorem rowQ_succ {n : Nat} {l : List (Int × Int)} {a b : Nat} : rowQ n l a (b + 1) = rowQ n l a b ++ if ((a : Int), (b : Int)) ∈ l then [((a : Int), (b : Int))] else [] := by
  unfold rowQ
  rw [List.range_succ, List.filter_append, List.map_append]
  congr 1
  by_cases h : ((a : Int), (b : Int)) ∈ l <;> simp [h]
theorem rowQ_len {n : Nat} {l : List (Int × Int)} {a b : Nat} : (rowQ n l a b).length ≤ b := by
  unfold rowQ; rw [List.length_map]; exact Nat.le_trans (List.length_filter_le _ _) (by simp)
theorem sortQ_len {n : Nat} {l : List (Int × Int)} : ∀ {a : Nat}, (sortQ n l a).length ≤ a * n
  | 0 => by simp [sortQ]
  | a + 1 => by
    rw [sortQ_succ, List.length_append, Nat.add_mul]
    have := @rowQ_len n l a n
    have := @sortQ_len n l a
    omega
def sqb (n : Nat) (l : List (Int × Int)) (a b : Nat) : List (Int × Int) := sortQ n l a ++ rowQ n l a b
theorem sqb_all {n : Nat} {l : List (Int × Int)} {a : Nat} : sqb n l a n = sortQ n l (a + 1) := sortQ_succ.symm
def movC (i : Itp) (y : Int) (l : List (List Int)) : List (List Int) := l.map fun l => bitsL (memF (l.map (plc y i.size))) (sz i)
def movR (i : Itp) (y : Int) (l : List (List (Int × Int))) : List (List (Int × Int)) := l.map fun l => sortP (sz i) (l.map (plp y i.size))
theorem movC_len {i : Itp} {y : Int} {l : List (List Int)} : (movC i y l).length = l.length := by simp [movC]
theorem movR_len {i : Itp} {y : Int} {l : List (List (Int × Int))} : (movR i y l).length = l.length := by simp [movR]
section
variable {m : GM} {G : Nat → Option (List AV)}
def ir10 : IFn := ⟨130, [⟨4, (some (some 4))⟩], (.seq (.reg [oA 2 (.box 38 (.r 0)), oA 4 (.alloc 38 [.v (.int .i64 0), .sl .nil 0 [], .sl .nil 0 [], .sl .nil 0 []])]) (.seq (.reg [oA 21 (.fadr 0 (.r 2)), oL 22 21 none, oA 23 (.build [.v (.int .i64 0), .sl .nil 0 [], .sl .nil 0 [], .sl .nil 0 []] [(0, (1, .r 22))]), oA 5 (.alloc 38 [.v (.int .i64 0), .sl .nil 0 [], .sl .nil 0 [], .sl .nil 0 []]), oN (.store 4 (.r 5) (.r 23))]) (.seq (.seq (.reg [oA 24 (.fadr 1 (.r 2)), oL 25 24 none, oT 26 25 (.lenl (.r 25)), oA 27 (.mov (kI 0))]) (.block 0 (.loop (.seq (.reg [oA 28 (.bin .lss (.r 27) (.r 26))]) (.seq (.cond (.r 28) .skip (.exit 0)) (.seq (.block 1 (.seq (.reg [oA 29 (.iasl 1 (.r 25) (.r 27)), oL 30 29 none, oA 7 (kM 30)]) (.seq (.reg [oA 8 (.mov (.k (.sl .nil 0 [])))]) (.seq (.seq (.reg [oA 31 (kM 7), oT 32 31 (.lenl (.r 31)), oA 33 (.mov (kI 0))]) (.block 2 (.loop (.seq (.reg [oA 34 (.bin .lss (.r 33) (.r 32))]) (.seq (.cond (.r 34) .skip (.exit 2)) (.seq (.block 3 (.seq (.reg [oA 35 (.iasl 1 (.r 31) (.r 33)), oL 36 35 none, oA 10 (kM 36)]) (.reg [oA 37 (kM 8), oA 38 (kM 10), oA 39 (kM 1), oA 40 (.fadr 0 (.r 2)), oL 41 40 none, oA 42 (.call 14 [.r 38, .r 39, .r 41]), oA 43 (.call 34 [.r 37, .r 42]), oA 8 (kM 43)]))) (.reg [oA 44 (.bin .add (.r 33) (kI 1)), oA 33 (kM 44)]))))))) (.reg [oA 45 (.fadr 1 (.r 5)), oL 46 45 none, oA 47 (kM 8), oA 48 (.bsl 1 1 [.sl .nil 0 []] [(0, (1, .r 47))]), oA 49 (.app 1 24 (.r 46) (.r 48)), oA 50 (.fadr 1 (.r 5)), oN (.store 1 (.r 50) (.r 49))]))))) (.reg [oA 51 (.bin .add (.r 27) (kI 1)), oA 27 (kM 51)]))))))) (.seq (.seq (.reg [oA 52 (.fadr 2 (.r 2)), oL 53 52 none, oT 54 53 (.lenl (.r 53)), oA 55 (.mov (kI 0))]) (.block 4 (.loop (.seq (.reg [oA 56 (.bin .lss (.r 55) (.r 54))]) (.seq (.cond (.r 56) .skip (.exit 4)) (.seq (.block 5 (.seq (.reg [oA 57 (.iasl 1 (.r 53) (.r 55)), oL 58 57 none, oA 12 (kM 58)]) (.seq (.reg [oA 59 (.mkmap), oA 13 (kM 59)]) (.seq (.seq (.reg [oA 60 (kM 12), oT 61 60 (.lenl (.r 60)), oA 62 (.mov (kI 0))]) (.block 6 (.loop (.seq (.reg [oA 63 (.bin .lss (.r 62) (.r 61))]) (.seq (.cond (.r 63) .skip (.exit 6)) (.seq (.block 7 (.seq (.reg [oA 64 (.iasl 2 (.r 60) (.r 62)), oL 65 64 (some 2), oA 15 (.alloc 75 [.v (.int .i64 0), .v (.int .i64 0)]), oN (.store 2 (.r 15) (.r 65))]) (.draw [oA 66 (kM 13), oA 67 (.iaar 2 1 (.r 15) (kI 0)), oL 68 67 none, oA 69 (kM 1), oA 70 (.fadr 0 (.r 2)), oL 71 70 none, oA 72 (.call 14 [.r 68, .r 69, .r 71]), oA 73 (.iaar 2 1 (.r 15) (kI 1)), oL 74 73 none, oA 75 (kM 1), oA 76 (.fadr 0 (.r 2)), oL 77 76 none, oA 78 (.call 14 [.r 74, .r 75, .r 77]), oA 79 (.build [.v (.int .i64 0), .v (.int .i64 0)] [(0, (1, .r 72)), (1, (1, .r 78))]), oN (.mapup (.array 2 3) (.r 66) (.r 79) (kB true))] [(8, 6), (11, 6)]))) (.reg [oA 80 (.bin .add (.r 62) (kI 1)), oA 62 (kM 80)]))))))) (.seq (.reg [oA 16 (.mov (.k (.sl .nil 0 [])))]) (.seq (.seq (.reg [oA 81 (.fadr 0 (.r 2)), oL 82 81 none, oA 83 (.mov (kI 0))]) (.block 8 (.loop (.seq (.reg [oA 84 (.bin .lss (.r 83) (.r 82))]) (.seq (.cond (.r 84) .skip (.exit 8)) (.seq (.block 9 (.seq (.reg [oA 85 (kM 83), oA 17 (kM 85)]) (.seq (.reg [oA 86 (.fadr 0 (.r 2)), oL 87 86 none, oA 88 (.mov (kI 0))]) (.block 10 (.loop (.seq (.reg [oA 89 (.bin .lss (.r 88) (.r 87))]) (.seq (.cond (.r 89) .skip (.exit 10)) (.seq (.block 11 (.seq (.reg [oA 90 (kM 88), oA 18 (kM 90)]) (.seq (.reg [oA 91 (kM 13), oA 92 (kM 17), oA 93 (kM 18), oA 94 (.build [.v (.int .i64 0), .v (.int .i64 0)] [(0, (1, .r 92)), (1, (1, .r 93))]), oT 95 91 (.lookup (.array 2 3) (.v (.bool false)) false (.r 91) (.r 94))]) (.cond (.r 95) (.reg [oA 96 (kM 16), oA 97 (kM 17), oA 98 (kM 18), oA 99 (.build [.v (.int .i64 0), .v (.int .i64 0)] [(0, (1, .r 97)), (1, (1, .r 98))]), oA 100 (.bsl 1 2 [.v (.int .i64 0), .v (.int .i64 0)] [(0, (2, .r 99))]), oA 101 (.app 2 16 (.r 96) (.r 100)), oA 16 (kM 101)]) .skip)))) (.reg [oA 102 (.bin .add (.r 88) (kI 1)), oA 88 (kM 102)]))))))))) (.reg [oA 103 (.bin .add (.r 83) (kI 1)), oA 83 (kM 103)]))))))) (.reg [oA 104 (.fadr 2 (.r 5)), oL 105 104 none, oA 106 (kM 16), oA 107 (.bsl 1 1 [.sl .nil 0 []] [(0, (1, .r 106))]), oA 108 (.app 1 24 (.r 105) (.r 107)), oA 109 (.fadr 2 (.r 5)), oN (.store 1 (.r 109) (.r 108))]))))))) (.reg [oA 110 (.bin .add (.r 55) (kI 1)), oA 55 (kM 110)]))))))) (.seq (.seq (.reg [oA 111 (.fadr 3 (.r 2)), oL 112 111 none, oT 113 112 (.lenl (.r 112)), oA 114 (.mov (kI 0))]) (.block 12 (.loop (.seq (.reg [oA 115 (.bin .lss (.r 114) (.r 113))]) (.seq (.cond (.r 115) .skip (.exit 12)) (.seq (.block 13 (.seq (.reg [oA 116 (.iasl 1 (.r 112) (.r 114)), oL 117 116 none, oA 20 (kM 117)]) (.draw [oA 118 (.fadr 3 (.r 5)), oL 119 118 none, oA 120 (kM 20), oA 121 (kM 1), oA 122 (.fadr 0 (.r 2)), oL 123 122 none, oA 124 (.call 14 [.r 120, .r 121, .r 123]), oA 125 (.bsl 1 1 [.v (.int .i64 0)] [(0, (1, .r 124))]), oA 126 (.app 1 8 (.r 119) (.r 125)), oA 127 (.fadr 3 (.r 5)), oN (.store 1 (.r 127) (.r 126))] [(1, 6)]))) (.reg [oA 128 (.bin .add (.r 114) (kI 1)), oA 114 (kM 128)]))))))) (.seq (.reg [oL 129 5 (some 4), oN (.store 4 (.r 4) (.r 129))]) .ret))))))⟩
theorem c10 : cfunc Tryz.prog 10 = some ir10 := by kernel_rfl
theorem k10 : okIR (max 2 ir10.n) ir10.ir = true := by decide +kernel
theorem s_moved (i : Itp) (hi : i.wf) (hok : i.ok) (hr : ∀ l ∈ i.rols, rolOKp i.size l = true) (hii : ∀ x ∈ i.inds, 0 ≤ x ∧ x < i.size) (hb : i.cons.length ≤ 100000 ∧ i.rols.length ≤ 100000 ∧ i.inds.length ≤ 100000) (y : Int) (j : JH) : JC Tryz.prog G 10 [.agg i.enc, I64 y] j (RET (.agg (movI i y).enc) j) := by
  obtain ⟨e1, e2, e3⟩ := sz_size hi
  obtain ⟨b1, b2, b3⟩ := hb
  have hL : ∀ l ∈ i.rols, l.length ≤ 65536 := fun l hl => rol_len hi.s1 hi.s2 (hr l hl)
  refine JC.run hmix c10 (by exact k10) ?_
  (try simp only[↓jr,jw,seval,ji,ext_ext,pid_pid,e1,ir10])
  refine JLOOP.of (σ := Nat × Tok × JH) (fun s => s.1 ≤ i.cons.length ∧ TokExt j s.2.2 ∧ CanApp j s.2.2 s.2.1 1 s.1) (fun s => i.cons.length - s.1)
    (fun s => [(27, I64 s.1), (26, I64 i.cons.length), (25, .sl .none i.cons.length (encs IL i.cons)), (2, .ptr (pid j.next 0) 0), (5, .ptr (pid j.next 2) 0), (1, I64 y), (4, .ptr (pid j.next 1) 0)])
    (fun s => ext s.2.2 [.cells 38 i.enc, .cells 38 ZI, .cells 38 [I64 (sz i), .sl s.2.1 s.1 (encs IL ((movC i y) (i.cons.take s.1))), .sl .nil 0 [], .sl .nil 0 []]]) (0, .nil, j) ⟨Nat.zero_le _, TokExt.refl _, CanApp.nil⟩ ?_ ?_ ?_
  · (try simp only[↓jr,jw,seval,ji,ext_ext,pid_pid,e1,DL])
    exact ⟨SubB.v, SubB.v, SubB.sl rfl (SubBs.pure (IL.pur _)), SubB.ptr (by have := e2; unfold pid; omega), SubB.ptr (by have := e2; unfold pid; omega), SubB.v, SubB.ptr (by have := e2; unfold pid; omega)⟩
  · exact JDropH.refl _
  rintro ⟨k, tk, jx⟩ ⟨hkk, ht, hc⟩
  simp only at hkk ht hc
  have hnx := ht.next
  (try simp only[↓jr,jw,seval,ji,ext_ext,pid_pid,e1,ht.next])
  refine wq.intro (fun g1 => ?_) (fun g1 => ?_)
  · have hlt : k < (i.cons).length := by omega
    obtain ⟨x, r, hd⟩ : ∃ c_ l_, List.drop k (i.cons) = c_ :: l_ := ⟨_, _, List.drop_eq_getElem_cons hlt⟩
    have hd1 : List.drop (k + 1) (i.cons) = r := by rw [← List.drop_drop, hd]; rfl
    have hmem : x ∈ i.cons := List.mem_of_mem_drop (hd ▸ List.mem_cons_self)
    have hxr := hi.c x hmem
    have hxl := (hok.c2 x hmem).1
    (try simp only[↓jr,jw,seval,ji,ext_ext,pid_pid,e1,hd,ht.next])
    refine wc.intro (by omega) ?_
    (try simp only[↓jr,jw,seval,ji,ext_ext,pid_pid,e1,hd,ht.next])
    refine JLOOP.of (σ := Nat × Tok × JH) (fun s => s.1 ≤ x.length ∧ TokExt jx s.2.2 ∧ CanApp jx s.2.2 s.2.1 1 (bitsL (memF ((x.take s.1).map (plc y (sz i)))) (sz i)).length) (fun s => x.length - s.1)
      (fun s => [(33, I64 s.1), (32, I64 x.length), (31, .sl .none x.length (ints x)), (8, .sl s.2.1 (bitsL (memF ((x.take s.1).map (plc y (sz i)))) (sz i)).length (ints (bitsL (memF ((x.take s.1).map (plc y (sz i)))) (sz i)))), (27, I64 k), (26, I64 i.cons.length), (25, .sl .none i.cons.length (encs IL i.cons)), (2, .ptr (pid j.next 0) 0), (5, .ptr (pid j.next 2) 0), (1, I64 y), (4, .ptr (pid j.next 1) 0)])
      (fun s => ext s.2.2 [.cells 38 i.enc, .cells 38 ZI, .cells 38 [I64 (sz i), .sl tk k (encs IL ((movC i y) (i.cons.take k))), .sl .nil 0 [], .sl .nil 0 []]]) (0, .nil, jx) ⟨Nat.zero_le _, TokExt.refl _, .inl ⟨rfl, by simp [bitsL, memF]⟩⟩ ?_ ?_ ?_
    · (try simp only[↓jr,jw,seval,ji,ext_ext,pid_pid,e1,DL,ht.next])
      refine ⟨SubB.v, SubB.v, SubB.sl rfl (SubBs.pure (ints_pur _)), ?_, SubB.v, SubB.v, SubB.sl rfl (SubBs.pure (IL.pur _)), SubB.ptr (by have := hnx; unfold pid; omega), SubB.ptr (by have := hnx; unfold pid; omega), SubB.v, SubB.ptr (by have := hnx; unfold pid; omega)⟩
      simp only [List.take_zero, List.map_nil]
      rw [show bitsL (memF []) (sz i) = [] from by simp [bitsL, memF]]
      exact SubB.pure rfl
    · exact JDropH.refl _
    rintro ⟨q, tk8, jy⟩ ⟨hq, hty, hc8⟩
    simp only at hq hty hc8
    have htj := ht.trans hty
    have hny := htj.next
    (try simp only[↓jr,jw,seval,ji,ext_ext,pid_pid,e1,htj.next])
    refine wq.intro (fun g2 => ?_) (fun g2 => ?_)
    · have hltq : q < x.length := by omega
      obtain ⟨p, pr, hpd⟩ : ∃ c_ l_, List.drop q x = c_ :: l_ := ⟨_, _, List.drop_eq_getElem_cons hltq⟩
      have hpm : p ∈ x := List.mem_of_mem_drop (hpd ▸ List.mem_cons_self)
      obtain ⟨p0, p1⟩ := hxr p hpm
      obtain ⟨u, rfl⟩ : ∃ u : Nat, p = u := ⟨p.toNat, by omega⟩
      have hp := plc_in (y := y) (n := (sz i : Int)) (x := (u : Int)) (by omega) (by omega) (by omega)
      have hbl := @bitsL_len (memF ((x.take q).map (plc y (sz i)))) (sz i)
      have eI : insI (bitsL (memF ((x.take q).map (plc y (sz i)))) (sz i)) (plc y (sz i) u) = bitsL (memF ((x.take (q + 1)).map (plc y (sz i)))) (sz i) := by
        rw [ins_bits hp.1 hp.2, take_snoc hpd, List.map_append]; rfl
      (try simp only[↓jr,jw,seval,ji,ext_ext,pid_pid,e1,hpd,htj.next])
      refine wc.intro (by omega) ?_
      (try simp only[↓jr,jw,seval,ji,ext_ext,pid_pid,e1,hpd,htj.next])
      refine JCs.ret (s_place y (sz i) u (by omega) e2 (by omega) _) ?_
      (try simp only[↓jr,jw,seval,ji,ext_ext,pid_pid,e1,htj.next])
      refine JCs.use (s_Insert (bitsL (memF ((x.take q).map (plc y (sz i)))) (sz i)) (plc y (sz i) u) tk8 _ jx jy (by omega) hc8 hty) ?_
      rintro o1 j1 ⟨tok1, jz, rfl, rfl, htz, hle, hcan⟩
      rw [eI] at hcan ⊢
      have hnz := (ht.trans htz).next
      (try simp only[↓jr,jw,seval,ji,ext_ext,pid_pid,e1,hnz])
      refine wc.intro (by unfold R64; omega) ?_
      (try simp only[↓jr,jw,seval,ji,ext_ext,pid_pid,e1,hnz])
      refine JNEXT.of (q + 1, tok1, jz) ⟨by simp only; omega, htz, hcan⟩ (by simp only; omega) ?_ (JDropH.nextT hty htz (TokExt.refl _) hle ⟨.inl ⟨rfl, rfl⟩, .inl ⟨rfl, rfl⟩, .inl ⟨rfl, rfl⟩, True.intro⟩)
      (try simp only[↓jr,jw,seval,ji,ext_ext,pid_pid,e1,DL,hnz])
      exact ⟨SubB.v, SubB.v, SubB.sl rfl (SubBs.pure (ints_pur _)), SubB.can hcan (ints_pur _), SubB.v, SubB.v, SubB.sl rfl (SubBs.pure (IL.pur _)), SubB.ptr (by have := hnz; unfold pid; omega), SubB.ptr (by have := hnz; unfold pid; omega), SubB.v, SubB.ptr (by have := hnz; unfold pid; omega)⟩
    · (try simp only[↓jr,jw,seval,ji,ext_ext,pid_pid,e1,htj.next])
      have eq : q = x.length := by omega
      subst eq
      rw [List.take_length] at hc8 ⊢
      have hck := (hc.ext hty).push (F := 1)
      refine JAPP.can' hck (htj.push 1) (by rw [d_ill, movC_len, List.length_take]; omega) rfl rfl (by omega) (by omega) ?_
      intro tok1 j1 hcan ht3 hle
      have hle' : jy.tnext ≤ j1.tnext := Nat.le_trans (Nat.le_succ _) hle
      have hn3 := ht3.next
      (try simp only[↓jr,jw,seval,ji,ext_ext,pid_pid,e1,ht3.next])
      refine wc.intro (by unfold R64; omega) ?_
      (try simp only[↓jr,jw,seval,ji,ext_ext,pid_pid,e1,ht3.next])
      have em : movC i y (i.cons.take (k + 1)) = movC i y (i.cons.take k) ++ [bitsL (memF (x.map (plc y (sz i)))) (sz i)] := by
        rw [take_snoc hd]; unfold movC; rw [List.map_append, e1]; rfl
      have ee : encs IL (movC i y (i.cons.take (k + 1))) = encs IL (movC i y (i.cons.take k)) ++ [.sl .none (bitsL (memF (x.map (plc y (sz i)))) (sz i)).length (ints (bitsL (memF (x.map (plc y (sz i)))) (sz i)))] := by
        rw [em, encs_append]; rfl
      refine JNEXT.of (k + 1, tok1, j1) ⟨by simp only; omega, ht3, hcan⟩ (by simp only; omega) ?_ (JDropH.nextT ht ht3 (TokExt.refl _) (Nat.le_trans hty.tnext hle') ⟨.inl ⟨rfl, rfl⟩, .inl ⟨rfl, rfl⟩, .inr ⟨rfl, SubB.v, ?_, SubB.pure rfl, SubB.pure rfl, True.intro⟩, True.intro⟩)
      · (try simp only[↓jr,jw,seval,ji,ext_ext,pid_pid,e1,DL,ht3.next])
        exact ⟨SubB.v, SubB.v, SubB.sl rfl (SubBs.pure (IL.pur _)), SubB.ptr (by have := hn3; unfold pid; omega), SubB.ptr (by have := hn3; unfold pid; omega), SubB.v, SubB.ptr (by have := hn3; unfold pid; omega)⟩
      · rw [ee]
        exact SubB.canS hcan (by omega) (SubBs.append (SubBs.pure (IL.pur _)) ⟨SubB.sl rfl (SubBs.pure (ints_pur _)), True.intro⟩)
  have ek : k = i.cons.length := by omega
  subst ek
  rw [List.take_length]
  (try simp only[↓jr,jw,seval,ji,ext_ext,pid_pid,e1,ht.next])
  refine JLOOP.of (σ := Nat × Tok × JH) (fun s => s.1 ≤ i.rols.length ∧ TokExt j s.2.2 ∧ CanApp j s.2.2 s.2.1 1 s.1) (fun s => i.rols.length - s.1)
    (fun s => [(55, I64 s.1), (54, I64 i.rols.length), (53, .sl .none i.rols.length (encs PL i.rols)), (2, .ptr (pid j.next 0) 0), (5, .ptr (pid j.next 2) 0), (1, I64 y), (4, .ptr (pid j.next 1) 0)])
    (fun s => ext s.2.2 [.cells 38 i.enc, .cells 38 ZI, .cells 38 [I64 (sz i), .sl .none i.cons.length (encs IL (movC i y i.cons)), .sl s.2.1 s.1 (encs PL (movR i y (i.rols.take s.1))), .sl .nil 0 []]]) (0, .nil, jx) ⟨Nat.zero_le _, ht, CanApp.nil⟩ ?_ (JDropH.nextT ht ht (TokExt.refl _) (Nat.le_refl _) ⟨.inl ⟨rfl, rfl⟩, .inl ⟨rfl, rfl⟩, .inr ⟨rfl, SubB.v, SubB.sl rfl (SubBs.pure (IL.pur _)), SubB.pure rfl, SubB.pure rfl, True.intro⟩, True.intro⟩) ?_
  · (try simp only[↓jr,jw,seval,ji,ext_ext,pid_pid,e1,DL,ht.next])
    exact ⟨SubB.v, SubB.v, SubB.sl rfl (SubBs.pure (PL.pur _)), SubB.ptr (by have := hnx; unfold pid; omega), SubB.ptr (by have := hnx; unfold pid; omega), SubB.v, SubB.ptr (by have := hnx; unfold pid; omega)⟩
  clear hc g1 hkk
  clear hnx ht
  clear jx tk
  rintro ⟨k, tk, jx⟩ ⟨hkk, ht, hc⟩
  simp only at hkk ht hc
  have hnx := ht.next
  (try simp only[↓jr,jw,seval,ji,ext_ext,pid_pid,e1,ht.next])
  refine wq.intro (fun g1 => ?_) (fun g1 => ?_)
  · have hlt : k < (i.rols).length := by omega
    obtain ⟨x, r, hd⟩ : ∃ c_ l_, List.drop k (i.rols) = c_ :: l_ := ⟨_, _, List.drop_eq_getElem_cons hlt⟩
    have hd1 : List.drop (k + 1) (i.rols) = r := by rw [← List.drop_drop, hd]; rfl
    have hmem : x ∈ i.rols := List.mem_of_mem_drop (hd ▸ List.mem_cons_self)
    have hxr := hi.r x hmem
    have hxl := hL x hmem
    have hnd : x.Nodup := by
      have h := hr x hmem
      rw [← rolR_start] at h
      exact List.Pairwise.imp (fun {a b} hab e => by subst e; exact less_irr hab) (rol_pw h).1
    (try simp only[↓jr,jw,seval,ji,ext_ext,pid_pid,e1,hd,ht.next])
    refine wc.intro (by omega) ?_
    (try simp only[↓jr,jw,seval,ji,ext_ext,pid_pid,e1,hd,ht.next])
    refine JLOOP.of (σ := Nat) (fun q => q ≤ x.length) (fun q => x.length - q)
      (fun q => [(62, I64 q), (61, I64 x.length), (60, .sl .none x.length (encs PR x)), (13, .mp (pid j.next 3)), (55, I64 k), (54, I64 i.rols.length), (53, .sl .none i.rols.length (encs PL i.rols)), (2, .ptr (pid j.next 0) 0), (5, .ptr (pid j.next 2) 0), (1, I64 y), (4, .ptr (pid j.next 1) 0)])
      (fun q => ext jx [.cells 38 i.enc, .cells 38 ZI, .cells 38 [I64 (sz i), .sl .none i.cons.length (encs IL (movC i y i.cons)), .sl tk k (encs PL (movR i y (i.rols.take k))), .sl .nil 0 []], .map (mapP ((x.take q).map (plp y (sz i))))]) 0 (Nat.zero_le _) ?_ (JDropH.refl _) ?_
    · (try simp only[↓jr,jw,seval,ji,ext_ext,pid_pid,e1,DL,ht.next])
      exact ⟨SubB.v, SubB.v, SubB.sl rfl (SubBs.pure (PR.pur _)), SubB.mp (by have := hnx; unfold pid; omega), SubB.v, SubB.v, SubB.sl rfl (SubBs.pure (PL.pur _)), SubB.ptr (by have := hnx; unfold pid; omega), SubB.ptr (by have := hnx; unfold pid; omega), SubB.v, SubB.ptr (by have := hnx; unfold pid; omega)⟩
    intro q hq
    (try simp only[↓jr,jw,seval,ji,ext_ext,pid_pid,e1,ht.next])
    refine wq.intro (fun g2 => ?_) (fun g2 => ?_)
    · have hltq : q < x.length := by omega
      obtain ⟨⟨pa, pb⟩, pr, hpd⟩ : ∃ c_ l_, List.drop q x = c_ :: l_ := ⟨_, _, List.drop_eq_getElem_cons hltq⟩
      have hpm : (pa, pb) ∈ x := List.mem_of_mem_drop (hpd ▸ List.mem_cons_self)
      obtain ⟨p0, p1, p2, p3⟩ := hxr _ hpm
      simp only at p0 p1 p2 p3
      obtain ⟨u, rfl⟩ : ∃ u : Nat, pa = u := ⟨pa.toNat, by omega⟩
      obtain ⟨v, rfl⟩ : ∃ v : Nat, pb = v := ⟨pb.toNat, by omega⟩
      have hnot : ¬ (plc y (sz i) u, plc y (sz i) v) ∈ (x.take q).map (plp y (sz i)) := by
        intro hin
        obtain ⟨w, hw, e⟩ := List.mem_map.1 hin
        have hwx := hxr w (List.mem_of_mem_take hw)
        obtain ⟨q1, q2⟩ := Prod.mk.inj e
        have f1 := plc_inj (y := y) (n := (sz i : Int)) (by omega) (by omega) (by omega) (by omega) (by omega) q1
        have f2 := plc_inj (y := y) (n := (sz i : Int)) (by omega) (by omega) (by omega) (by omega) (by omega) q2
        have ew : w = ((u : Int), (v : Int)) := Prod.ext f1 f2
        rw [ew] at hw
        have hps : x = x.take q ++ (((u : Int), (v : Int)) :: pr) := by rw [← hpd]; exact (List.take_append_drop q x).symm
        rw [hps] at hnd
        exact (List.nodup_append.1 hnd).2.2 _ hw _ (by simp) rfl
      (try simp only[↓jr,jw,seval,ji,ext_ext,pid_pid,e1,hpd,ht.next])
      refine wc.intro (by omega) ?_
      (try simp only[↓jr,jw,seval,ji,ext_ext,pid_pid,e1,hpd,ht.next])
      refine JDC.use (s_place y (sz i) u (by omega) e2 (by omega) _) ?_
      (try simp only[↓jr,jw,seval,ji,ext_ext,pid_pid,e1,ht.next])
      refine JDC.use (s_place y (sz i) v (by omega) e2 (by omega) _) ?_
      (try simp only[↓jr,jw,seval,ji,ext_ext,pid_pid,e1,ht.next])
      refine JMAPUP.newP (ext_get_new hnx) hnot ?_
      (try simp only[↓jr,jw,seval,ji,ext_ext,pid_pid,e1,ht.next])
      refine JDRAW.oc (by (try simp only[↓jr,jw,seval,ji,ext_ext,pid_pid,e1,jq,qe2,qe3,ext_next,ext_tnext,pushTok_next,List.length_cons,List.length_nil]) <;> (repeat' (first | exact trivial | refine And.intro ?_ ?_ | exact Nat.le_refl _ | (refine pr_extp ⟨_, rfl⟩ (some_lt ?_)) | (refine pr_extp ⟨_, rfl⟩ (fun _ q => by cases q)) | omega | (unfold pid; omega) | (simp only [pushTok_next, List.length_cons, List.length_nil]; unfold pid; omega)))) ?_; (try simp only[↓jr,jw,seval,ji,ext_ext,pid_pid,e1])
      refine wc.intro (by unfold R64; omega) ?_
      (try simp only[↓jr,jw,seval,ji,ext_ext,pid_pid,e1,ht.next])
      have et : (x.take (q + 1)).map (plp y (sz i)) = (x.take q).map (plp y (sz i)) ++ [(plc y (sz i) u, plc y (sz i) v)] := by rw [take_snoc hpd, List.map_append]; rfl
      rw [← et]
      refine JNEXT.of (q + 1) (by omega) (by omega) ?_ (JDropH.next0 (TokExt.refl _) ⟨.inl ⟨rfl, rfl⟩, .inl ⟨rfl, rfl⟩, .inl ⟨rfl, rfl⟩, .inr OSub.mapP, True.intro⟩)
      (try simp only[↓jr,jw,seval,ji,ext_ext,pid_pid,e1,DL,ht.next])
      exact ⟨SubB.v, SubB.v, SubB.sl rfl (SubBs.pure (PR.pur _)), SubB.mp (by have := hnx; unfold pid; omega), SubB.v, SubB.v, SubB.sl rfl (SubBs.pure (PL.pur _)), SubB.ptr (by have := hnx; unfold pid; omega), SubB.ptr (by have := hnx; unfold pid; omega), SubB.v, SubB.ptr (by have := hnx; unfold pid; omega)⟩
    have eq : q = x.length := by omega
    subst eq
    rw [List.take_length]
    clear g2 hq
    generalize hM : x.map (plp y (sz i)) = M
    (try simp only[↓jr,jw,seval,ji,ext_ext,pid_pid,e1,ht.next])
    refine JLOOP.of (σ := Nat × Tok × JH) (fun s => s.1 ≤ sz i ∧ TokExt jx s.2.2 ∧ CanApp jx s.2.2 s.2.1 2 (sortQ (sz i) M s.1).length) (fun s => sz i - s.1)
      (fun s => [(83, I64 s.1), (82, I64 (sz i)), (16, .sl s.2.1 (sortQ (sz i) M s.1).length (encs PR (sortQ (sz i) M s.1))), (13, .mp (pid j.next 3)), (55, I64 k), (54, I64 i.rols.length), (53, .sl .none i.rols.length (encs PL i.rols)), (2, .ptr (pid j.next 0) 0), (5, .ptr (pid j.next 2) 0), (1, I64 y), (4, .ptr (pid j.next 1) 0)])
      (fun s => ext s.2.2 [.cells 38 i.enc, .cells 38 ZI, .cells 38 [I64 (sz i), .sl .none i.cons.length (encs IL (movC i y i.cons)), .sl tk k (encs PL (movR i y (i.rols.take k))), .sl .nil 0 []], .map (mapP M)]) (0, .nil, jx) ⟨Nat.zero_le _, TokExt.refl _, CanApp.nil⟩ ?_ (JDropH.refl _) ?_
    · (try simp only[↓jr,jw,seval,ji,ext_ext,pid_pid,e1,DL,ht.next])
      exact ⟨SubB.v, SubB.v, SubB.pure rfl, SubB.mp (by have := hnx; unfold pid; omega), SubB.v, SubB.v, SubB.sl rfl (SubBs.pure (PL.pur _)), SubB.ptr (by have := hnx; unfold pid; omega), SubB.ptr (by have := hnx; unfold pid; omega), SubB.v, SubB.ptr (by have := hnx; unfold pid; omega)⟩
    rintro ⟨a, tk6, jy⟩ ⟨ha, hty, hc6⟩
    simp only at ha hty hc6
    have htj := ht.trans hty
    have hny := htj.next
    (try simp only[↓jr,jw,seval,ji,ext_ext,pid_pid,e1,htj.next])
    refine wq.intro (fun g3 => ?_) (fun g3 => ?_)
    · (try simp only[↓jr,jw,seval,ji,ext_ext,pid_pid,e1,htj.next])
      rw [show sortQ (sz i) M a = sqb (sz i) M a 0 from by simp [sqb, rowQ]] at hc6 ⊢
      refine JLOOP.of (σ := Nat × Tok × JH) (fun s => s.1 ≤ sz i ∧ TokExt jx s.2.2 ∧ jy.tnext ≤ s.2.2.tnext ∧ CanApp jx s.2.2 s.2.1 2 (sqb (sz i) M a s.1).length) (fun s => sz i - s.1)
        (fun s => [(88, I64 s.1), (87, I64 (sz i)), (17, I64 a), (16, .sl s.2.1 (sqb (sz i) M a s.1).length (encs PR (sqb (sz i) M a s.1))), (83, I64 a), (82, I64 (sz i)), (13, .mp (pid j.next 3)), (55, I64 k), (54, I64 i.rols.length), (53, .sl .none i.rols.length (encs PL i.rols)), (2, .ptr (pid j.next 0) 0), (5, .ptr (pid j.next 2) 0), (1, I64 y), (4, .ptr (pid j.next 1) 0)])
        (fun s => ext s.2.2 [.cells 38 i.enc, .cells 38 ZI, .cells 38 [I64 (sz i), .sl .none i.cons.length (encs IL (movC i y i.cons)), .sl tk k (encs PL (movR i y (i.rols.take k))), .sl .nil 0 []], .map (mapP M)]) (0, tk6, jy) ⟨Nat.zero_le _, hty, Nat.le_refl _, hc6⟩ ?_ (JDropH.refl _) ?_
      · (try simp only[↓jr,jw,seval,ji,ext_ext,pid_pid,e1,DL,htj.next])
        exact ⟨SubB.v, SubB.v, SubB.v, SubB.can hc6 (PR.pur _), SubB.v, SubB.v, SubB.mp (by have := hny; unfold pid; omega), SubB.v, SubB.v, SubB.sl rfl (SubBs.pure (PL.pur _)), SubB.ptr (by have := hny; unfold pid; omega), SubB.ptr (by have := hny; unfold pid; omega), SubB.v, SubB.ptr (by have := hny; unfold pid; omega)⟩
      rintro ⟨b, tk7, jz⟩ ⟨hbb, htz, hzy, hc7⟩
      simp only at hbb htz hzy hc7
      have htk := ht.trans htz
      have hnz := htk.next
      have hq1 := @sortQ_len (sz i) M a
      have hq2 := @rowQ_len (sz i) M a b
      have hq3 : a * sz i ≤ 256 * 256 := Nat.mul_le_mul (by omega) e2
      have hql : (sqb (sz i) M a b).length ≤ 66000 := by unfold sqb; rw [List.length_append]; omega
      have hlk0 : ilookup (Pg.ext jz [.cells 38 i.enc, .cells 38 ZI, .cells 38 [I64 (sz i), .sl .none i.cons.length (encs IL (movC i y i.cons)), .sl tk k (encs PL (movR i y (i.rols.take k))), .sl .nil 0 []], .map (mapP M)]).get (.array 2 3) (.v (.bool false)) false (.mp (pid j.next 3)) (.agg [I64 (a : Int), I64 (b : Int)]) = some (.v (.bool (decide (((a : Int), (b : Int)) ∈ M)))) := lookup_mapP (ext_get_new hnz)
      (try simp only[↓jr,jw,seval,ji,ext_ext,pid_pid,e1,htk.next])
      refine wq.intro (fun g4 => ?_) (fun g4 => ?_)
      · (try simp only[↓jr,jw,seval,ji,ext_ext,pid_pid,e1,htk.next,hlk0])
        refine wq.intro (fun g5 => ?_) (fun g5 => ?_)
        · have er : sqb (sz i) M a (b + 1) = (sqb (sz i) M a b) ++ [((a : Int), (b : Int))] := by unfold sqb; rw [rowQ_succ, if_pos g5, List.append_assoc]
          (try simp only[↓jr,jw,seval,ji,ext_ext,pid_pid,e1,htk.next])
          refine JAPP.can' hc7.push (htz.push 1) (by rw [d_prl]) rfl rfl (by omega) (by omega) ?_
          intro tok1 j1 hcan ht3 hle
          have hle' : jz.tnext ≤ j1.tnext := Nat.le_trans (Nat.le_succ _) hle
          have hn3 := (ht.trans ht3).next
          (try simp only[↓jr,jw,seval,ji,ext_ext,pid_pid,e1,hn3])
          refine wc.intro (by unfold R64; omega) ?_
          (try simp only[↓jr,jw,seval,ji,ext_ext,pid_pid,e1,hn3])
          have el : (sqb (sz i) M a (b + 1)).length = (sqb (sz i) M a b).length + 1 := by rw [er, List.length_append]; rfl
          have ee : encs PR (sqb (sz i) M a b) ++ [I64 (a : Int), I64 (b : Int)] = encs PR (sqb (sz i) M a (b + 1)) := by rw [er, encs_append]; rfl
          refine JNEXT.of (b + 1, tok1, j1) ⟨by simp only; omega, ht3, Nat.le_trans hzy hle', by simp only [el]; exact hcan⟩ (by simp only; omega) ?_ (JDropH.nextT htz ht3 (TokExt.refl _) hle' ⟨.inl ⟨rfl, rfl⟩, .inl ⟨rfl, rfl⟩, .inl ⟨rfl, rfl⟩, .inl ⟨rfl, rfl⟩, True.intro⟩)
          (try simp only[↓jr,jw,seval,ji,ext_ext,pid_pid,e1,DL,hn3,el])
          rw [← ee]
          exact ⟨SubB.v, SubB.v, SubB.v, SubB.can hcan (by rw [pures_append, PR.pur]; rfl), SubB.v, SubB.v, SubB.mp (by have := hn3; unfold pid; omega), SubB.v, SubB.v, SubB.sl rfl (SubBs.pure (PL.pur _)), SubB.ptr (by have := hn3; unfold pid; omega), SubB.ptr (by have := hn3; unfold pid; omega), SubB.v, SubB.ptr (by have := hn3; unfold pid; omega)⟩
        · have er : sqb (sz i) M a (b + 1) = sqb (sz i) M a b := by unfold sqb; rw [rowQ_succ, if_neg g5, List.append_nil]
          (try simp only[↓jr,jw,seval,ji,ext_ext,pid_pid,e1,htk.next])
          refine wc.intro (by unfold R64; omega) ?_
          (try simp only[↓jr,jw,seval,ji,ext_ext,pid_pid,e1,htk.next])
          refine JNEXT.of (b + 1, tk7, jz) ⟨by simp only; omega, htz, hzy, by simp only [er]; exact hc7⟩ (by simp only; omega) ?_ (JDropH.nextT htz htz (TokExt.refl _) (Nat.le_refl _) ⟨.inl ⟨rfl, rfl⟩, .inl ⟨rfl, rfl⟩, .inl ⟨rfl, rfl⟩, .inl ⟨rfl, rfl⟩, True.intro⟩)
          (try simp only[↓jr,jw,seval,ji,ext_ext,pid_pid,e1,DL,htk.next,er])
          exact ⟨SubB.v, SubB.v, SubB.v, SubB.can hc7 (PR.pur _), SubB.v, SubB.v, SubB.mp (by have := hnz; unfold pid; omega), SubB.v, SubB.v, SubB.sl rfl (SubBs.pure (PL.pur _)), SubB.ptr (by have := hnz; unfold pid; omega), SubB.ptr (by have := hnz; unfold pid; omega), SubB.v, SubB.ptr (by have := hnz; unfold pid; omega)⟩
      · have eb : b = sz i := by omega
        subst eb
        rw [sqb_all] at hc7 ⊢
        (try simp only[↓jr,jw,seval,ji,ext_ext,pid_pid,e1,htk.next])
        refine wc.intro (by unfold R64; omega) ?_
        (try simp only[↓jr,jw,seval,ji,ext_ext,pid_pid,e1,htk.next])
        refine JNEXT.of (a + 1, tk7, jz) ⟨by simp only; omega, htz, hc7⟩ (by simp only; omega) ?_ (JDropH.nextT hty htz (TokExt.refl _) hzy ⟨.inl ⟨rfl, rfl⟩, .inl ⟨rfl, rfl⟩, .inl ⟨rfl, rfl⟩, .inl ⟨rfl, rfl⟩, True.intro⟩)
        (try simp only[↓jr,jw,seval,ji,ext_ext,pid_pid,e1,DL,htk.next])
        exact ⟨SubB.v, SubB.v, SubB.can hc7 (PR.pur _), SubB.mp (by have := hnz; unfold pid; omega), SubB.v, SubB.v, SubB.sl rfl (SubBs.pure (PL.pur _)), SubB.ptr (by have := hnz; unfold pid; omega), SubB.ptr (by have := hnz; unfold pid; omega), SubB.v, SubB.ptr (by have := hnz; unfold pid; omega)⟩
    · have ea : a = sz i := by omega
      subst ea
      rw [sortQ_all] at hc6 ⊢
      (try simp only[↓jr,jw,seval,ji,ext_ext,pid_pid,e1,htj.next])
      have hck := (hc.ext hty).push (F := 1)
      refine JAPP.can' hck (htj.push 1) (by rw [d_pll, movR_len, List.length_take]; omega) rfl rfl (by omega) (by omega) ?_
      intro tok1 j1 hcan ht3 hle
      have hle' : jy.tnext ≤ j1.tnext := Nat.le_trans (Nat.le_succ _) hle
      have hn3 := ht3.next
      (try simp only[↓jr,jw,seval,ji,ext_ext,pid_pid,e1,ht3.next])
      refine wc.intro (by unfold R64; omega) ?_
      (try simp only[↓jr,jw,seval,ji,ext_ext,pid_pid,e1,ht3.next])
      have em : movR i y (i.rols.take (k + 1)) = movR i y (i.rols.take k) ++ [sortP (sz i) M] := by
        rw [take_snoc hd, ← hM]; unfold movR; rw [List.map_append, e1]; rfl
      have ee : encs PL (movR i y (i.rols.take (k + 1))) = encs PL (movR i y (i.rols.take k)) ++ [.sl .none (sortP (sz i) M).length (encs PR (sortP (sz i) M))] := by
        rw [em, encs_append]; rfl
      refine JNEXT.of (k + 1, tok1, j1) ⟨by simp only; omega, ht3, hcan⟩ (by simp only; omega) ?_ (JDropH.nextT ht ht3 (TokExt.refl _) (Nat.le_trans hty.tnext hle') ⟨.inl ⟨rfl, rfl⟩, .inl ⟨rfl, rfl⟩, .inr ⟨rfl, SubB.v, SubB.sl rfl (SubBs.pure (IL.pur _)), ?_, SubB.pure rfl, True.intro⟩, True.intro⟩)
      · (try simp only[↓jr,jw,seval,ji,ext_ext,pid_pid,e1,DL,ht3.next])
        exact ⟨SubB.v, SubB.v, SubB.sl rfl (SubBs.pure (PL.pur _)), SubB.ptr (by have := hn3; unfold pid; omega), SubB.ptr (by have := hn3; unfold pid; omega), SubB.v, SubB.ptr (by have := hn3; unfold pid; omega)⟩
      · rw [ee]
        exact SubB.canS hcan (by omega) (SubBs.append (SubBs.pure (PL.pur _)) ⟨SubB.sl rfl (SubBs.pure (PR.pur _)), True.intro⟩)
  have ek : k = i.rols.length := by omega
  subst ek
  rw [List.take_length]
  (try simp only[↓jr,jw,seval,ji,ext_ext,pid_pid,e1,ht.next])
  refine JLOOP.of (σ := Nat × Tok × JH) (fun s => s.1 ≤ i.inds.length ∧ TokExt j s.2.2 ∧ CanApp j s.2.2 s.2.1 1 s.1) (fun s => i.inds.length - s.1)
    (fun s => [(114, I64 s.1), (113, I64 i.inds.length), (112, .sl .none i.inds.length (ints i.inds)), (2, .ptr (pid j.next 0) 0), (5, .ptr (pid j.next 2) 0), (1, I64 y), (4, .ptr (pid j.next 1) 0)])
    (fun s => ext s.2.2 [.cells 38 i.enc, .cells 38 ZI, .cells 38 [I64 (sz i), .sl .none i.cons.length (encs IL (movC i y i.cons)), .sl .none i.rols.length (encs PL (movR i y i.rols)), .sl s.2.1 s.1 (ints ((i.inds.take s.1).map (plc y (sz i))))]]) (0, .nil, jx) ⟨Nat.zero_le _, ht, CanApp.nil⟩ ?_ (JDropH.nextT ht ht (TokExt.refl _) (Nat.le_refl _) ⟨.inl ⟨rfl, rfl⟩, .inl ⟨rfl, rfl⟩, .inr ⟨rfl, SubB.v, SubB.sl rfl (SubBs.pure (IL.pur _)), SubB.sl rfl (SubBs.pure (PL.pur _)), SubB.pure rfl, True.intro⟩, True.intro⟩) ?_
  · (try simp only[↓jr,jw,seval,ji,ext_ext,pid_pid,e1,DL,ht.next])
    exact ⟨SubB.v, SubB.v, SubB.sl rfl (SubBs.pure (ints_pur _)), SubB.ptr (by have := hnx; unfold pid; omega), SubB.ptr (by have := hnx; unfold pid; omega), SubB.v, SubB.ptr (by have := hnx; unfold pid; omega)⟩
  clear hc g1 hkk
  clear hnx ht
  clear jx tk
  rintro ⟨k, tk, jx⟩ ⟨hkk, ht, hc⟩
  simp only at hkk ht hc
  have hnx := ht.next
  (try simp only[↓jr,jw,seval,ji,ext_ext,pid_pid,e1,ht.next])
  refine wq.intro (fun g1 => ?_) (fun g1 => ?_)
  · have hlt : k < (i.inds).length := by omega
    obtain ⟨x, r, hd⟩ : ∃ c_ l_, List.drop k (i.inds) = c_ :: l_ := ⟨_, _, List.drop_eq_getElem_cons hlt⟩
    have hd1 : List.drop (k + 1) (i.inds) = r := by rw [← List.drop_drop, hd]; rfl
    have hmem : x ∈ i.inds := List.mem_of_mem_drop (hd ▸ List.mem_cons_self)
    obtain ⟨x0, x1⟩ := hii x hmem
    obtain ⟨u, rfl⟩ : ∃ u : Nat, x = u := ⟨x.toNat, by omega⟩
    (try simp only[↓jr,jw,seval,ji,ext_ext,pid_pid,e1,hd,ht.next])
    refine wc.intro (by omega) ?_
    (try simp only[↓jr,jw,seval,ji,ext_ext,pid_pid,e1,hd,ht.next])
    refine JDC.use (s_place y (sz i) u (by omega) e2 (by omega) _) ?_
    (try simp only[↓jr,jw,seval,ji,ext_ext,pid_pid,e1,ht.next])
    have hck := hc.push (F := 1)
    refine JAPP.can' hck (ht.push 1) (by simp [ints]; omega) rfl rfl (by omega) (by omega) ?_
    intro tok1 j1 hcan ht3 hle
    have hle' : jx.tnext ≤ j1.tnext := Nat.le_trans (Nat.le_succ _) hle
    have hn3 := ht3.next
    (try simp only[↓jr,jw,seval,ji,ext_ext,pid_pid,e1,ht3.next])
    refine JDRAW.oc (by (try simp only[↓jr,jw,seval,ji,ext_ext,pid_pid,e1,jq,qe2,qe3,ht.next,ht3.next,ext_next,ext_tnext,List.length_cons,List.length_nil]) <;> (have h1 := ht.next; have h2 := ht3.next; have h4 := @pushTok_next jx 1; have h3 := @pushTok_tnext jx 1; repeat' (first | exact trivial | refine And.intro ?_ ?_ | exact Nat.le_refl _ | omega | (unfold pid; omega) | (simp only [h1, h2, h4]; done)))) ?_
    (try simp only[↓jr,jw,seval,ji,ext_ext,pid_pid,e1,ht3.next])
    refine wc.intro (by unfold R64; omega) ?_
    (try simp only[↓jr,jw,seval,ji,ext_ext,pid_pid,e1,ht3.next])
    have ee : ints ((i.inds.take (k + 1)).map (plc y (sz i))) = ints ((i.inds.take k).map (plc y (sz i))) ++ [I64 (plc y (sz i) u)] := by
      rw [take_snoc hd, List.map_append]; simp [ints]
    refine JNEXT.of (k + 1, tok1, j1) ⟨by simp only; omega, ht3, hcan⟩ (by simp only; omega) ?_ (JDropH.nextT ht ht3 (TokExt.refl _) hle' ⟨.inl ⟨rfl, rfl⟩, .inl ⟨rfl, rfl⟩, .inr ⟨rfl, SubB.v, SubB.sl rfl (SubBs.pure (IL.pur _)), SubB.sl rfl (SubBs.pure (PL.pur _)), ?_, True.intro⟩, True.intro⟩)
    · (try simp only[↓jr,jw,seval,ji,ext_ext,pid_pid,e1,DL,ht3.next])
      exact ⟨SubB.v, SubB.v, SubB.sl rfl (SubBs.pure (ints_pur _)), SubB.ptr (by have := hn3; unfold pid; omega), SubB.ptr (by have := hn3; unfold pid; omega), SubB.v, SubB.ptr (by have := hn3; unfold pid; omega)⟩
    · rw [← ee]
      exact SubB.can hcan (ints_pur _)
  have ek : k = i.inds.length := by omega
  subst ek
  rw [List.take_length]
  (try simp only[↓jr,jw,seval,ji,ext_ext,pid_pid,e1,ht.next])
  have eE : [I64 (sz i), .sl .none i.cons.length (encs IL (movC i y i.cons)), .sl .none i.rols.length (encs PL (movR i y i.rols)), .sl .none i.inds.length (ints (i.inds.map (plc y (sz i))))] = (movI i y).enc := by
    unfold Itp.enc movI
    simp only [List.length_map, e1]
    unfold movC movR
    simp only [e1]
  exact JFIN.ret (JDropH.back ht).of_ext (by rw [← eE]; exact SubB.agg ⟨SubB.v, SubB.sl rfl (SubBs.pure (IL.pur _)), SubB.sl rfl (SubBs.pure (PL.pur _)), SubB.sl rfl (SubBs.pure (ints_pur _)), True.intro⟩)
end
end Go.Proofs.YtnkkeenclhncmaaGreatDoor.Pg
