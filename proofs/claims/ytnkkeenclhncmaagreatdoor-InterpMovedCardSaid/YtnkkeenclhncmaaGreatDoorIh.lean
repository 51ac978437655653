/-
  The reference's sets of elements.
-/
import Derived.Test.YtnkkeenclhncmaaGreatDoorIg
set_option linter.unusedVariables false
set_option linter.unusedSimpArgs false
set_option maxRecDepth 100000
set_option maxHeartbeats 8000000
namespace Go.Proofs.YtnkkeenclhncmaaGreatDoor.Pg
open Go
abbrev BE : TypeId := 4
def bls (f : Nat → Bool) (n : Nat) : List AV := (List.range n).map fun k => BOO (f k)
theorem bls_len {f : Nat → Bool} {n : Nat} : (bls f n).length = n := by simp [bls]
theorem bls_at {f : Nat → Bool} {n k : Nat} (h : k < n) : icut none (bls f n) k = some (BOO (f k)) := by
  show (bls f n)[k]? = _
  simp [bls, List.getElem?_range h]
theorem bls_pur {f : Nat → Bool} {n : Nat} : AV.pures (bls f n) = true := by
  unfold bls
  induction List.range n with
  | nil => rfl
  | cons a l ih => simp only [List.map_cons, AV.pures, AV.pure, ih, Bool.and_self]
theorem bls_zero {n : Nat} : acycle [BOO false] n = bls (fun _ => false) n := by
  unfold acycle bls
  refine List.map_congr_left fun k _ => ?_
  rw [show k % [BOO false].length = 0 from Nat.mod_one k]
  rfl
theorem bls_set {f g : Nat → Bool} {n k : Nat} (hk : k < n) (h : ∀ i, i ≠ k → g i = f i) : splice (bls f n) k [BOO (g k)] = bls g n := by
  unfold splice
  have e : (bls f n).set k (BOO (g k)) = bls g n := by
    refine List.ext_getElem (by simp [bls]) fun j h1 h2 => ?_
    rw [List.getElem_set]
    have hj : j < n := by simpa [bls] using h2
    split
    · rename_i e; subst e; simp [bls]
    · rename_i e; simp [bls, h j fun q => e q.symm]
  rw [← e, List.set_eq_take_append_cons_drop, if_pos (by rw [bls_len]; exact hk)]
  simp
theorem bls_congr {f g : Nat → Bool} {n : Nat} (h : ∀ x, x < n → f x = g x) : bls f n = bls g n := by
  unfold bls
  exact List.map_congr_left fun x hx => by rw [h x (List.mem_range.1 hx)]
/-- Up to k the new values. -/
def mixN (f g : Nat → Bool) (k : Nat) : Nat → Bool := fun x => if x < k then g x else f x
theorem mixN_zero {f g : Nat → Bool} : mixN f g 0 = f := by funext x; simp [mixN]
theorem mixN_all {f g : Nat → Bool} {n : Nat} : bls (mixN f g n) n = bls g n := bls_congr fun x hx => by unfold mixN; rw [if_pos hx]
theorem mixN_set {f g : Nat → Bool} {n k : Nat} {b : Bool} (hk : k < n) (hb : b = g k) : splice (bls (mixN f g k) n) k (AV.v (Value.bool b)).cells = bls (mixN f g (k + 1)) n := by
  show splice (bls (mixN f g k) n) k [BOO b] = _
  have e : g k = mixN f g (k + 1) k := by unfold mixN; rw [if_pos (by omega)]
  rw [hb, e]
  refine bls_set hk fun i hi => ?_
  unfold mixN
  by_cases h : i < k
  · rw [if_pos h, if_pos (by omega)]
  · rw [if_neg h, if_neg (by omega)]
theorem mixN_same {f : Nat → Bool} {k : Nat} : mixN f f k = f := by funext x; unfold mixN; split <;> rfl
theorem bls_upd {f : Nat → Bool} {n u : Nat} (h : u < n) : splice (bls f n) u (AV.v (Value.bool true)).cells = bls (updF f u) n := by
  have e : true = updF f u u := by simp [updF]
  show splice (bls f n) u [BOO true] = _
  rw [e]
  refine bls_set h fun i hi => ?_
  simp [updF, hi]
/-- What a role's pairs leave. -/
def allF (i : Itp) (n : Int) (q : Nat → Bool) (ps : List (Int × Int)) : Nat → Bool := fun x => decide (x < sz i) && !anyF i n q ps x
theorem allF_nil {i : Itp} {n : Int} {q : Nat → Bool} : allF i n q [] = fun x => decide (x < sz i) := by funext x; simp [allF, anyF]
theorem allF_miss {i : Itp} {n : Int} {q : Nat → Bool} {l : List (Int × Int)} {p : Int × Int} {u v : Nat} (h1 : frP n p = u) (h2 : toP n p = v) (h : q v = false) : allF i n q l = allF i n q (l ++ [p]) := by
  unfold allF; rw [anyF_miss h1 h2 h]
theorem anyF_put {i : Itp} {n : Int} {q : Nat → Bool} {l : List (Int × Int)} {p : Int × Int} {u v m : Nat} (hu : u < m) (h1 : frP n p = u) (h2 : toP n p = v) (h : q v = true) : splice (bls (anyF i n q l) m) u (AV.v (Value.bool true)).cells = bls (anyF i n q (l ++ [p])) m := by
  rw [bls_upd hu, anyF_hit h1 h2 h]
theorem allF_put {i : Itp} {n : Int} {q : Nat → Bool} {l : List (Int × Int)} {p : Int × Int} {u v m : Nat} (hu : u < m) (h1 : frP n p = u) (h2 : toP n p = v) (h : q v = true) : splice (bls (allF i n q l) m) u (AV.v (Value.bool false)).cells = bls (allF i n q (l ++ [p])) m := by
  have e : false = allF i n q (l ++ [p]) u := by unfold allF; rw [← anyF_hit h1 h2 h]; simp [updF]
  show splice (bls (allF i n q l) m) u [BOO false] = _
  rw [e]
  refine bls_set hu fun x hx => ?_
  have e2 : (x == u) = false := beq_eq_false_iff_ne.2 hx
  unfold allF; rw [← anyF_hit h1 h2 h]; simp [updF, e2]
abbrev SETB (i : Itp) (j : JH) (f : Nat → Bool) : AOut → JH → Prop := RET (.arr (pid j.next 0) 0 (sz i)) (Pg.ext j [.cells BE (bls f (sz i))])
section
variable {m : GM} {G : Nat → Option (List AV)}
def JHof (G : Nat → Option (List AV)) (i : Itp) (c : Con) : Prop := ∀ j, JC Tryz.prog G 64 [.agg c.enc, .agg i.enc] j (SETB i j (semC i c))
def ir64 : IFn := ⟨151, [⟨4, none⟩], (.seq (.reg [oA 2 (.box 33 (.r 0)), oA 3 (.box 38 (.r 1)), oA 4 (.mov (.k (.sl .nil 0 [])))]) (.seq (.reg [oA 15 (.fadr 0 (.r 3)), oL 16 15 none, oA 17 (.mks 4 1 1 [.v (.bool false)] (.r 16) (.r 16)), oA 5 (kM 17)]) (.seq (.reg [oA 6 (.mov (.k (.sl .nil 0 []))), oA 7 (.mov (.k (.sl .nil 0 [])))]) (.seq (.seq (.reg [oA 18 (.fadr 2 (.r 2)), oL 19 18 none, oT 20 19 (.lenl (.r 19)), oA 21 (.bin .gtr (.r 20) (kI 0))]) (.cond (.r 21) (.draw [oA 22 (.fadr 2 (.r 2)), oL 23 22 none, oA 24 (.iasl 3 (.r 23) (kI 0)), oL 25 24 (some 3), oL 26 3 (some 4), oA 27 (.call 64 [.r 25, .r 26]), oA 6 (kM 27)] []) .skip)) (.seq (.seq (.reg [oA 28 (.fadr 2 (.r 2)), oL 29 28 none, oT 30 29 (.lenl (.r 29)), oA 31 (.bin .gtr (.r 30) (kI 1))]) (.cond (.r 31) (.draw [oA 32 (.fadr 2 (.r 2)), oL 33 32 none, oA 34 (.iasl 3 (.r 33) (kI 1)), oL 35 34 (some 3), oL 36 3 (some 4), oA 37 (.call 64 [.r 35, .r 36]), oA 7 (kM 37)] []) .skip)) (.seq (.seq (.reg [oA 38 (.fadr 0 (.r 2)), oL 39 38 none, oA 40 (.bin .eql (.r 39) (kI 0))]) (.cond (.r 40) (.seq (.reg [oA 41 (.fadr 1 (.r 3)), oL 42 41 none, oA 43 (.fadr 1 (.r 2)), oL 44 43 none, oA 45 (.iasl 1 (.r 42) (.r 44)), oL 46 45 none, oT 47 46 (.lenl (.r 46)), oA 48 (.mov (kI 0))]) (.block 0 (.loop (.seq (.reg [oA 49 (.bin .lss (.r 48) (.r 47))]) (.seq (.cond (.r 49) .skip (.exit 0)) (.seq (.block 1 (.seq (.reg [oA 50 (.iasl 1 (.r 46) (.r 48)), oL 51 50 none, oA 9 (kM 51)]) (.reg [oA 52 (kM 5), oA 53 (kM 9), oA 54 (.iasl 1 (.r 52) (.r 53)), oN (.store 1 (.r 54) (kB true))]))) (.reg [oA 55 (.bin .add (.r 48) (kI 1)), oA 48 (kM 55)]))))))) .skip)) (.seq (.seq (.reg [oA 56 (kM 5), oT 57 56 (.lenl (.r 56)), oA 58 (.mov (kI 0))]) (.block 2 (.loop (.seq (.reg [oA 59 (.bin .lss (.r 58) (.r 57))]) (.seq (.cond (.r 59) .skip (.exit 2)) (.seq (.block 3 (.seq (.reg [oA 60 (kM 58), oA 10 (kM 60)]) (.seq (.reg [oA 61 (.fadr 0 (.r 2)), oL 62 61 none]) (.block 4 (.seq (.seq (.reg [oA 64 (.bin .eql (.r 62) (kI 1)), oA 63 (kM 64)]) (.cond (.r 63) .skip (.reg [oA 65 (.bin .eql (.r 62) (kI 7)), oA 63 (kM 65)]))) (.cond (.r 63) (.reg [oA 66 (kM 5), oA 67 (kM 10), oA 68 (.iasl 1 (.r 66) (.r 67)), oN (.store 1 (.r 68) (kB true))]) (.seq (.reg [oA 70 (.bin .eql (.r 62) (kI 3)), oA 69 (kM 70)]) (.cond (.r 69) (.reg [oA 71 (kM 5), oA 72 (kM 10), oA 73 (kM 6), oA 74 (kM 10), oA 75 (.iasl 1 (.r 73) (.r 74)), oL 76 75 none, oA 77 (.not (.r 76)), oA 78 (.iasl 1 (.r 71) (.r 72)), oN (.store 1 (.r 78) (.r 77))]) (.seq (.reg [oA 80 (.bin .eql (.r 62) (kI 4)), oA 79 (kM 80)]) (.cond (.r 79) (.reg [oA 81 (kM 5), oA 82 (kM 10), oA 83 (kM 6), oA 84 (kM 10), oA 85 (.iasl 1 (.r 83) (.r 84)), oL 86 85 none, oA 87 (kM 86), ⟨(some 88), (some ((87, true))), none, (kM 7)⟩, ⟨(some 89), (some ((87, true))), none, (kM 10)⟩, ⟨(some 90), (some ((87, true))), none, (.iasl 1 (.r 88) (.r 89))⟩, ⟨(some 91), (some ((87, true))), (some (.r 90)), (.load none (.r 90))⟩, oA 92 (.pick (.r 87) (.r 91) (kB false)), oA 93 (.iasl 1 (.r 81) (.r 82)), oN (.store 1 (.r 93) (.r 92))]) (.seq (.reg [oA 95 (.bin .eql (.r 62) (kI 5)), oA 94 (kM 95)]) (.cond (.r 94) (.reg [oA 96 (kM 5), oA 97 (kM 10), oA 98 (kM 6), oA 99 (kM 10), oA 100 (.iasl 1 (.r 98) (.r 99)), oL 101 100 none, oA 102 (kM 101), ⟨(some 103), (some ((102, false))), none, (kM 7)⟩, ⟨(some 104), (some ((102, false))), none, (kM 10)⟩, ⟨(some 105), (some ((102, false))), none, (.iasl 1 (.r 103) (.r 104))⟩, ⟨(some 106), (some ((102, false))), (some (.r 105)), (.load none (.r 105))⟩, oA 107 (.pick (.r 102) (kB true) (.r 106)), oA 108 (.iasl 1 (.r 96) (.r 97)), oN (.store 1 (.r 108) (.r 107))]) .skip)))))))))))) (.reg [oA 109 (.bin .add (.r 58) (kI 1)), oA 58 (kM 109)]))))))) (.seq (.seq (.reg [oA 110 (.fadr 0 (.r 2)), oL 111 110 none, oT 112 111 (.call 68 [.r 111])]) (.cond (.r 112) (.seq (.reg [oA 113 (.fadr 2 (.r 3)), oL 114 113 none, oA 115 (.fadr 1 (.r 2)), oL 116 115 none, oA 117 (.bin .quo (.r 116) (kI 2)), oA 118 (.iasl 1 (.r 114) (.r 117)), oL 119 118 none, oT 120 119 (.lenl (.r 119)), oA 121 (.mov (kI 0))]) (.block 5 (.loop (.seq (.reg [oA 122 (.bin .lss (.r 121) (.r 120))]) (.seq (.cond (.r 122) .skip (.exit 5)) (.seq (.block 6 (.seq (.reg [oA 123 (.iasl 2 (.r 119) (.r 121)), oL 124 123 (some 2), oA 12 (.alloc 75 [.v (.int .i64 0), .v (.int .i64 0)]), oN (.store 2 (.r 12) (.r 124))]) (.seq (.draw [oA 125 (.iaar 2 1 (.r 12) (kI 0)), oL 126 125 none, oA 127 (.iaar 2 1 (.r 12) (kI 1)), oL 128 127 none, oA 13 (kM 126), oA 14 (kM 128)] []) (.seq (.seq (.reg [oA 129 (.fadr 1 (.r 2)), oL 130 129 none, oA 131 (.bin .rem (.r 130) (kI 2)), oA 132 (.bin .eql (.r 131) (kI 1))]) (.cond (.r 132) (.reg [oA 133 (kM 14), oA 134 (kM 13), oA 13 (kM 133), oA 14 (kM 134)]) .skip)) (.seq (.draw [oA 135 (kM 6), oA 136 (kM 14), oA 137 (.iasl 1 (.r 135) (.r 136)), oL 138 137 none, oA 139 (.fadr 0 (.r 2)), oL 140 139 none, oA 141 (.bin .eql (.r 140) (kI 6)), oA 142 (.beq false (.r 138) (.r 141))] []) (.cond (.r 142) (.reg [oA 143 (kM 5), oA 144 (kM 13), oA 145 (.fadr 0 (.r 2)), oL 146 145 none, oA 147 (.bin .eql (.r 146) (kI 6)), oA 148 (.iasl 1 (.r 143) (.r 144)), oN (.store 1 (.r 148) (.r 147))]) .skip)))))) (.reg [oA 149 (.bin .add (.r 121) (kI 1)), oA 121 (kM 149)]))))))) .skip)) (.seq (.reg [oA 150 (kM 5), oA 4 (kM 150)]) .ret)))))))))⟩
theorem c64 : cfunc Tryz.prog 64 = some ir64 := by kernel_rfl
theorem k64 : okIR (max 2 ir64.n) ir64.ir = true := by decide +kernel
theorem s_Set (i : Itp) (hi : i.wf) (hk : i.ok) : ∀ c : Con, shaped i.cons.length i.rols.length c = true → JHof G i c := by
  obtain ⟨e1, e2, e3⟩ := sz_size hi
  intro c
  induction c using Con.ind with
  | h op n args ih =>
    intro hs j
    rw [shaped_mk] at hs
    obtain ⟨hs1, hs2⟩ := hs
    refine JC.flat bls_pur ?_
    rcases sh_cases hs1 with ⟨rfl, h0, h1, h2⟩ | ⟨rfl, h0⟩ | ⟨rfl, h0⟩ | ⟨rfl, h0⟩ | ⟨rfl, h0⟩ | ⟨rfl, h0⟩ | ⟨rfl, h0, h1, h2⟩ | ⟨rfl, h0, h1, h2⟩
    · obtain rfl := List.length_eq_zero_iff.1 h0
      have hk1 := hk.c1
      have hlt0 : n.toNat < i.cons.length := by omega
      obtain ⟨ps, rr, hr⟩ : ∃ c_ l_, List.drop n.toNat i.cons = c_ :: l_ := ⟨_, _, List.drop_eq_getElem_cons hlt0⟩
      have hps : conI i n = ps := by unfold conI; rw [← List.head?_drop, hr]; rfl
      have hmp : ps ∈ i.cons := List.mem_of_mem_drop (hr ▸ List.mem_cons_self)
      have hpl := (hk.c2 ps hmp).1
      have hpr := hi.c ps hmp
      have e : memF ps = semC i (.mk 0 n []) := by
        funext x
        simp only [semC, if_pos rfl, hps, memF]
        cases h : ps.contains (x : Int)
        · simp
        · have := hpr _ (List.contains_iff_mem.1 h)
          have hx : x < sz i := by omega
          simp [hx]
      rw [← e]
      refine JC.run hmix c64 (by exact k64) ?_
      (try simp only[↓jr,jw,seval,ji,ext_ext,pid_pid,e1,cutE2,ir64])
      refine JMKS.same (by omega) (by omega) ?_
      (try simp only[↓jr,jw,seval,ji,ext_ext,pid_pid,e1,cutE2])
      rw [bls_zero]
      (try simp only[↓jr,jw,seval,ji,ext_ext,pid_pid,e1,cutE2])
      (try simp only[↓jr,jw,seval,ji,ext_ext,pid_pid,e1,cutE2,hr])
      refine wc.intro ⟨by omega, by omega, by omega⟩ ?_
      (try simp only[↓jr,jw,seval,ji,ext_ext,pid_pid,e1,cutE2,hr])
      refine JLOOP.of (σ := Nat) (fun k => k ≤ ps.length) (fun k => ps.length - k)
        (fun k => [(48, I64 k), (47, I64 ps.length), (46, .sl .none ps.length (ints ps)), (5, .arr (pid j.next 2) 0 (sz i)), (6, .sl .nil 0 []), (7, .sl .nil 0 []), (3, .ptr (pid j.next 1) 0), (2, .ptr (pid j.next 0) 0)])
        (fun k => ext j [.cells 33 (Con.mk 0 n []).enc, .cells 38 i.enc, .cells BE (bls (memF (ps.take k)) (sz i))]) 0 (Nat.zero_le _) ?_ ?_ ?_
      · (try simp only[↓jr,jw,seval,ji,ext_ext,pid_pid,e1,cutE2,DL])
        exact ⟨SubB.v, SubB.v, SubB.sl rfl (SubBs.pure (ints_pur _)), SubB.arr (by unfold pid; omega), SubB.pure rfl, SubB.pure rfl, SubB.ptr (by unfold pid; omega), SubB.ptr (by unfold pid; omega)⟩
      · rw [List.take_zero]; exact JDropH.refl _
      intro k hkk
      (try simp only[↓jr,jw,seval,ji,ext_ext,pid_pid,e1,cutE2])
      refine wq.intro (fun g1 => ?_) (fun g1 => ?_)
      · have hltk : k < ps.length := by omega
        obtain ⟨p, pr, hd⟩ : ∃ c_ l_, List.drop k ps = c_ :: l_ := ⟨_, _, List.drop_eq_getElem_cons hltk⟩
        have hmem : p ∈ ps := List.mem_of_mem_drop (hd ▸ List.mem_cons_self)
        have htk : ps.take (k + 1) = ps.take k ++ [p] := by
          have : ps[k]? = some p := by rw [← List.head?_drop, hd]; rfl
          rw [List.take_add_one, this]; rfl
        obtain ⟨q1, q2⟩ := hpr p hmem
        (try simp only[↓jr,jw,seval,ji,ext_ext,pid_pid,e1,cutE2,hd])
        refine wc.intro (by omega) ?_
        (try simp only[↓jr,jw,seval,ji,ext_ext,pid_pid,e1,cutE2,hd])
        obtain ⟨u, rfl⟩ : ∃ u : Nat, p = u := ⟨p.toNat, by omega⟩
        refine wc.intro (by omega) ?_
        (try simp only[↓jr,jw,seval,ji,ext_ext,pid_pid,e1,cutE2])
        refine wc.intro (by rw [bls_len]; omega) ?_
        rw [bls_upd (by omega), memF_hit, ← htk]
        (try simp only[↓jr,jw,seval,ji,ext_ext,pid_pid,e1,cutE2])
        refine wc.intro (by unfold R64; omega) ?_
        (try simp only[↓jr,jw,seval,ji,ext_ext,pid_pid,e1,cutE2])
        refine JNEXT.of (k + 1) (by omega) (by omega) ?_ (JDropH.next0 (TokExt.refl _) ⟨.inl ⟨rfl, rfl⟩, .inl ⟨rfl, rfl⟩, .inr (OSub.pure bls_pur), True.intro⟩)
        (try simp only[↓jr,jw,seval,ji,ext_ext,pid_pid,e1,cutE2,DL])
        exact ⟨SubB.v, SubB.v, SubB.sl rfl (SubBs.pure (ints_pur _)), SubB.arr (by unfold pid; omega), SubB.pure rfl, SubB.pure rfl, SubB.ptr (by unfold pid; omega), SubB.ptr (by unfold pid; omega)⟩
      (try simp only[↓jr,jw,seval,ji,ext_ext,pid_pid,e1,cutE2])
      have ek : k = ps.length := by omega
      subst ek
      rw [List.take_length]
      refine JLOOP.of (σ := Nat) (fun k => k ≤ sz i) (fun k => sz i - k) (fun k => [(58, I64 k), (57, I64 (sz i)), (5, .arr (pid j.next 2) 0 (sz i)), (2, .ptr (pid j.next 0) 0), (3, .ptr (pid j.next 1) 0)])
        (fun k => ext j [.cells 33 (Con.mk 0 n []).enc, .cells 38 i.enc, .cells BE (bls (memF ps) (sz i))]) 0 (Nat.zero_le _) ?_ ?_ ?_
      · (try simp only[↓jr,jw,seval,ji,ext_ext,pid_pid,e1,cutE2,DL])
        exact ⟨SubB.v, SubB.v, SubB.arr (by unfold pid; omega), SubB.ptr (by unfold pid; omega), SubB.ptr (by unfold pid; omega)⟩
      · exact JDropH.refl _
      · intro k hk2
        (try simp only[↓jr,jw,seval,ji,ext_ext,pid_pid,e1,cutE2])
        refine wq.intro (fun g1 => ?_) (fun g1 => ?_)
        · have hlt : k < sz i := by omega
          (try simp only[↓jr,jw,seval,ji,ext_ext,pid_pid,e1,cutE2])
          refine wc.intro (by unfold R64; omega) ?_
          (try simp only[↓jr,jw,seval,ji,ext_ext,pid_pid,e1,cutE2])
          refine JNEXT.of (k + 1) (by omega) (by omega) ?_ (JDropH.next0 (TokExt.refl _) ⟨.inl ⟨rfl, rfl⟩, .inl ⟨rfl, rfl⟩, .inl ⟨rfl, rfl⟩, True.intro⟩)
          (try simp only[↓jr,jw,seval,ji,ext_ext,pid_pid,e1,cutE2,DL])
          exact ⟨SubB.v, SubB.v, SubB.arr (by unfold pid; omega), SubB.ptr (by unfold pid; omega), SubB.ptr (by unfold pid; omega)⟩

        (try simp only[↓jr,jw,seval,ji,ext_ext,pid_pid,e1,cutE2])
        have ek : k = sz i := by omega
        subst ek
        skip
        refine JCs.ret (s_Quantified 0 _) ?_
        rw [show quant 0 = false from rfl]
        (try simp only[↓jr,jw,seval,ji,ext_ext,pid_pid,e1,cutE2])
        exact JFIN.flat (TokExt.refl _) (k := 2) rfl
    · obtain rfl := List.length_eq_zero_iff.1 h0
      have e : semC i (.mk 1 n []) = fun x => decide (x < sz i) := by funext x; simp [semC]
      rw [e]
      refine JC.run hmix c64 (by exact k64) ?_
      (try simp only[↓jr,jw,seval,ji,ext_ext,pid_pid,e1,cutE2,ir64])
      refine JMKS.same (by omega) (by omega) ?_
      (try simp only[↓jr,jw,seval,ji,ext_ext,pid_pid,e1,cutE2])
      rw [bls_zero]
      (try simp only[↓jr,jw,seval,ji,ext_ext,pid_pid,e1,cutE2])
      refine JLOOP.of (σ := Nat) (fun k => k ≤ sz i) (fun k => sz i - k) (fun k => [(58, I64 k), (57, I64 (sz i)), (5, .arr (pid j.next 2) 0 (sz i)), (2, .ptr (pid j.next 0) 0), (3, .ptr (pid j.next 1) 0)])
        (fun k => ext j [.cells 33 (Con.mk 1 n []).enc, .cells 38 i.enc, .cells BE (bls (mixN (fun _ => false) (fun x => decide (x < sz i)) k) (sz i))]) 0 (Nat.zero_le _) ?_ ?_ ?_
      · (try simp only[↓jr,jw,seval,ji,ext_ext,pid_pid,e1,cutE2,DL])
        exact ⟨SubB.v, SubB.v, SubB.arr (by unfold pid; omega), SubB.ptr (by unfold pid; omega), SubB.ptr (by unfold pid; omega)⟩
      · rw [mixN_zero]; exact JDropH.refl _
      · intro k hk2
        (try simp only[↓jr,jw,seval,ji,ext_ext,pid_pid,e1,cutE2])
        refine wq.intro (fun g1 => ?_) (fun g1 => ?_)
        · have hlt : k < sz i := by omega
          (try simp only[↓jr,jw,seval,ji,ext_ext,pid_pid,e1,cutE2])
          refine wc.intro (by omega) ?_
          (try simp only[↓jr,jw,seval,ji,ext_ext,pid_pid,e1,cutE2])
          refine wc.intro (by rw [bls_len]; omega) ?_
          rw [mixN_set (g := (fun x => decide (x < sz i))) hlt (decide_eq_true hlt).symm]
          (try simp only[↓jr,jw,seval,ji,ext_ext,pid_pid,e1,cutE2])
          refine wc.intro (by unfold R64; omega) ?_
          (try simp only[↓jr,jw,seval,ji,ext_ext,pid_pid,e1,cutE2])
          refine JNEXT.of (k + 1) (by omega) (by omega) ?_ (JDropH.next0 (TokExt.refl _) ⟨.inl ⟨rfl, rfl⟩, .inl ⟨rfl, rfl⟩, .inr (OSub.pure bls_pur), True.intro⟩)
          (try simp only[↓jr,jw,seval,ji,ext_ext,pid_pid,e1,cutE2,DL])
          exact ⟨SubB.v, SubB.v, SubB.arr (by unfold pid; omega), SubB.ptr (by unfold pid; omega), SubB.ptr (by unfold pid; omega)⟩

        (try simp only[↓jr,jw,seval,ji,ext_ext,pid_pid,e1,cutE2])
        have ek : k = sz i := by omega
        subst ek
        rw [mixN_all]
        refine JCs.ret (s_Quantified 1 _) ?_
        rw [show quant 1 = false from rfl]
        (try simp only[↓jr,jw,seval,ji,ext_ext,pid_pid,e1,cutE2])
        exact JFIN.flat (TokExt.refl _) (k := 2) rfl
    · obtain rfl := List.length_eq_zero_iff.1 h0
      have e : semC i (.mk 2 n []) = fun _ => false := by funext x; simp [semC]
      rw [e]
      refine JC.run hmix c64 (by exact k64) ?_
      (try simp only[↓jr,jw,seval,ji,ext_ext,pid_pid,e1,cutE2,ir64])
      refine JMKS.same (by omega) (by omega) ?_
      (try simp only[↓jr,jw,seval,ji,ext_ext,pid_pid,e1,cutE2])
      rw [bls_zero]
      (try simp only[↓jr,jw,seval,ji,ext_ext,pid_pid,e1,cutE2])
      refine JLOOP.of (σ := Nat) (fun k => k ≤ sz i) (fun k => sz i - k) (fun k => [(58, I64 k), (57, I64 (sz i)), (5, .arr (pid j.next 2) 0 (sz i)), (2, .ptr (pid j.next 0) 0), (3, .ptr (pid j.next 1) 0)])
        (fun k => ext j [.cells 33 (Con.mk 2 n []).enc, .cells 38 i.enc, .cells BE (bls (fun _ => false) (sz i))]) 0 (Nat.zero_le _) ?_ ?_ ?_
      · (try simp only[↓jr,jw,seval,ji,ext_ext,pid_pid,e1,cutE2,DL])
        exact ⟨SubB.v, SubB.v, SubB.arr (by unfold pid; omega), SubB.ptr (by unfold pid; omega), SubB.ptr (by unfold pid; omega)⟩
      · exact JDropH.refl _
      · intro k hk2
        (try simp only[↓jr,jw,seval,ji,ext_ext,pid_pid,e1,cutE2])
        refine wq.intro (fun g1 => ?_) (fun g1 => ?_)
        · have hlt : k < sz i := by omega
          (try simp only[↓jr,jw,seval,ji,ext_ext,pid_pid,e1,cutE2])
          refine wc.intro (by unfold R64; omega) ?_
          (try simp only[↓jr,jw,seval,ji,ext_ext,pid_pid,e1,cutE2])
          refine JNEXT.of (k + 1) (by omega) (by omega) ?_ (JDropH.next0 (TokExt.refl _) ⟨.inl ⟨rfl, rfl⟩, .inl ⟨rfl, rfl⟩, .inl ⟨rfl, rfl⟩, True.intro⟩)
          (try simp only[↓jr,jw,seval,ji,ext_ext,pid_pid,e1,cutE2,DL])
          exact ⟨SubB.v, SubB.v, SubB.arr (by unfold pid; omega), SubB.ptr (by unfold pid; omega), SubB.ptr (by unfold pid; omega)⟩

        (try simp only[↓jr,jw,seval,ji,ext_ext,pid_pid,e1,cutE2])
        have ek : k = sz i := by omega
        subst ek
        skip
        refine JCs.ret (s_Quantified 2 _) ?_
        rw [show quant 2 = false from rfl]
        (try simp only[↓jr,jw,seval,ji,ext_ext,pid_pid,e1,cutE2])
        exact JFIN.flat (TokExt.refl _) (k := 2) rfl
    · obtain ⟨a, rfl⟩ := List.length_eq_one_iff.1 h0
      have hc := (Bool.and_eq_true_iff.1 hs2).1
      have e : bls (fun x => !semC i a x) (sz i) = bls (semC i (.mk 3 n [a])) (sz i) := bls_congr fun x hx => by simp [semC, semH, hx]
      rw [← e]
      refine JC.run hmix c64 (by exact k64) ?_
      (try simp only[↓jr,jw,seval,ji,ext_ext,pid_pid,e1,cutE2,ir64])
      refine JMKS.same (by omega) (by omega) ?_
      (try simp only[↓jr,jw,seval,ji,ext_ext,pid_pid,e1,cutE2])
      rw [bls_zero]
      (try simp only[↓jr,jw,seval,ji,ext_ext,pid_pid,e1,cutE2])
      refine JDC.use (ih a (by simp) hc _) ?_
      (try simp only[↓jr,jw,seval,ji,ext_ext,pid_pid,e1,cutE2])
      refine JDRAW.oc (by (try simp only[↓jr,jw,seval,ji,ext_ext,pid_pid,e1,cutE2,jq,qe2,qe3,ext_next,ext_tnext,pushTok_next,List.length_cons,List.length_nil]) <;> (repeat' (first | exact trivial | refine And.intro ?_ ?_ | exact Nat.le_refl _ | (refine pr_extp ⟨_, rfl⟩ (some_lt ?_)) | (refine pr_extp ⟨_, rfl⟩ (fun _ q => by cases q)) | omega | (unfold pid; omega) | (simp only [pushTok_next, List.length_cons, List.length_nil]; unfold pid; omega)))) ?_; (try simp only[↓jr,jw,seval,ji,ext_ext,pid_pid,e1,cutE2])
      (try simp only[↓jr,jw,seval,ji,ext_ext,pid_pid,e1,cutE2])
      refine JLOOP.of (σ := Nat) (fun k => k ≤ sz i) (fun k => sz i - k) (fun k => [(58, I64 k), (57, I64 (sz i)), (5, .arr (pid j.next 2) 0 (sz i)), (2, .ptr (pid j.next 0) 0), (3, .ptr (pid j.next 1) 0), (6, .arr (pid j.next 3) 0 (sz i))])
        (fun k => ext j [.cells 33 (Con.mk 3 n [a]).enc, .cells 38 i.enc, .cells BE (bls (mixN (fun _ => false) (fun x => !semC i a x) k) (sz i)), .cells BE (bls (semC i a) (sz i))]) 0 (Nat.zero_le _) ?_ ?_ ?_
      · (try simp only[↓jr,jw,seval,ji,ext_ext,pid_pid,e1,cutE2,DL])
        exact ⟨SubB.v, SubB.v, SubB.arr (by unfold pid; omega), SubB.ptr (by unfold pid; omega), SubB.ptr (by unfold pid; omega), SubB.arr (by unfold pid; omega)⟩
      · rw [mixN_zero]; exact JDropH.refl _
      · intro k hk2
        (try simp only[↓jr,jw,seval,ji,ext_ext,pid_pid,e1,cutE2])
        refine wq.intro (fun g1 => ?_) (fun g1 => ?_)
        · have hlt : k < sz i := by omega
          have ea := bls_at (f := semC i a) hlt
          (try simp only[↓jr,jw,seval,ji,ext_ext,pid_pid,e1,cutE2,ea])
          refine wc.intro (by omega) ?_
          (try simp only[↓jr,jw,seval,ji,ext_ext,pid_pid,e1,cutE2,ea])
          refine wc.intro (by omega) ?_
          (try simp only[↓jr,jw,seval,ji,ext_ext,pid_pid,e1,cutE2])
          refine wc.intro (by rw [bls_len]; omega) ?_
          rw [mixN_set (g := (fun x => !semC i a x)) hlt rfl]
          (try simp only[↓jr,jw,seval,ji,ext_ext,pid_pid,e1,cutE2])
          refine wc.intro (by unfold R64; omega) ?_
          (try simp only[↓jr,jw,seval,ji,ext_ext,pid_pid,e1,cutE2])
          refine JNEXT.of (k + 1) (by omega) (by omega) ?_ (JDropH.next0 (TokExt.refl _) ⟨.inl ⟨rfl, rfl⟩, .inl ⟨rfl, rfl⟩, .inr (OSub.pure bls_pur), .inl ⟨rfl, rfl⟩, True.intro⟩)
          (try simp only[↓jr,jw,seval,ji,ext_ext,pid_pid,e1,cutE2,DL])
          exact ⟨SubB.v, SubB.v, SubB.arr (by unfold pid; omega), SubB.ptr (by unfold pid; omega), SubB.ptr (by unfold pid; omega), SubB.arr (by unfold pid; omega)⟩

        (try simp only[↓jr,jw,seval,ji,ext_ext,pid_pid,e1,cutE2])
        have ek : k = sz i := by omega
        subst ek
        rw [mixN_all]
        refine JCs.ret (s_Quantified 3 _) ?_
        rw [show quant 3 = false from rfl]
        (try simp only[↓jr,jw,seval,ji,ext_ext,pid_pid,e1,cutE2])
        exact JFIN.flat (TokExt.refl _) (k := 2) rfl
    · obtain ⟨a, b, rfl⟩ := len2 h0
      have hc := Bool.and_eq_true_iff.1 hs2
      have hc2 := (Bool.and_eq_true_iff.1 hc.2).1
      have e : bls (fun x => semC i a x && semC i b x) (sz i) = bls (semC i (.mk 4 n [a, b])) (sz i) := bls_congr fun x hx => by simp [semC, semH, semT, hx]
      rw [← e]
      refine JC.run hmix c64 (by exact k64) ?_
      (try simp only[↓jr,jw,seval,ji,ext_ext,pid_pid,e1,cutE2,ir64])
      refine JMKS.same (by omega) (by omega) ?_
      (try simp only[↓jr,jw,seval,ji,ext_ext,pid_pid,e1,cutE2])
      rw [bls_zero]
      (try simp only[↓jr,jw,seval,ji,ext_ext,pid_pid,e1,cutE2])
      refine JDC.use (ih a (by simp) hc.1 _) ?_
      (try simp only[↓jr,jw,seval,ji,ext_ext,pid_pid,e1,cutE2])
      refine JDRAW.oc (by (try simp only[↓jr,jw,seval,ji,ext_ext,pid_pid,e1,cutE2,jq,qe2,qe3,ext_next,ext_tnext,pushTok_next,List.length_cons,List.length_nil]) <;> (repeat' (first | exact trivial | refine And.intro ?_ ?_ | exact Nat.le_refl _ | (refine pr_extp ⟨_, rfl⟩ (some_lt ?_)) | (refine pr_extp ⟨_, rfl⟩ (fun _ q => by cases q)) | omega | (unfold pid; omega) | (simp only [pushTok_next, List.length_cons, List.length_nil]; unfold pid; omega)))) ?_; (try simp only[↓jr,jw,seval,ji,ext_ext,pid_pid,e1,cutE2])
      (try simp only[↓jr,jw,seval,ji,ext_ext,pid_pid,e1,cutE2])
      refine JDC.use (ih b (by simp) hc2 _) ?_
      (try simp only[↓jr,jw,seval,ji,ext_ext,pid_pid,e1,cutE2])
      refine JDRAW.oc (by (try simp only[↓jr,jw,seval,ji,ext_ext,pid_pid,e1,cutE2,jq,qe2,qe3,ext_next,ext_tnext,pushTok_next,List.length_cons,List.length_nil]) <;> (repeat' (first | exact trivial | refine And.intro ?_ ?_ | exact Nat.le_refl _ | (refine pr_extp ⟨_, rfl⟩ (some_lt ?_)) | (refine pr_extp ⟨_, rfl⟩ (fun _ q => by cases q)) | omega | (unfold pid; omega) | (simp only [pushTok_next, List.length_cons, List.length_nil]; unfold pid; omega)))) ?_; (try simp only[↓jr,jw,seval,ji,ext_ext,pid_pid,e1,cutE2])
      (try simp only[↓jr,jw,seval,ji,ext_ext,pid_pid,e1,cutE2])
      refine JLOOP.of (σ := Nat) (fun k => k ≤ sz i) (fun k => sz i - k) (fun k => [(58, I64 k), (57, I64 (sz i)), (5, .arr (pid j.next 2) 0 (sz i)), (2, .ptr (pid j.next 0) 0), (3, .ptr (pid j.next 1) 0), (6, .arr (pid j.next 3) 0 (sz i)), (7, .arr (pid j.next 4) 0 (sz i))])
        (fun k => ext j [.cells 33 (Con.mk 4 n [a, b]).enc, .cells 38 i.enc, .cells BE (bls (mixN (fun _ => false) (fun x => semC i a x && semC i b x) k) (sz i)), .cells BE (bls (semC i a) (sz i)), .cells BE (bls (semC i b) (sz i))]) 0 (Nat.zero_le _) ?_ ?_ ?_
      · (try simp only[↓jr,jw,seval,ji,ext_ext,pid_pid,e1,cutE2,DL])
        exact ⟨SubB.v, SubB.v, SubB.arr (by unfold pid; omega), SubB.ptr (by unfold pid; omega), SubB.ptr (by unfold pid; omega), SubB.arr (by unfold pid; omega), SubB.arr (by unfold pid; omega)⟩
      · rw [mixN_zero]; exact JDropH.refl _
      · intro k hk2
        (try simp only[↓jr,jw,seval,ji,ext_ext,pid_pid,e1,cutE2])
        refine wq.intro (fun g1 => ?_) (fun g1 => ?_)
        · have hlt : k < sz i := by omega
          have ea := bls_at (f := semC i a) hlt
          have eb := bls_at (f := semC i b) hlt
          (try simp only[↓jr,jw,seval,ji,ext_ext,pid_pid,e1,cutE2,ea,eb])
          refine wc.intro (by omega) ?_
          (try simp only[↓jr,jw,seval,ji,ext_ext,pid_pid,e1,cutE2,ea,eb])
          refine ww.intro (fun c1 => ?_) (fun c1 => ?_)
          · skip
            (try simp only[↓jr,jw,seval,ji,ext_ext,pid_pid,e1,cutE2,ea,eb])
            refine wc.intro (by omega) ?_
            (try simp only[↓jr,jw,seval,ji,ext_ext,pid_pid,e1,cutE2,ea,eb])
            refine wc.intro (by omega) ?_
            (try simp only[↓jr,jw,seval,ji,ext_ext,pid_pid,e1,cutE2])
            refine wc.intro (by rw [bls_len]; omega) ?_
            rw [mixN_set (g := (fun x => semC i a x && semC i b x)) hlt (by simp only [c1, Bool.true_and])]
            (try simp only[↓jr,jw,seval,ji,ext_ext,pid_pid,e1,cutE2])
            refine wc.intro (by unfold R64; omega) ?_
            (try simp only[↓jr,jw,seval,ji,ext_ext,pid_pid,e1,cutE2])
            refine JNEXT.of (k + 1) (by omega) (by omega) ?_ (JDropH.next0 (TokExt.refl _) ⟨.inl ⟨rfl, rfl⟩, .inl ⟨rfl, rfl⟩, .inr (OSub.pure bls_pur), .inl ⟨rfl, rfl⟩, .inl ⟨rfl, rfl⟩, True.intro⟩)
            (try simp only[↓jr,jw,seval,ji,ext_ext,pid_pid,e1,cutE2,DL])
            exact ⟨SubB.v, SubB.v, SubB.arr (by unfold pid; omega), SubB.ptr (by unfold pid; omega), SubB.ptr (by unfold pid; omega), SubB.arr (by unfold pid; omega), SubB.arr (by unfold pid; omega)⟩
          · skip
            (try simp only[↓jr,jw,seval,ji,ext_ext,pid_pid,e1,cutE2,ea,eb])
            refine wc.intro (by omega) ?_
            (try simp only[↓jr,jw,seval,ji,ext_ext,pid_pid,e1,cutE2])
            refine wc.intro (by rw [bls_len]; omega) ?_
            rw [mixN_set (g := (fun x => semC i a x && semC i b x)) hlt (by simp only [c1, Bool.false_and])]
            (try simp only[↓jr,jw,seval,ji,ext_ext,pid_pid,e1,cutE2])
            refine wc.intro (by unfold R64; omega) ?_
            (try simp only[↓jr,jw,seval,ji,ext_ext,pid_pid,e1,cutE2])
            refine JNEXT.of (k + 1) (by omega) (by omega) ?_ (JDropH.next0 (TokExt.refl _) ⟨.inl ⟨rfl, rfl⟩, .inl ⟨rfl, rfl⟩, .inr (OSub.pure bls_pur), .inl ⟨rfl, rfl⟩, .inl ⟨rfl, rfl⟩, True.intro⟩)
            (try simp only[↓jr,jw,seval,ji,ext_ext,pid_pid,e1,cutE2,DL])
            exact ⟨SubB.v, SubB.v, SubB.arr (by unfold pid; omega), SubB.ptr (by unfold pid; omega), SubB.ptr (by unfold pid; omega), SubB.arr (by unfold pid; omega), SubB.arr (by unfold pid; omega)⟩

        (try simp only[↓jr,jw,seval,ji,ext_ext,pid_pid,e1,cutE2])
        have ek : k = sz i := by omega
        subst ek
        rw [mixN_all]
        refine JCs.ret (s_Quantified 4 _) ?_
        rw [show quant 4 = false from rfl]
        (try simp only[↓jr,jw,seval,ji,ext_ext,pid_pid,e1,cutE2])
        exact JFIN.flat (TokExt.refl _) (k := 2) rfl
    · obtain ⟨a, b, rfl⟩ := len2 h0
      have hc := Bool.and_eq_true_iff.1 hs2
      have hc2 := (Bool.and_eq_true_iff.1 hc.2).1
      have e : bls (fun x => semC i a x || semC i b x) (sz i) = bls (semC i (.mk 5 n [a, b])) (sz i) := bls_congr fun x hx => by simp [semC, semH, semT, hx]
      rw [← e]
      refine JC.run hmix c64 (by exact k64) ?_
      (try simp only[↓jr,jw,seval,ji,ext_ext,pid_pid,e1,cutE2,ir64])
      refine JMKS.same (by omega) (by omega) ?_
      (try simp only[↓jr,jw,seval,ji,ext_ext,pid_pid,e1,cutE2])
      rw [bls_zero]
      (try simp only[↓jr,jw,seval,ji,ext_ext,pid_pid,e1,cutE2])
      refine JDC.use (ih a (by simp) hc.1 _) ?_
      (try simp only[↓jr,jw,seval,ji,ext_ext,pid_pid,e1,cutE2])
      refine JDRAW.oc (by (try simp only[↓jr,jw,seval,ji,ext_ext,pid_pid,e1,cutE2,jq,qe2,qe3,ext_next,ext_tnext,pushTok_next,List.length_cons,List.length_nil]) <;> (repeat' (first | exact trivial | refine And.intro ?_ ?_ | exact Nat.le_refl _ | (refine pr_extp ⟨_, rfl⟩ (some_lt ?_)) | (refine pr_extp ⟨_, rfl⟩ (fun _ q => by cases q)) | omega | (unfold pid; omega) | (simp only [pushTok_next, List.length_cons, List.length_nil]; unfold pid; omega)))) ?_; (try simp only[↓jr,jw,seval,ji,ext_ext,pid_pid,e1,cutE2])
      (try simp only[↓jr,jw,seval,ji,ext_ext,pid_pid,e1,cutE2])
      refine JDC.use (ih b (by simp) hc2 _) ?_
      (try simp only[↓jr,jw,seval,ji,ext_ext,pid_pid,e1,cutE2])
      refine JDRAW.oc (by (try simp only[↓jr,jw,seval,ji,ext_ext,pid_pid,e1,cutE2,jq,qe2,qe3,ext_next,ext_tnext,pushTok_next,List.length_cons,List.length_nil]) <;> (repeat' (first | exact trivial | refine And.intro ?_ ?_ | exact Nat.le_refl _ | (refine pr_extp ⟨_, rfl⟩ (some_lt ?_)) | (refine pr_extp ⟨_, rfl⟩ (fun _ q => by cases q)) | omega | (unfold pid; omega) | (simp only [pushTok_next, List.length_cons, List.length_nil]; unfold pid; omega)))) ?_; (try simp only[↓jr,jw,seval,ji,ext_ext,pid_pid,e1,cutE2])
      (try simp only[↓jr,jw,seval,ji,ext_ext,pid_pid,e1,cutE2])
      refine JLOOP.of (σ := Nat) (fun k => k ≤ sz i) (fun k => sz i - k) (fun k => [(58, I64 k), (57, I64 (sz i)), (5, .arr (pid j.next 2) 0 (sz i)), (2, .ptr (pid j.next 0) 0), (3, .ptr (pid j.next 1) 0), (6, .arr (pid j.next 3) 0 (sz i)), (7, .arr (pid j.next 4) 0 (sz i))])
        (fun k => ext j [.cells 33 (Con.mk 5 n [a, b]).enc, .cells 38 i.enc, .cells BE (bls (mixN (fun _ => false) (fun x => semC i a x || semC i b x) k) (sz i)), .cells BE (bls (semC i a) (sz i)), .cells BE (bls (semC i b) (sz i))]) 0 (Nat.zero_le _) ?_ ?_ ?_
      · (try simp only[↓jr,jw,seval,ji,ext_ext,pid_pid,e1,cutE2,DL])
        exact ⟨SubB.v, SubB.v, SubB.arr (by unfold pid; omega), SubB.ptr (by unfold pid; omega), SubB.ptr (by unfold pid; omega), SubB.arr (by unfold pid; omega), SubB.arr (by unfold pid; omega)⟩
      · rw [mixN_zero]; exact JDropH.refl _
      · intro k hk2
        (try simp only[↓jr,jw,seval,ji,ext_ext,pid_pid,e1,cutE2])
        refine wq.intro (fun g1 => ?_) (fun g1 => ?_)
        · have hlt : k < sz i := by omega
          have ea := bls_at (f := semC i a) hlt
          have eb := bls_at (f := semC i b) hlt
          (try simp only[↓jr,jw,seval,ji,ext_ext,pid_pid,e1,cutE2,ea,eb])
          refine wc.intro (by omega) ?_
          (try simp only[↓jr,jw,seval,ji,ext_ext,pid_pid,e1,cutE2,ea,eb])
          refine ww.intro (fun c1 => ?_) (fun c1 => ?_)
          · skip
            (try simp only[↓jr,jw,seval,ji,ext_ext,pid_pid,e1,cutE2,ea,eb])
            refine wc.intro (by omega) ?_
            (try simp only[↓jr,jw,seval,ji,ext_ext,pid_pid,e1,cutE2])
            refine wc.intro (by rw [bls_len]; omega) ?_
            rw [mixN_set (g := (fun x => semC i a x || semC i b x)) hlt (by simp only [c1, Bool.true_or])]
            (try simp only[↓jr,jw,seval,ji,ext_ext,pid_pid,e1,cutE2])
            refine wc.intro (by unfold R64; omega) ?_
            (try simp only[↓jr,jw,seval,ji,ext_ext,pid_pid,e1,cutE2])
            refine JNEXT.of (k + 1) (by omega) (by omega) ?_ (JDropH.next0 (TokExt.refl _) ⟨.inl ⟨rfl, rfl⟩, .inl ⟨rfl, rfl⟩, .inr (OSub.pure bls_pur), .inl ⟨rfl, rfl⟩, .inl ⟨rfl, rfl⟩, True.intro⟩)
            (try simp only[↓jr,jw,seval,ji,ext_ext,pid_pid,e1,cutE2,DL])
            exact ⟨SubB.v, SubB.v, SubB.arr (by unfold pid; omega), SubB.ptr (by unfold pid; omega), SubB.ptr (by unfold pid; omega), SubB.arr (by unfold pid; omega), SubB.arr (by unfold pid; omega)⟩
          · skip
            (try simp only[↓jr,jw,seval,ji,ext_ext,pid_pid,e1,cutE2,ea,eb])
            refine wc.intro (by omega) ?_
            (try simp only[↓jr,jw,seval,ji,ext_ext,pid_pid,e1,cutE2,ea,eb])
            refine wc.intro (by omega) ?_
            (try simp only[↓jr,jw,seval,ji,ext_ext,pid_pid,e1,cutE2])
            refine wc.intro (by rw [bls_len]; omega) ?_
            rw [mixN_set (g := (fun x => semC i a x || semC i b x)) hlt (by simp only [c1, Bool.false_or])]
            (try simp only[↓jr,jw,seval,ji,ext_ext,pid_pid,e1,cutE2])
            refine wc.intro (by unfold R64; omega) ?_
            (try simp only[↓jr,jw,seval,ji,ext_ext,pid_pid,e1,cutE2])
            refine JNEXT.of (k + 1) (by omega) (by omega) ?_ (JDropH.next0 (TokExt.refl _) ⟨.inl ⟨rfl, rfl⟩, .inl ⟨rfl, rfl⟩, .inr (OSub.pure bls_pur), .inl ⟨rfl, rfl⟩, .inl ⟨rfl, rfl⟩, True.intro⟩)
            (try simp only[↓jr,jw,seval,ji,ext_ext,pid_pid,e1,cutE2,DL])
            exact ⟨SubB.v, SubB.v, SubB.arr (by unfold pid; omega), SubB.ptr (by unfold pid; omega), SubB.ptr (by unfold pid; omega), SubB.arr (by unfold pid; omega), SubB.arr (by unfold pid; omega)⟩

        (try simp only[↓jr,jw,seval,ji,ext_ext,pid_pid,e1,cutE2])
        have ek : k = sz i := by omega
        subst ek
        rw [mixN_all]
        refine JCs.ret (s_Quantified 5 _) ?_
        rw [show quant 5 = false from rfl]
        (try simp only[↓jr,jw,seval,ji,ext_ext,pid_pid,e1,cutE2])
        exact JFIN.flat (TokExt.refl _) (k := 2) rfl
    · obtain ⟨a, rfl⟩ := List.length_eq_one_iff.1 h0
      have hc := (Bool.and_eq_true_iff.1 hs2).1
      have hk1 := hk.r1
      have hq : n.tdiv 2 = n / 2 := Int.tdiv_eq_ediv_of_nonneg h1
      have hlt0 : (n.tdiv 2).toNat < i.rols.length := by rw [hq]; omega
      obtain ⟨ps, rr, hr⟩ : ∃ c_ l_, List.drop (n.tdiv 2).toNat i.rols = c_ :: l_ := ⟨_, _, List.drop_eq_getElem_cons hlt0⟩
      have hps : rolI i n = ps := by unfold rolI; rw [← List.head?_drop, hr]; rfl
      have hmp : ps ∈ i.rols := List.mem_of_mem_drop (hr ▸ List.mem_cons_self)
      have hpl := (hk.r2 ps hmp).1
      have hpr := hi.r ps hmp
      have hmod : n.tmod 2 = 0 ∨ n.tmod 2 = 1 := by rw [Int.tmod_eq_emod_of_nonneg h1]; omega
      have e : anyF i n (semC i a) ps = semC i (.mk 6 n [a]) := by
        funext x
        have hl := @anyF_lt i hi n (semC i a) ps hmp x
        have e2 : semC i (.mk 6 n [a]) x = (decide (x < sz i) && anyF i n (semC i a) ps x) := by simp [semC, semH, hps, anyF]
        rw [e2]
        cases h : anyF i n (semC i a) ps x
        · simp
        · simp [hl h]
      refine JC.run hmix c64 (by exact k64) ?_
      (try simp only[↓jr,jw,seval,ji,ext_ext,pid_pid,e1,cutE2,ir64])
      refine JMKS.same (by omega) (by omega) ?_
      (try simp only[↓jr,jw,seval,ji,ext_ext,pid_pid,e1,cutE2])
      rw [bls_zero]
      (try simp only[↓jr,jw,seval,ji,ext_ext,pid_pid,e1,cutE2])
      refine JDC.use (ih a (by simp) hc _) ?_
      (try simp only[↓jr,jw,seval,ji,ext_ext,pid_pid,e1,cutE2])
      refine JDRAW.oc (by (try simp only[↓jr,jw,seval,ji,ext_ext,pid_pid,e1,cutE2,jq,qe2,qe3,ext_next,ext_tnext,pushTok_next,List.length_cons,List.length_nil]) <;> (repeat' (first | exact trivial | refine And.intro ?_ ?_ | exact Nat.le_refl _ | (refine pr_extp ⟨_, rfl⟩ (some_lt ?_)) | (refine pr_extp ⟨_, rfl⟩ (fun _ q => by cases q)) | omega | (unfold pid; omega) | (simp only [pushTok_next, List.length_cons, List.length_nil]; unfold pid; omega)))) ?_; (try simp only[↓jr,jw,seval,ji,ext_ext,pid_pid,e1,cutE2])
      (try simp only[↓jr,jw,seval,ji,ext_ext,pid_pid,e1,cutE2])
      refine JLOOP.of (σ := Nat) (fun k => k ≤ sz i) (fun k => sz i - k) (fun k => [(58, I64 k), (57, I64 (sz i)), (5, .arr (pid j.next 2) 0 (sz i)), (2, .ptr (pid j.next 0) 0), (3, .ptr (pid j.next 1) 0), (6, .arr (pid j.next 3) 0 (sz i))])
        (fun k => ext j [.cells 33 (Con.mk 6 n [a]).enc, .cells 38 i.enc, .cells BE (bls (fun _ => false) (sz i)), .cells BE (bls (semC i a) (sz i))]) 0 (Nat.zero_le _) ?_ ?_ ?_
      · (try simp only[↓jr,jw,seval,ji,ext_ext,pid_pid,e1,cutE2,DL])
        exact ⟨SubB.v, SubB.v, SubB.arr (by unfold pid; omega), SubB.ptr (by unfold pid; omega), SubB.ptr (by unfold pid; omega), SubB.arr (by unfold pid; omega)⟩
      · exact JDropH.refl _
      · intro k hk2
        (try simp only[↓jr,jw,seval,ji,ext_ext,pid_pid,e1,cutE2])
        refine wq.intro (fun g1 => ?_) (fun g1 => ?_)
        · have hlt : k < sz i := by omega
          (try simp only[↓jr,jw,seval,ji,ext_ext,pid_pid,e1,cutE2])
          refine wc.intro (by unfold R64; omega) ?_
          (try simp only[↓jr,jw,seval,ji,ext_ext,pid_pid,e1,cutE2])
          refine JNEXT.of (k + 1) (by omega) (by omega) ?_ (JDropH.next0 (TokExt.refl _) ⟨.inl ⟨rfl, rfl⟩, .inl ⟨rfl, rfl⟩, .inl ⟨rfl, rfl⟩, .inl ⟨rfl, rfl⟩, True.intro⟩)
          (try simp only[↓jr,jw,seval,ji,ext_ext,pid_pid,e1,cutE2,DL])
          exact ⟨SubB.v, SubB.v, SubB.arr (by unfold pid; omega), SubB.ptr (by unfold pid; omega), SubB.ptr (by unfold pid; omega), SubB.arr (by unfold pid; omega)⟩

        (try simp only[↓jr,jw,seval,ji,ext_ext,pid_pid,e1,cutE2])
        have ek : k = sz i := by omega
        subst ek
        skip
        refine JCs.ret (s_Quantified 6 _) ?_
        rw [show quant 6 = true from rfl]
        (try simp only[↓jr,jw,seval,ji,ext_ext,pid_pid,e1,cutE2])
        (try simp only[↓jr,jw,seval,ji,ext_ext,pid_pid,e1,cutE2,hr])
        refine wc.intro (by rw [hq]; unfold R64; omega) ?_
        (try simp only[↓jr,jw,seval,ji,ext_ext,pid_pid,e1,cutE2,hr])
        refine wc.intro ⟨by rw [hq]; omega, by rw [hq]; omega, by omega⟩ ?_
        (try simp only[↓jr,jw,seval,ji,ext_ext,pid_pid,e1,cutE2,hr])
        refine JLOOP.of (σ := Nat) (fun k => k ≤ ps.length) (fun k => ps.length - k) (fun k => [(121, I64 k), (120, I64 ps.length), (119, .sl .none ps.length (encs PR ps)), (5, .arr (pid j.next 2) 0 (sz i)), (6, .arr (pid j.next 3) 0 (sz i)), (2, .ptr (pid j.next 0) 0), (3, .ptr (pid j.next 1) 0)])
          (fun k => ext j [.cells 33 (Con.mk 6 n [a]).enc, .cells 38 i.enc, .cells BE (bls (anyF i n (semC i a) (ps.take k)) (sz i)), .cells BE (bls (semC i a) (sz i))]) 0 (Nat.zero_le _) ?_ ?_ ?_
        · (try simp only[↓jr,jw,seval,ji,ext_ext,pid_pid,e1,cutE2,DL])
          exact ⟨SubB.v, SubB.v, SubB.sl rfl (SubBs.pure (PR.pur _)), SubB.arr (by unfold pid; omega), SubB.arr (by unfold pid; omega), SubB.ptr (by unfold pid; omega), SubB.ptr (by unfold pid; omega)⟩
        · rw [List.take_zero, anyF_nil]; exact JDropH.refl _
        intro k hkk
        (try simp only[↓jr,jw,seval,ji,ext_ext,pid_pid,e1,cutE2])
        refine wq.intro (fun g1 => ?_) (fun g1 => ?_)
        · have hltk : k < ps.length := by omega
          obtain ⟨p, pr, hd⟩ : ∃ c_ l_, List.drop k ps = c_ :: l_ := ⟨_, _, List.drop_eq_getElem_cons hltk⟩
          have hmem : p ∈ ps := List.mem_of_mem_drop (hd ▸ List.mem_cons_self)
          have htk : ps.take (k + 1) = ps.take k ++ [p] := by
            have : ps[k]? = some p := by rw [← List.head?_drop, hd]; rfl
            rw [List.take_add_one, this]; rfl
          obtain ⟨q1, q2, q3, q4⟩ := hpr p hmem
          (try simp only[↓jr,jw,seval,ji,ext_ext,pid_pid,e1,cutE2,hd])
          refine wc.intro (by omega) ?_
          obtain ⟨p1, p2⟩ := p
          obtain ⟨u, rfl⟩ : ∃ u : Nat, p1 = u := ⟨p1.toNat, by simp only at q1; omega⟩
          obtain ⟨v, rfl⟩ : ∃ v : Nat, p2 = v := ⟨p2.toNat, by simp only at q3; omega⟩
          simp only at q1 q2 q3 q4
          rcases hmod with hm | hm
          · have f1 : frP n ((u : Int), (v : Int)) = u := by unfold frP; rw [if_pos hm]
            have f2 : toP n ((u : Int), (v : Int)) = v := by unfold toP; rw [if_pos hm]
            have ea := bls_at (f := semC i a) (n := sz i) (k := v) (by omega)
            (try simp only[↓jr,jw,seval,ji,ext_ext,pid_pid,e1,cutE2,hd,hm,ea])
            refine JDRAW.oc (by (try simp only[↓jr,jw,seval,ji,ext_ext,pid_pid,e1,cutE2,jq,qe2,qe3,ext_next,ext_tnext,pushTok_next,List.length_cons,List.length_nil]) <;> (repeat' (first | exact trivial | refine And.intro ?_ ?_ | exact Nat.le_refl _ | (refine pr_extp ⟨_, rfl⟩ (some_lt ?_)) | (refine pr_extp ⟨_, rfl⟩ (fun _ q => by cases q)) | omega | (unfold pid; omega) | (simp only [pushTok_next, List.length_cons, List.length_nil]; unfold pid; omega)))) ?_; (try simp only[↓jr,jw,seval,ji,ext_ext,pid_pid,e1,cutE2])
            (try simp only[↓jr,jw,seval,ji,ext_ext,pid_pid,e1,cutE2,hd,hm,ea])
            refine wc.intro (by omega) ?_
            (try simp only[↓jr,jw,seval,ji,ext_ext,pid_pid,e1,cutE2,hd,hm,ea])
            refine JDRAW.oc (by (try simp only[↓jr,jw,seval,ji,ext_ext,pid_pid,e1,cutE2,jq,qe2,qe3,ext_next,ext_tnext,pushTok_next,List.length_cons,List.length_nil]) <;> (repeat' (first | exact trivial | refine And.intro ?_ ?_ | exact Nat.le_refl _ | (refine pr_extp ⟨_, rfl⟩ (some_lt ?_)) | (refine pr_extp ⟨_, rfl⟩ (fun _ q => by cases q)) | omega | (unfold pid; omega) | (simp only [pushTok_next, List.length_cons, List.length_nil]; unfold pid; omega)))) ?_; (try simp only[↓jr,jw,seval,ji,ext_ext,pid_pid,e1,cutE2])
            refine ww.intro (fun c5 => ?_) (fun c5 => ?_)
            · (try simp only[↓jr,jw,seval,ji,ext_ext,pid_pid,e1,cutE2])
              refine wc.intro (by omega) ?_
              (try simp only[↓jr,jw,seval,ji,ext_ext,pid_pid,e1,cutE2])
              refine wc.intro (by rw [bls_len]; omega) ?_
              rw [anyF_put (by omega) f1 f2 (by simpa using c5), ← htk]
              (try simp only[↓jr,jw,seval,ji,ext_ext,pid_pid,e1,cutE2])
              refine wc.intro (by unfold R64; omega) ?_
              (try simp only[↓jr,jw,seval,ji,ext_ext,pid_pid,e1,cutE2])
              refine JNEXT.of (k + 1) (by omega) (by omega) ?_ (JDropH.next0 (TokExt.refl _) ⟨.inl ⟨rfl, rfl⟩, .inl ⟨rfl, rfl⟩, .inr (OSub.pure bls_pur), .inl ⟨rfl, rfl⟩, True.intro⟩)
              (try simp only[↓jr,jw,seval,ji,ext_ext,pid_pid,e1,cutE2,DL])
              exact ⟨SubB.v, SubB.v, SubB.sl rfl (SubBs.pure (PR.pur _)), SubB.arr (by unfold pid; omega), SubB.arr (by unfold pid; omega), SubB.ptr (by unfold pid; omega), SubB.ptr (by unfold pid; omega)⟩
            · rw [anyF_miss f1 f2 (by simpa using c5), ← htk]
              (try simp only[↓jr,jw,seval,ji,ext_ext,pid_pid,e1,cutE2])
              refine wc.intro (by unfold R64; omega) ?_
              (try simp only[↓jr,jw,seval,ji,ext_ext,pid_pid,e1,cutE2])
              refine JNEXT.of (k + 1) (by omega) (by omega) ?_ (JDropH.next0 (TokExt.refl _) ⟨.inl ⟨rfl, rfl⟩, .inl ⟨rfl, rfl⟩, .inl ⟨rfl, rfl⟩, .inl ⟨rfl, rfl⟩, True.intro⟩)
              (try simp only[↓jr,jw,seval,ji,ext_ext,pid_pid,e1,cutE2,DL])
              exact ⟨SubB.v, SubB.v, SubB.sl rfl (SubBs.pure (PR.pur _)), SubB.arr (by unfold pid; omega), SubB.arr (by unfold pid; omega), SubB.ptr (by unfold pid; omega), SubB.ptr (by unfold pid; omega)⟩
          · have f1 : frP n ((u : Int), (v : Int)) = v := by unfold frP; rw [if_neg (by omega)]
            have f2 : toP n ((u : Int), (v : Int)) = u := by unfold toP; rw [if_neg (by omega)]
            have ea := bls_at (f := semC i a) (n := sz i) (k := u) (by omega)
            (try simp only[↓jr,jw,seval,ji,ext_ext,pid_pid,e1,cutE2,hd,hm,ea])
            refine JDRAW.oc (by (try simp only[↓jr,jw,seval,ji,ext_ext,pid_pid,e1,cutE2,jq,qe2,qe3,ext_next,ext_tnext,pushTok_next,List.length_cons,List.length_nil]) <;> (repeat' (first | exact trivial | refine And.intro ?_ ?_ | exact Nat.le_refl _ | (refine pr_extp ⟨_, rfl⟩ (some_lt ?_)) | (refine pr_extp ⟨_, rfl⟩ (fun _ q => by cases q)) | omega | (unfold pid; omega) | (simp only [pushTok_next, List.length_cons, List.length_nil]; unfold pid; omega)))) ?_; (try simp only[↓jr,jw,seval,ji,ext_ext,pid_pid,e1,cutE2])
            (try simp only[↓jr,jw,seval,ji,ext_ext,pid_pid,e1,cutE2,hd,hm,ea])
            refine wc.intro (by omega) ?_
            (try simp only[↓jr,jw,seval,ji,ext_ext,pid_pid,e1,cutE2,hd,hm,ea])
            refine JDRAW.oc (by (try simp only[↓jr,jw,seval,ji,ext_ext,pid_pid,e1,cutE2,jq,qe2,qe3,ext_next,ext_tnext,pushTok_next,List.length_cons,List.length_nil]) <;> (repeat' (first | exact trivial | refine And.intro ?_ ?_ | exact Nat.le_refl _ | (refine pr_extp ⟨_, rfl⟩ (some_lt ?_)) | (refine pr_extp ⟨_, rfl⟩ (fun _ q => by cases q)) | omega | (unfold pid; omega) | (simp only [pushTok_next, List.length_cons, List.length_nil]; unfold pid; omega)))) ?_; (try simp only[↓jr,jw,seval,ji,ext_ext,pid_pid,e1,cutE2])
            refine ww.intro (fun c5 => ?_) (fun c5 => ?_)
            · (try simp only[↓jr,jw,seval,ji,ext_ext,pid_pid,e1,cutE2])
              refine wc.intro (by omega) ?_
              (try simp only[↓jr,jw,seval,ji,ext_ext,pid_pid,e1,cutE2])
              refine wc.intro (by rw [bls_len]; omega) ?_
              rw [anyF_put (by omega) f1 f2 (by simpa using c5), ← htk]
              (try simp only[↓jr,jw,seval,ji,ext_ext,pid_pid,e1,cutE2])
              refine wc.intro (by unfold R64; omega) ?_
              (try simp only[↓jr,jw,seval,ji,ext_ext,pid_pid,e1,cutE2])
              refine JNEXT.of (k + 1) (by omega) (by omega) ?_ (JDropH.next0 (TokExt.refl _) ⟨.inl ⟨rfl, rfl⟩, .inl ⟨rfl, rfl⟩, .inr (OSub.pure bls_pur), .inl ⟨rfl, rfl⟩, True.intro⟩)
              (try simp only[↓jr,jw,seval,ji,ext_ext,pid_pid,e1,cutE2,DL])
              exact ⟨SubB.v, SubB.v, SubB.sl rfl (SubBs.pure (PR.pur _)), SubB.arr (by unfold pid; omega), SubB.arr (by unfold pid; omega), SubB.ptr (by unfold pid; omega), SubB.ptr (by unfold pid; omega)⟩
            · rw [anyF_miss f1 f2 (by simpa using c5), ← htk]
              (try simp only[↓jr,jw,seval,ji,ext_ext,pid_pid,e1,cutE2])
              refine wc.intro (by unfold R64; omega) ?_
              (try simp only[↓jr,jw,seval,ji,ext_ext,pid_pid,e1,cutE2])
              refine JNEXT.of (k + 1) (by omega) (by omega) ?_ (JDropH.next0 (TokExt.refl _) ⟨.inl ⟨rfl, rfl⟩, .inl ⟨rfl, rfl⟩, .inl ⟨rfl, rfl⟩, .inl ⟨rfl, rfl⟩, True.intro⟩)
              (try simp only[↓jr,jw,seval,ji,ext_ext,pid_pid,e1,cutE2,DL])
              exact ⟨SubB.v, SubB.v, SubB.sl rfl (SubBs.pure (PR.pur _)), SubB.arr (by unfold pid; omega), SubB.arr (by unfold pid; omega), SubB.ptr (by unfold pid; omega), SubB.ptr (by unfold pid; omega)⟩
        (try simp only[↓jr,jw,seval,ji,ext_ext,pid_pid,e1,cutE2])
        have ek : k = ps.length := by omega
        subst ek
        rw [List.take_length, e]
        exact JFIN.flat (TokExt.refl _) (k := 2) rfl
    · obtain ⟨a, rfl⟩ := List.length_eq_one_iff.1 h0
      have hc := (Bool.and_eq_true_iff.1 hs2).1
      have hk1 := hk.r1
      have hq : n.tdiv 2 = n / 2 := Int.tdiv_eq_ediv_of_nonneg h1
      have hlt0 : (n.tdiv 2).toNat < i.rols.length := by rw [hq]; omega
      obtain ⟨ps, rr, hr⟩ : ∃ c_ l_, List.drop (n.tdiv 2).toNat i.rols = c_ :: l_ := ⟨_, _, List.drop_eq_getElem_cons hlt0⟩
      have hps : rolI i n = ps := by unfold rolI; rw [← List.head?_drop, hr]; rfl
      have hmp : ps ∈ i.rols := List.mem_of_mem_drop (hr ▸ List.mem_cons_self)
      have hpl := (hk.r2 ps hmp).1
      have hpr := hi.r ps hmp
      have hmod : n.tmod 2 = 0 ∨ n.tmod 2 = 1 := by rw [Int.tmod_eq_emod_of_nonneg h1]; omega
      have e : allF i n (fun x => !semC i a x) ps = semC i (.mk 7 n [a]) := by
        funext x
        simp [semC, semH, hps, anyF, allF]
      refine JC.run hmix c64 (by exact k64) ?_
      (try simp only[↓jr,jw,seval,ji,ext_ext,pid_pid,e1,cutE2,ir64])
      refine JMKS.same (by omega) (by omega) ?_
      (try simp only[↓jr,jw,seval,ji,ext_ext,pid_pid,e1,cutE2])
      rw [bls_zero]
      (try simp only[↓jr,jw,seval,ji,ext_ext,pid_pid,e1,cutE2])
      refine JDC.use (ih a (by simp) hc _) ?_
      (try simp only[↓jr,jw,seval,ji,ext_ext,pid_pid,e1,cutE2])
      refine JDRAW.oc (by (try simp only[↓jr,jw,seval,ji,ext_ext,pid_pid,e1,cutE2,jq,qe2,qe3,ext_next,ext_tnext,pushTok_next,List.length_cons,List.length_nil]) <;> (repeat' (first | exact trivial | refine And.intro ?_ ?_ | exact Nat.le_refl _ | (refine pr_extp ⟨_, rfl⟩ (some_lt ?_)) | (refine pr_extp ⟨_, rfl⟩ (fun _ q => by cases q)) | omega | (unfold pid; omega) | (simp only [pushTok_next, List.length_cons, List.length_nil]; unfold pid; omega)))) ?_; (try simp only[↓jr,jw,seval,ji,ext_ext,pid_pid,e1,cutE2])
      (try simp only[↓jr,jw,seval,ji,ext_ext,pid_pid,e1,cutE2])
      refine JLOOP.of (σ := Nat) (fun k => k ≤ sz i) (fun k => sz i - k) (fun k => [(58, I64 k), (57, I64 (sz i)), (5, .arr (pid j.next 2) 0 (sz i)), (2, .ptr (pid j.next 0) 0), (3, .ptr (pid j.next 1) 0), (6, .arr (pid j.next 3) 0 (sz i))])
        (fun k => ext j [.cells 33 (Con.mk 7 n [a]).enc, .cells 38 i.enc, .cells BE (bls (mixN (fun _ => false) (fun x => decide (x < sz i)) k) (sz i)), .cells BE (bls (semC i a) (sz i))]) 0 (Nat.zero_le _) ?_ ?_ ?_
      · (try simp only[↓jr,jw,seval,ji,ext_ext,pid_pid,e1,cutE2,DL])
        exact ⟨SubB.v, SubB.v, SubB.arr (by unfold pid; omega), SubB.ptr (by unfold pid; omega), SubB.ptr (by unfold pid; omega), SubB.arr (by unfold pid; omega)⟩
      · rw [mixN_zero]; exact JDropH.refl _
      · intro k hk2
        (try simp only[↓jr,jw,seval,ji,ext_ext,pid_pid,e1,cutE2])
        refine wq.intro (fun g1 => ?_) (fun g1 => ?_)
        · have hlt : k < sz i := by omega
          (try simp only[↓jr,jw,seval,ji,ext_ext,pid_pid,e1,cutE2])
          refine wc.intro (by omega) ?_
          (try simp only[↓jr,jw,seval,ji,ext_ext,pid_pid,e1,cutE2])
          refine wc.intro (by rw [bls_len]; omega) ?_
          rw [mixN_set (g := (fun x => decide (x < sz i))) hlt (decide_eq_true hlt).symm]
          (try simp only[↓jr,jw,seval,ji,ext_ext,pid_pid,e1,cutE2])
          refine wc.intro (by unfold R64; omega) ?_
          (try simp only[↓jr,jw,seval,ji,ext_ext,pid_pid,e1,cutE2])
          refine JNEXT.of (k + 1) (by omega) (by omega) ?_ (JDropH.next0 (TokExt.refl _) ⟨.inl ⟨rfl, rfl⟩, .inl ⟨rfl, rfl⟩, .inr (OSub.pure bls_pur), .inl ⟨rfl, rfl⟩, True.intro⟩)
          (try simp only[↓jr,jw,seval,ji,ext_ext,pid_pid,e1,cutE2,DL])
          exact ⟨SubB.v, SubB.v, SubB.arr (by unfold pid; omega), SubB.ptr (by unfold pid; omega), SubB.ptr (by unfold pid; omega), SubB.arr (by unfold pid; omega)⟩

        (try simp only[↓jr,jw,seval,ji,ext_ext,pid_pid,e1,cutE2])
        have ek : k = sz i := by omega
        subst ek
        rw [mixN_all]
        refine JCs.ret (s_Quantified 7 _) ?_
        rw [show quant 7 = true from rfl]
        (try simp only[↓jr,jw,seval,ji,ext_ext,pid_pid,e1,cutE2])
        (try simp only[↓jr,jw,seval,ji,ext_ext,pid_pid,e1,cutE2,hr])
        refine wc.intro (by rw [hq]; unfold R64; omega) ?_
        (try simp only[↓jr,jw,seval,ji,ext_ext,pid_pid,e1,cutE2,hr])
        refine wc.intro ⟨by rw [hq]; omega, by rw [hq]; omega, by omega⟩ ?_
        (try simp only[↓jr,jw,seval,ji,ext_ext,pid_pid,e1,cutE2,hr])
        refine JLOOP.of (σ := Nat) (fun k => k ≤ ps.length) (fun k => ps.length - k) (fun k => [(121, I64 k), (120, I64 ps.length), (119, .sl .none ps.length (encs PR ps)), (5, .arr (pid j.next 2) 0 (sz i)), (6, .arr (pid j.next 3) 0 (sz i)), (2, .ptr (pid j.next 0) 0), (3, .ptr (pid j.next 1) 0)])
          (fun k => ext j [.cells 33 (Con.mk 7 n [a]).enc, .cells 38 i.enc, .cells BE (bls (allF i n (fun x => !semC i a x) (ps.take k)) (sz i)), .cells BE (bls (semC i a) (sz i))]) 0 (Nat.zero_le _) ?_ ?_ ?_
        · (try simp only[↓jr,jw,seval,ji,ext_ext,pid_pid,e1,cutE2,DL])
          exact ⟨SubB.v, SubB.v, SubB.sl rfl (SubBs.pure (PR.pur _)), SubB.arr (by unfold pid; omega), SubB.arr (by unfold pid; omega), SubB.ptr (by unfold pid; omega), SubB.ptr (by unfold pid; omega)⟩
        · rw [List.take_zero, allF_nil]; exact JDropH.refl _
        intro k hkk
        (try simp only[↓jr,jw,seval,ji,ext_ext,pid_pid,e1,cutE2])
        refine wq.intro (fun g1 => ?_) (fun g1 => ?_)
        · have hltk : k < ps.length := by omega
          obtain ⟨p, pr, hd⟩ : ∃ c_ l_, List.drop k ps = c_ :: l_ := ⟨_, _, List.drop_eq_getElem_cons hltk⟩
          have hmem : p ∈ ps := List.mem_of_mem_drop (hd ▸ List.mem_cons_self)
          have htk : ps.take (k + 1) = ps.take k ++ [p] := by
            have : ps[k]? = some p := by rw [← List.head?_drop, hd]; rfl
            rw [List.take_add_one, this]; rfl
          obtain ⟨q1, q2, q3, q4⟩ := hpr p hmem
          (try simp only[↓jr,jw,seval,ji,ext_ext,pid_pid,e1,cutE2,hd])
          refine wc.intro (by omega) ?_
          obtain ⟨p1, p2⟩ := p
          obtain ⟨u, rfl⟩ : ∃ u : Nat, p1 = u := ⟨p1.toNat, by simp only at q1; omega⟩
          obtain ⟨v, rfl⟩ : ∃ v : Nat, p2 = v := ⟨p2.toNat, by simp only at q3; omega⟩
          simp only at q1 q2 q3 q4
          rcases hmod with hm | hm
          · have f1 : frP n ((u : Int), (v : Int)) = u := by unfold frP; rw [if_pos hm]
            have f2 : toP n ((u : Int), (v : Int)) = v := by unfold toP; rw [if_pos hm]
            have ea := bls_at (f := semC i a) (n := sz i) (k := v) (by omega)
            (try simp only[↓jr,jw,seval,ji,ext_ext,pid_pid,e1,cutE2,hd,hm,ea])
            refine JDRAW.oc (by (try simp only[↓jr,jw,seval,ji,ext_ext,pid_pid,e1,cutE2,jq,qe2,qe3,ext_next,ext_tnext,pushTok_next,List.length_cons,List.length_nil]) <;> (repeat' (first | exact trivial | refine And.intro ?_ ?_ | exact Nat.le_refl _ | (refine pr_extp ⟨_, rfl⟩ (some_lt ?_)) | (refine pr_extp ⟨_, rfl⟩ (fun _ q => by cases q)) | omega | (unfold pid; omega) | (simp only [pushTok_next, List.length_cons, List.length_nil]; unfold pid; omega)))) ?_; (try simp only[↓jr,jw,seval,ji,ext_ext,pid_pid,e1,cutE2])
            (try simp only[↓jr,jw,seval,ji,ext_ext,pid_pid,e1,cutE2,hd,hm,ea])
            refine wc.intro (by omega) ?_
            (try simp only[↓jr,jw,seval,ji,ext_ext,pid_pid,e1,cutE2,hd,hm,ea])
            refine JDRAW.oc (by (try simp only[↓jr,jw,seval,ji,ext_ext,pid_pid,e1,cutE2,jq,qe2,qe3,ext_next,ext_tnext,pushTok_next,List.length_cons,List.length_nil]) <;> (repeat' (first | exact trivial | refine And.intro ?_ ?_ | exact Nat.le_refl _ | (refine pr_extp ⟨_, rfl⟩ (some_lt ?_)) | (refine pr_extp ⟨_, rfl⟩ (fun _ q => by cases q)) | omega | (unfold pid; omega) | (simp only [pushTok_next, List.length_cons, List.length_nil]; unfold pid; omega)))) ?_; (try simp only[↓jr,jw,seval,ji,ext_ext,pid_pid,e1,cutE2])
            refine ww.intro (fun c5 => ?_) (fun c5 => ?_)
            · (try simp only[↓jr,jw,seval,ji,ext_ext,pid_pid,e1,cutE2])
              refine wc.intro (by omega) ?_
              (try simp only[↓jr,jw,seval,ji,ext_ext,pid_pid,e1,cutE2])
              refine wc.intro (by rw [bls_len]; omega) ?_
              rw [allF_put (by omega) f1 f2 (by simpa using c5), ← htk]
              (try simp only[↓jr,jw,seval,ji,ext_ext,pid_pid,e1,cutE2])
              refine wc.intro (by unfold R64; omega) ?_
              (try simp only[↓jr,jw,seval,ji,ext_ext,pid_pid,e1,cutE2])
              refine JNEXT.of (k + 1) (by omega) (by omega) ?_ (JDropH.next0 (TokExt.refl _) ⟨.inl ⟨rfl, rfl⟩, .inl ⟨rfl, rfl⟩, .inr (OSub.pure bls_pur), .inl ⟨rfl, rfl⟩, True.intro⟩)
              (try simp only[↓jr,jw,seval,ji,ext_ext,pid_pid,e1,cutE2,DL])
              exact ⟨SubB.v, SubB.v, SubB.sl rfl (SubBs.pure (PR.pur _)), SubB.arr (by unfold pid; omega), SubB.arr (by unfold pid; omega), SubB.ptr (by unfold pid; omega), SubB.ptr (by unfold pid; omega)⟩
            · rw [allF_miss f1 f2 (by simpa using c5), ← htk]
              (try simp only[↓jr,jw,seval,ji,ext_ext,pid_pid,e1,cutE2])
              refine wc.intro (by unfold R64; omega) ?_
              (try simp only[↓jr,jw,seval,ji,ext_ext,pid_pid,e1,cutE2])
              refine JNEXT.of (k + 1) (by omega) (by omega) ?_ (JDropH.next0 (TokExt.refl _) ⟨.inl ⟨rfl, rfl⟩, .inl ⟨rfl, rfl⟩, .inl ⟨rfl, rfl⟩, .inl ⟨rfl, rfl⟩, True.intro⟩)
              (try simp only[↓jr,jw,seval,ji,ext_ext,pid_pid,e1,cutE2,DL])
              exact ⟨SubB.v, SubB.v, SubB.sl rfl (SubBs.pure (PR.pur _)), SubB.arr (by unfold pid; omega), SubB.arr (by unfold pid; omega), SubB.ptr (by unfold pid; omega), SubB.ptr (by unfold pid; omega)⟩
          · have f1 : frP n ((u : Int), (v : Int)) = v := by unfold frP; rw [if_neg (by omega)]
            have f2 : toP n ((u : Int), (v : Int)) = u := by unfold toP; rw [if_neg (by omega)]
            have ea := bls_at (f := semC i a) (n := sz i) (k := u) (by omega)
            (try simp only[↓jr,jw,seval,ji,ext_ext,pid_pid,e1,cutE2,hd,hm,ea])
            refine JDRAW.oc (by (try simp only[↓jr,jw,seval,ji,ext_ext,pid_pid,e1,cutE2,jq,qe2,qe3,ext_next,ext_tnext,pushTok_next,List.length_cons,List.length_nil]) <;> (repeat' (first | exact trivial | refine And.intro ?_ ?_ | exact Nat.le_refl _ | (refine pr_extp ⟨_, rfl⟩ (some_lt ?_)) | (refine pr_extp ⟨_, rfl⟩ (fun _ q => by cases q)) | omega | (unfold pid; omega) | (simp only [pushTok_next, List.length_cons, List.length_nil]; unfold pid; omega)))) ?_; (try simp only[↓jr,jw,seval,ji,ext_ext,pid_pid,e1,cutE2])
            (try simp only[↓jr,jw,seval,ji,ext_ext,pid_pid,e1,cutE2,hd,hm,ea])
            refine wc.intro (by omega) ?_
            (try simp only[↓jr,jw,seval,ji,ext_ext,pid_pid,e1,cutE2,hd,hm,ea])
            refine JDRAW.oc (by (try simp only[↓jr,jw,seval,ji,ext_ext,pid_pid,e1,cutE2,jq,qe2,qe3,ext_next,ext_tnext,pushTok_next,List.length_cons,List.length_nil]) <;> (repeat' (first | exact trivial | refine And.intro ?_ ?_ | exact Nat.le_refl _ | (refine pr_extp ⟨_, rfl⟩ (some_lt ?_)) | (refine pr_extp ⟨_, rfl⟩ (fun _ q => by cases q)) | omega | (unfold pid; omega) | (simp only [pushTok_next, List.length_cons, List.length_nil]; unfold pid; omega)))) ?_; (try simp only[↓jr,jw,seval,ji,ext_ext,pid_pid,e1,cutE2])
            refine ww.intro (fun c5 => ?_) (fun c5 => ?_)
            · (try simp only[↓jr,jw,seval,ji,ext_ext,pid_pid,e1,cutE2])
              refine wc.intro (by omega) ?_
              (try simp only[↓jr,jw,seval,ji,ext_ext,pid_pid,e1,cutE2])
              refine wc.intro (by rw [bls_len]; omega) ?_
              rw [allF_put (by omega) f1 f2 (by simpa using c5), ← htk]
              (try simp only[↓jr,jw,seval,ji,ext_ext,pid_pid,e1,cutE2])
              refine wc.intro (by unfold R64; omega) ?_
              (try simp only[↓jr,jw,seval,ji,ext_ext,pid_pid,e1,cutE2])
              refine JNEXT.of (k + 1) (by omega) (by omega) ?_ (JDropH.next0 (TokExt.refl _) ⟨.inl ⟨rfl, rfl⟩, .inl ⟨rfl, rfl⟩, .inr (OSub.pure bls_pur), .inl ⟨rfl, rfl⟩, True.intro⟩)
              (try simp only[↓jr,jw,seval,ji,ext_ext,pid_pid,e1,cutE2,DL])
              exact ⟨SubB.v, SubB.v, SubB.sl rfl (SubBs.pure (PR.pur _)), SubB.arr (by unfold pid; omega), SubB.arr (by unfold pid; omega), SubB.ptr (by unfold pid; omega), SubB.ptr (by unfold pid; omega)⟩
            · rw [allF_miss f1 f2 (by simpa using c5), ← htk]
              (try simp only[↓jr,jw,seval,ji,ext_ext,pid_pid,e1,cutE2])
              refine wc.intro (by unfold R64; omega) ?_
              (try simp only[↓jr,jw,seval,ji,ext_ext,pid_pid,e1,cutE2])
              refine JNEXT.of (k + 1) (by omega) (by omega) ?_ (JDropH.next0 (TokExt.refl _) ⟨.inl ⟨rfl, rfl⟩, .inl ⟨rfl, rfl⟩, .inl ⟨rfl, rfl⟩, .inl ⟨rfl, rfl⟩, True.intro⟩)
              (try simp only[↓jr,jw,seval,ji,ext_ext,pid_pid,e1,cutE2,DL])
              exact ⟨SubB.v, SubB.v, SubB.sl rfl (SubBs.pure (PR.pur _)), SubB.arr (by unfold pid; omega), SubB.arr (by unfold pid; omega), SubB.ptr (by unfold pid; omega), SubB.ptr (by unfold pid; omega)⟩
        (try simp only[↓jr,jw,seval,ji,ext_ext,pid_pid,e1,cutE2])
        have ek : k = ps.length := by omega
        subst ek
        rw [List.take_length, e]
        exact JFIN.flat (TokExt.refl _) (k := 2) rfl
end
end Go.Proofs.YtnkkeenclhncmaaGreatDoor.Pg
