/-
  Elements as a row of bools; normal forms and elements.
-/
import Derived.Test.YtnkkeenclhncmaaDoorIq
import Derived.Test.YtnkkeenclhncmaaDoorLh
set_option linter.unusedVariables false
set_option linter.unusedSimpArgs false
set_option maxRecDepth 100000
set_option maxHeartbeats 8000000
namespace Go.Proofs.YtnkkeenclhncmaaDoor.Pg
open Go
theorem any_congr' {α : Type} {f g : α → Bool} : ∀ {l : List α}, (∀ x ∈ l, f x = g x) → l.any f = l.any g
  | [], _ => rfl
  | x :: l, h => by rw [List.any_cons, List.any_cons, h x List.mem_cons_self, any_congr' fun y hy => h y (List.mem_cons_of_mem _ hy)]
theorem one_of {l : List Con} (h : l.length = 1) : ∃ a, l = [a] := by
  match l, h with
  | [a], _ => exact ⟨a, rfl⟩
theorem two_of {l : List Con} (h : l.length = 2) : ∃ a b, l = [a, b] := by
  match l, h with
  | [a, b], _ => exact ⟨a, b, rfl⟩
theorem toP_lt {i : Itp} (hi : i.wf) {n : Int} (h0 : 0 ≤ n) (h1 : n < 2 * (i.rols.length : Int)) : ∀ p ∈ rolI i n, (toP n p).toNat < sz i := by
  obtain ⟨e1, _, _⟩ := sz_size hi
  intro p hp
  have := hi.r _ (rolI_mem h0 h1) p hp
  unfold toP
  split <;> omega
theorem sem_nnf {i : Itp} (hi : i.wf) : ∀ (c : Con) (no : Bool) (x : Nat), shaped i.cons.length i.rols.length c = true → semC i (nnf c no) x = if no then decide (x < sz i) && !semC i c x else semC i c x := by
  intro c
  induction c using Con.ind with
  | h o n l ih =>
  intro no x hs
  rw [shaped_mk] at hs
  obtain ⟨hs1, hs2⟩ := hs
  rcases sh_cases hs1 with ⟨rfl, h0, h1, h2⟩ | ⟨rfl, h0⟩ | ⟨rfl, h0⟩ | ⟨rfl, h0⟩ | ⟨rfl, h0⟩ | ⟨rfl, h0⟩ | ⟨rfl, h0, h1, h2⟩ | ⟨rfl, h0, h1, h2⟩
  · obtain rfl := List.length_eq_zero_iff.1 h0
    cases no <;> simp [nnf, semC, semH]
  · obtain rfl := List.length_eq_zero_iff.1 h0
    cases no <;> simp [nnf, nnfs, semC, semH, dualI]
  · obtain rfl := List.length_eq_zero_iff.1 h0
    cases no <;> simp [nnf, nnfs, semC, semH, dualI]
  · obtain ⟨a, rfl⟩ := one_of h0
    have hsa := shapedL_mem hs2 (c := a) (by simp)
    simp only [nnf, nnfH, show ¬ (3 : Int) = 0 by omega, if_false, if_true]
    rw [ih a (by simp) (!no) x hsa]
    have hlt := @semC_lt i a x
    cases no <;> simp [semC, semH]
    cases h : semC i a x
    · cases decide (x < sz i) <;> rfl
    · rw [decide_eq_true (hlt h)]; rfl
  · obtain ⟨a, b, rfl⟩ := two_of h0
    have hsa := shapedL_mem hs2 (c := a) (by simp)
    have hsb := shapedL_mem hs2 (c := b) (by simp)
    have ia := ih a (by simp) no x hsa
    have ib := ih b (by simp) no x hsb
    rw [nnf_mk (by omega) (by omega)]
    simp only [nnfs]
    cases no with
    | false =>
      simp only [Bool.false_eq_true, if_false] at ia ib ⊢
      simp [semC, semH, semT, ia, ib]
    | true =>
      simp only [if_true] at ia ib ⊢
      simp [semC, semH, semT, dualI, ia, ib]
      by_cases hx : x < sz i <;> simp [hx, Bool.not_and]
  · obtain ⟨a, b, rfl⟩ := two_of h0
    have hsa := shapedL_mem hs2 (c := a) (by simp)
    have hsb := shapedL_mem hs2 (c := b) (by simp)
    have ia := ih a (by simp) no x hsa
    have ib := ih b (by simp) no x hsb
    rw [nnf_mk (by omega) (by omega)]
    simp only [nnfs]
    cases no with
    | false =>
      simp only [Bool.false_eq_true, if_false] at ia ib ⊢
      simp [semC, semH, semT, ia, ib]
    | true =>
      simp only [if_true] at ia ib ⊢
      simp [semC, semH, semT, dualI, ia, ib]
      by_cases hx : x < sz i <;> simp [hx, Bool.not_or]
  · obtain ⟨a, rfl⟩ := one_of h0
    have hsa := shapedL_mem hs2 (c := a) (by simp)
    have hto := toP_lt hi h1 h2
    rw [nnf_mk (by omega) (by omega)]
    simp only [nnfs]
    cases no with
    | false =>
      simp only [Bool.false_eq_true, if_false]
      have e : (rolI i n).any (fun p => decide (frP n p = (x : Int)) && semC i (nnf a false) (toP n p).toNat) = (rolI i n).any (fun p => decide (frP n p = (x : Int)) && semC i a (toP n p).toNat) :=
        any_congr' fun p hp => by rw [ih a (by simp) false _ hsa]; simp
      simp [semC, semH, e]
    | true =>
      simp only [if_true]
      have e : (rolI i n).any (fun p => decide (frP n p = (x : Int)) && !semC i (nnf a true) (toP n p).toNat) = (rolI i n).any (fun p => decide (frP n p = (x : Int)) && semC i a (toP n p).toNat) :=
        any_congr' fun p hp => by rw [ih a (by simp) true _ hsa]; simp [hto p hp]
      simp only [semC, semH, dualI]
      simp [e]
      by_cases hx : x < sz i <;> simp [hx]
  · obtain ⟨a, rfl⟩ := one_of h0
    have hsa := shapedL_mem hs2 (c := a) (by simp)
    have hto := toP_lt hi h1 h2
    rw [nnf_mk (by omega) (by omega)]
    simp only [nnfs]
    cases no with
    | false =>
      simp only [Bool.false_eq_true, if_false]
      have e : (rolI i n).any (fun p => decide (frP n p = (x : Int)) && !semC i (nnf a false) (toP n p).toNat) = (rolI i n).any (fun p => decide (frP n p = (x : Int)) && !semC i a (toP n p).toNat) :=
        any_congr' fun p hp => by rw [ih a (by simp) false _ hsa]; simp
      simp [semC, semH, e]
    | true =>
      simp only [if_true]
      have e : (rolI i n).any (fun p => decide (frP n p = (x : Int)) && semC i (nnf a true) (toP n p).toNat) = (rolI i n).any (fun p => decide (frP n p = (x : Int)) && !semC i a (toP n p).toNat) :=
        any_congr' fun p hp => by rw [ih a (by simp) true _ hsa]; simp [hto p hp]
      simp only [semC, semH, dualI]
      simp [e]
      by_cases hx : x < sz i <;> simp [hx]
theorem ris_bits {f : Nat → Bool} {lim : Int} : ∀ (l : List Nat) (p : Int), l.Pairwise (· < ·) → (∀ x ∈ l, p < (x : Int) ∧ (x : Int) < lim) → risF lim p ((l.filter f).map fun (i : Nat) => (i : Int)) = true
  | [], _, _, _ => rfl
  | x :: l, p, hp, h => by
    obtain ⟨h1, h2⟩ := List.pairwise_cons.1 hp
    have hx := h x List.mem_cons_self
    rw [List.filter_cons]
    split
    · simp only [List.map_cons, risF, Bool.and_eq_true, decide_eq_true_eq]
      exact ⟨⟨hx.1, hx.2⟩, ris_bits l x h2 fun y hy => ⟨by have := h1 y hy; omega, (h y (List.mem_cons_of_mem _ hy)).2⟩⟩
    · exact ris_bits l p h2 fun y hy => h y (List.mem_cons_of_mem _ hy)
theorem rising_bits {f : Nat → Bool} {k : Nat} : rising (bitsL f k) k = true :=
  ris_bits (List.range k) (-1) List.pairwise_lt_range fun x hx => by have := List.mem_range.1 hx; omega
theorem memF_bits {f : Nat → Bool} {k : Nat} : bls (memF (bitsL f k)) k = bls f k :=
  bls_congr fun x hx => by
    unfold memF bitsL
    rw [Bool.eq_iff_iff, List.contains_iff_mem, List.mem_map]
    constructor
    · rintro ⟨y, hy, e⟩
      obtain rfl : y = x := by omega
      exact (List.mem_filter.1 hy).2
    · intro h
      exact ⟨x, List.mem_filter.2 ⟨List.mem_range.2 hx, h⟩, rfl⟩
theorem bits_lt {f : Nat → Bool} {k : Nat} : ∀ x ∈ bitsL f k, 0 ≤ x ∧ x < (k : Int) := by
  intro x hx
  unfold bitsL at hx
  obtain ⟨y, hy, rfl⟩ := List.mem_map.1 hx
  have := List.mem_range.1 (List.mem_filter.1 hy).1
  omega
section
variable {m : GM} {G : Nat → Option (List AV)}
def ir22 : IFn := ⟨42, [⟨6, none⟩], (.seq (.reg [oA 3 (.box 24 (.r 0)), oA 4 (.box 44 (.r 1)), oA 5 (.box 29 (.r 2)), oA 6 (.mov (.k (.sl .nil 0 [])))]) (.seq (.reg [oA 12 (.fadr 0 (.r 5)), oL 13 12 none, oA 14 (.mks 4 1 1 [.v (.bool false)] (.r 13) (.r 13)), oA 7 (kM 14)]) (.seq (.reg [oL 16 3 (some 3), oL 17 4 (some 3), oL 18 5 (some 4), oA 19 (.call 15 [.r 16, .r 17, .r 18]), oA 15 (kM 19), oA 20 (.ext (.r 15) 0), oA 21 (.ext (.r 15) 1), oA 8 (kM 20), oA 9 (kM 21)]) (.seq (.seq (.reg [oA 22 (kM 9), oA 23 (.bin .neq (.r 22) (kI 0)), oA 24 (kM 23), ⟨(some 25), (some ((24, false))), none, (kM 8)⟩, ⟨(some 26), (some ((24, false))), none, (.fadr 0 (.r 5))⟩, ⟨(some 27), (some ((24, false))), (some (.r 26)), (.load none (.r 26))⟩, ⟨(some 28), (some ((24, false))), none, (.call 49 [.r 25, .r 27])⟩, ⟨(some 29), (some ((24, false))), none, (.not (.r 28))⟩, oA 30 (.pick (.r 24) (kB true) (.r 29))]) (.cond (.r 30) (.seq (.reg [oA 6 (.mov (.k (.sl .nil 0 [])))]) .ret) .skip)) (.seq (.seq (.reg [oA 31 (kM 8), oT 32 31 (.lenl (.r 31)), oA 33 (.mov (kI 0))]) (.block 0 (.loop (.seq (.reg [oA 34 (.bin .lss (.r 33) (.r 32))]) (.seq (.cond (.r 34) .skip (.exit 0)) (.seq (.block 1 (.seq (.reg [oA 35 (.iasl 1 (.r 31) (.r 33)), oL 36 35 none, oA 11 (kM 36)]) (.reg [oA 37 (kM 7), oA 38 (kM 11), oA 39 (.iasl 1 (.r 37) (.r 38)), oN (.store 1 (.r 39) (kB true))]))) (.reg [oA 40 (.bin .add (.r 33) (kI 1)), oA 33 (kM 40)]))))))) (.seq (.reg [oA 41 (kM 7), oA 6 (kM 41)]) .ret))))))⟩
theorem c22 : cfunc Tryd.prog 22 = some ir22 := by kernel_rfl
theorem k22 : okIR (max 3 ir22.n) ir22.ir = true := by decide +kernel
theorem s_setI (n : Nms) (hn : n.ok) (hs : n.short) (c : Con) (hc : c.ok) (hb : c.nodes ≤ 4000000000) (i : Itp) (hok : i.ok) (hf : fineI n i [c] = 0) (j : JH) : JC Tryd.prog (GG m) 22 [.agg n.enc, .agg c.enc, .agg i.enc] j (SETB i j (semC i c)) := by
  obtain ⟨_, h2, h3⟩ := fineI_zero hf
  have hwf := (Itp.wf_of h3).1
  obtain ⟨e1, e2, e3⟩ := sz_size hwf
  have eE : elemsI n c i = bitsL (semC i c) (sz i) := if_pos hf
  refine JC.flat bls_pur ?_
  refine JC.run hmix c22 (by exact k22) ?_
  (try simp only[↓jr,jw,seval,ji,ext_ext,pid_pid,e1,ir22])
  refine JMKS.same (by omega) (by omega) ?_
  (try simp only[↓jr,jw,seval,ji,ext_ext,pid_pid,e1])
  rw [bls_zero]
  (try simp only[↓jr,jw,seval,ji,ext_ext,pid_pid,e1])
  refine JCs.ret (s_Elements n hn hs i hok c hc hb _) ?_
  rw [hf, eE, show sliceI (bitsL (semC i c) (sz i)) 0 = .sl .none (bitsL (semC i c) (sz i)).length (ints (bitsL (semC i c) (sz i))) from if_pos rfl]
  have hbl := @bitsL_len (semC i c) (sz i)
  have hlt := @bits_lt (semC i c) (sz i)
  have hmf := @memF_bits (semC i c) (sz i)
  have hri := @rising_bits (semC i c) (sz i)
  generalize hB : bitsL (semC i c) (sz i) = ps at hbl hlt hmf hri ⊢
  (try simp only[↓jr,jw,seval,ji,ext_ext,pid_pid,e1])
  refine JCs.ret (s_rRising ps _ _ (by omega) _) ?_
  rw [hri]
  (try simp only[↓jr,jw,seval,ji,ext_ext,pid_pid,e1])
  rw [show bls (fun _ => false) (sz i) = bls (memF (ps.take 0)) (sz i) from by rw [List.take_zero]; exact bls_congr fun x _ => by simp [memF]]
  refine JLOOP.of (σ := Nat) (fun k => k ≤ ps.length) (fun k => ps.length - k)
    (fun k => [(33, I64 k), (32, I64 ps.length), (31, .sl .none ps.length (ints ps)), (7, .arr (pid j.next 3) 0 (sz i))])
    (fun k => ext j [.cells 24 n.enc, .cells 44 c.enc, .cells 29 i.enc, .cells BE (bls (memF (ps.take k)) (sz i))]) 0 (Nat.zero_le _) ?_ (JDropH.refl _) ?_
  · (try simp only[↓jr,jw,seval,ji,ext_ext,pid_pid,e1,DL])
    exact ⟨SubB.v, SubB.v, SubB.sl rfl (SubBs.pure (ints_pur _)), SubB.arr (by unfold pid; omega)⟩
  intro k hkk
  (try simp only[↓jr,jw,seval,ji,ext_ext,pid_pid,e1])
  refine wq.intro (fun g1 => ?_) (fun g1 => ?_)
  · have hltk : k < ps.length := by omega
    obtain ⟨p, pr, hd⟩ : ∃ c_ l_, List.drop k ps = c_ :: l_ := ⟨_, _, List.drop_eq_getElem_cons hltk⟩
    have hmem : p ∈ ps := List.mem_of_mem_drop (hd ▸ List.mem_cons_self)
    have htk : ps.take (k + 1) = ps.take k ++ [p] := by
      have : ps[k]? = some p := by rw [← List.head?_drop, hd]; rfl
      rw [List.take_add_one, this]; rfl
    obtain ⟨q1, q2⟩ := hlt p hmem
    (try simp only[↓jr,jw,seval,ji,ext_ext,pid_pid,e1,hd])
    refine wc.intro (by omega) ?_
    (try simp only[↓jr,jw,seval,ji,ext_ext,pid_pid,e1,hd])
    obtain ⟨u, rfl⟩ : ∃ u : Nat, p = u := ⟨p.toNat, by omega⟩
    refine wc.intro (by omega) ?_
    (try simp only[↓jr,jw,seval,ji,ext_ext,pid_pid,e1])
    refine wc.intro (by rw [bls_len]; omega) ?_
    rw [bls_upd (by omega), memF_hit, ← htk]
    (try simp only[↓jr,jw,seval,ji,ext_ext,pid_pid,e1])
    refine wc.intro (by unfold R64; omega) ?_
    (try simp only[↓jr,jw,seval,ji,ext_ext,pid_pid,e1])
    refine JNEXT.of (k + 1) (by omega) (by omega) ?_ (JDropH.next0 (TokExt.refl _) ⟨.inl ⟨rfl, rfl⟩, .inl ⟨rfl, rfl⟩, .inl ⟨rfl, rfl⟩, .inr ⟨rfl, SubBs.pure bls_pur⟩, True.intro⟩)
    (try simp only[↓jr,jw,seval,ji,ext_ext,pid_pid,e1,DL])
    exact ⟨SubB.v, SubB.v, SubB.sl rfl (SubBs.pure (ints_pur _)), SubB.arr (by unfold pid; omega)⟩
  · (try simp only[↓jr,jw,seval,ji,ext_ext,pid_pid,e1])
    have ek : k = ps.length := by omega
    subst ek
    rw [List.take_length, hmf]
    exact JFIN.flat (TokExt.refl _) (k := 3) rfl
theorem jnil_arr {ne : Bool} {o off n : Nat} {K : AOut → JH → Prop} {j : JH} : jnil ne (.arr o off n) K j = K (.ret (BOO ne)) j := rfl
def ir24 : IFn := ⟨88, [⟨8, none⟩], (.seq (.reg [oA 4 (.box 24 (.r 0)), oA 5 (.box 44 (.r 1)), oA 6 (.box 29 (.r 2)), oA 8 (.mov (kB false))]) (.seq (.reg [oL 17 4 (some 3), oL 18 5 (some 3), oA 19 (.call 50 [.r 17, .r 18]), oA 16 (kM 19), oA 20 (.ext (.r 16) 0), oA 21 (.ext (.r 16) 1), oA 9 (.alloc 44 [.v (.int .i64 0), .v (.int .i64 0), .sl .nil 0 []]), oN (.store 3 (.r 9) (.r 20)), oA 10 (kM 21)]) (.seq (.reg [oL 23 4 (some 3), oL 24 5 (some 3), oA 25 (.call 51 [.r 23, .r 24]), oA 22 (kM 25), oA 26 (.ext (.r 22) 0), oA 27 (.ext (.r 22) 1), oA 11 (.alloc 44 [.v (.int .i64 0), .v (.int .i64 0), .sl .nil 0 []]), oN (.store 3 (.r 11) (.r 26)), oA 12 (kM 27)]) (.seq (.seq (.reg [oA 28 (kM 10), oA 29 (.bin .neq (.r 28) (kI 0)), oA 30 (kM 29), ⟨(some 31), (some ((30, false))), none, (kM 12)⟩, ⟨(some 32), (some ((30, false))), none, (.bin .neq (.r 31) (kI 0))⟩, oA 33 (.pick (.r 30) (kB true) (.r 32))]) (.cond (.r 33) (.seq (.reg [oA 34 (kM 10), oA 35 (.bin .eql (.r 34) (kI 0)), oA 36 (kM 35), ⟨(some 37), (some ((36, false))), none, (kM 10)⟩, ⟨(some 38), (some ((36, false))), none, (.bin .eql (.r 37) (kI 2))⟩, oA 39 (.pick (.r 36) (kB true) (.r 38)), oA 40 (kM 39), ⟨(some 41), (some ((40, true))), none, (kM 12)⟩, ⟨(some 42), (some ((40, true))), none, (.bin .eql (.r 41) (kI 0))⟩, ⟨(some 43), (some ((40, true))), none, (kM 42)⟩, ⟨(some 44), (some ((43, false))), none, (kM 12)⟩, ⟨(some 45), (some ((43, false))), none, (.bin .eql (.r 44) (kI 2))⟩, ⟨(some 46), (some ((40, true))), none, (.pick (.r 43) (kB true) (.r 45))⟩, oA 47 (.pick (.r 40) (.r 46) (kB false)), oA 8 (kM 47)]) .ret) .skip)) (.seq (.draw [oL 48 4 (some 3), oL 49 9 (some 3), oL 50 6 (some 4), oA 51 (.call 22 [.r 48, .r 49, .r 50]), oL 52 4 (some 3), oL 53 11 (some 3), oL 54 6 (some 4), oA 55 (.call 22 [.r 52, .r 53, .r 54]), oA 13 (kM 51), oA 14 (kM 55)] [(4, 3), (5, 3), (6, 3)]) (.seq (.seq (.reg [oA 56 (kM 13), oA 57 (.gen ⟨(some 57), (.binOp .eql 55 (.tmp 56) (.const (.slice none 0 0)) 55), 4, "law.go:181", #[⟨0, .data⟩], none⟩), oA 58 (kM 57), ⟨(some 59), (some ((58, false))), none, (kM 14)⟩, ⟨(some 60), (some ((58, false))), none, (.gen ⟨(some 60), (.binOp .eql 55 (.tmp 59) (.const (.slice none 0 0)) 55), 4, "law.go:181", #[⟨3, .data⟩, ⟨2, .guard⟩], (some ((2, false)))⟩)⟩, oA 61 (.pick (.r 58) (kB true) (.r 60))]) (.cond (.r 61) (.seq (.reg [oA 8 (.mov (kB false))]) .ret) .skip)) (.seq (.seq (.reg [oA 62 (kM 3), oT 63 62 (.lenl (.r 62)), oA 64 (.mov (kI 0))]) (.block 0 (.loop (.seq (.reg [oA 65 (.bin .lss (.r 64) (.r 63))]) (.seq (.cond (.r 65) .skip (.exit 0)) (.seq (.block 1 (.seq (.reg [oA 66 (kM 64), oA 15 (kM 66)]) (.seq (.draw [oA 67 (kM 13), oA 68 (kM 15), oA 69 (.iasl 1 (.r 67) (.r 68)), oL 70 69 none, oA 71 (kM 3), oA 72 (kM 15), oA 73 (.iasl 1 (.r 71) (.r 72)), oL 74 73 none, oA 75 (.beq true (.r 70) (.r 74)), oA 76 (kM 75), ⟨(some 77), (some ((76, false))), none, (kM 14)⟩, ⟨(some 78), (some ((76, false))), none, (kM 15)⟩, ⟨(some 79), (some ((76, false))), none, (.iasl 1 (.r 77) (.r 78))⟩, ⟨(some 80), (some ((76, false))), (some (.r 79)), (.load none (.r 79))⟩, ⟨(some 81), (some ((76, false))), none, (kM 3)⟩, ⟨(some 82), (some ((76, false))), none, (kM 15)⟩, ⟨(some 83), (some ((76, false))), none, (.iasl 1 (.r 81) (.r 82))⟩, ⟨(some 84), (some ((76, false))), (some (.r 83)), (.load none (.r 83))⟩, ⟨(some 85), (some ((76, false))), none, (.beq false (.r 80) (.r 84))⟩, oA 86 (.pick (.r 76) (kB true) (.r 85))] []) (.cond (.r 86) (.seq (.reg [oA 8 (.mov (kB false))]) .ret) .skip)))) (.reg [oA 87 (.bin .add (.r 64) (kI 1)), oA 64 (kM 87)]))))))) (.seq (.reg [oA 8 (.mov (kB true))]) .ret))))))))⟩
theorem c24 : cfunc Tryd.prog 24 = some ir24 := by kernel_rfl
theorem k24 : okIR (max 4 ir24.n) ir24.ir = true := by decide +kernel
theorem s_normal3 (hdu : GG m 0 = some DUALS) (n : Nms) (hn : n.ok) (hs : n.short) (c : Con) (hc : c.ok) (hb : c.nodes ≤ 150) (i : Itp) (hok : i.ok) (hf : fineI n i [c] = 0) (ob : Nat) (j : JH) (ho : ob < j.next) (hg : j.get ob = some (.cells BE (bls (semC i c) (sz i)))) :
    JC Tryd.prog (GG m) 24 [.agg n.enc, .agg c.enc, .agg i.enc, .arr ob 0 (sz i)] j (RET (BOO true) j) := by
  obtain ⟨h1, h2, h3⟩ := fineI_zero hf
  have h2' : conOK n c = true := by simpa using h2
  have hwf := (Itp.wf_of h3).1
  obtain ⟨e1, e2, e3⟩ := sz_size hwf
  have hfe : faultE n c = 0 := by unfold faultE; rw [h1, h2']; rfl
  have hsh := shaped_of h3 h2'
  have k1 := nnf_ok c false hc
  have k2 := nnf_ok c true hc
  have hE : ∀ b, norE n c b = smE n (nnf c b) := fun b => by unfold norE; rw [if_pos hfe]
  have hC : ∀ b, norC n c b = smC n (nnf c b) := fun b => by unfold norC; rw [if_pos hfe]
  have hsm : ∀ d, smE n d = 0 ∨ smE n d = 2 := fun d => by unfold smE; split <;> simp
  have hok0 : ∀ d, smE n d = 0 → conOK n d = true ∧ smC n d = d := fun d h => by
    unfold smE at h
    split at h
    · rename_i q; exact ⟨q, by unfold smC; rw [if_pos q]⟩
    · cases h
  have hga : ∀ l, (Pg.ext j l).get ob = some (.cells BE (bls (semC i c) (sz i))) := fun l => by rw [ext_get_old ho]; exact hg
  refine JC.run hmix c24 (by exact k24) ?_
  (try simp only[↓jr,jw,seval,ji,ext_ext,pid_pid,ir24])
  refine JCs.ret (s_Normal hdu n hn hs c hc (by omega) _) ?_
  (try simp only[↓jr,jw,seval,ji,ext_ext,pid_pid])
  refine JCs.ret (s_Not hdu n hn hs c hc (by omega) _) ?_
  rw [hE, hE, hC, hC]
  (try simp only[↓jr,jw,seval,ji,ext_ext,pid_pid])
  refine wq.intro (fun g1 => ?_) (fun g1 => ?_)
  · obtain ⟨p1, p2⟩ := hok0 _ g1
    rw [p2]
    (try simp only[↓jr,jw,seval,ji,ext_ext,pid_pid])
    refine wq.intro (fun g2 => ?_) (fun g2 => ?_)
    · obtain ⟨q1, q2⟩ := hok0 _ g2
      rw [q2]
      have f1 : fineI n i [nnf c false] = 0 := by unfold fineI; rw [h1, h3]; simp [p1]
      have f2 : fineI n i [nnf c true] = 0 := by unfold fineI; rw [h1, h3]; simp [q1]
      have es1 : semC i (nnf c false) = semC i c := by funext x; rw [sem_nnf hwf c false x hsh]; simp
      have es2 : semC i (nnf c true) = fun x => decide (x < sz i) && !semC i c x := by funext x; rw [sem_nnf hwf c true x hsh]; simp
      have t1 := s_setI (m := m) n hn hs (nnf c false) k1.1 (by omega) i hok f1
      have t2 := s_setI (m := m) n hn hs (nnf c true) k2.1 (by omega) i hok f2
      rw [es1] at t1
      rw [es2] at t2
      (try simp only[↓jr,jw,seval,ji,ext_ext,pid_pid])
      refine JDC.use (t1 _) ?_
      (try simp only[↓jr,jw,seval,ji,ext_ext,pid_pid])
      refine JDC.use (t2 _) ?_
      (try simp only[↓jr,jw,seval,ji,ext_ext,pid_pid])
      refine JDRAW.oc (by (try simp only[↓jr,jw,seval,ji,ext_ext,pid_pid,jq,qe2,qe3,ext_next,ext_tnext,pushTok_next,List.length_cons,List.length_nil]) <;> (repeat' (first | exact trivial | refine And.intro ?_ ?_ | exact Nat.le_refl _ | (refine pr_extp ⟨_, rfl⟩ (some_lt ?_)) | (refine pr_extp ⟨_, rfl⟩ (fun _ q => by cases q)) | omega | (unfold pid; omega) | (simp only [List.length_cons, List.length_nil]; unfold pid; omega)))) ?_; (try simp only[↓jr,jw,seval,ji,ext_ext,pid_pid])
      refine JGEN.nil (ne := false) (t := 56) (by kernel_rfl) ?_
      (try simp only[↓jr,jw,seval,ji,ext_ext,pid_pid,jnil_arr])
      refine JGEN.nil (ne := false) (t := 59) (by kernel_rfl) ?_
      (try simp only[↓jr,jw,seval,ji,ext_ext,pid_pid,jnil_arr])
      refine JLOOP.of (σ := Nat) (fun k => k ≤ sz i) (fun k => sz i - k)
        (fun k => [(64, I64 k), (63, I64 (sz i)), (13, .arr (pid j.next 5) 0 (sz i)), (14, .arr (pid j.next 6) 0 (sz i)), (3, .arr ob 0 (sz i))])
        (fun k => ext j [.cells 24 n.enc, .cells 44 c.enc, .cells 29 i.enc, .cells 44 (nnf c false).enc, .cells 44 (nnf c true).enc, .cells BE (bls (semC i c) (sz i)), .cells BE (bls (fun x => decide (x < sz i) && !semC i c x) (sz i))]) 0 (Nat.zero_le _) ?_ (JDropH.refl _) ?_
      · (try simp only[↓jr,jw,seval,ji,ext_ext,pid_pid,DL])
        exact ⟨SubB.v, SubB.v, SubB.arr (by unfold pid; omega), SubB.arr (by unfold pid; omega), SubB.arr (by unfold pid; omega)⟩
      intro k hkk
      (try simp only[↓jr,jw,seval,ji,ext_ext,pid_pid])
      refine wq.intro (fun g4 => ?_) (fun g4 => ?_)
      · have hlt : k < sz i := by omega
        have ea := bls_at (f := semC i c) hlt
        have eb := bls_at (f := fun x => decide (x < sz i) && !semC i c x) hlt
        rw [decide_eq_true hlt, Bool.true_and] at eb
        (try simp only[↓jr,jw,seval,ji,ext_ext,pid_pid,ea,eb,hga])
        refine wc.intro (by omega) ?_
        (try simp only[↓jr,jw,seval,ji,ext_ext,pid_pid,ea,eb,hga])
        refine wc.intro (by omega) ?_
        (try simp only[↓jr,jw,seval,ji,ext_ext,pid_pid,ea,eb,hga,beq_self_eq_true,Bool.not_true])
        refine wc.intro (by omega) ?_
        (try simp only[↓jr,jw,seval,ji,ext_ext,pid_pid,ea,eb,hga])
        refine wc.intro (by omega) ?_
        have exb : ((!semC i c k) == semC i c k) = false := by cases semC i c k <;> rfl
        (try simp only[↓jr,jw,seval,ji,ext_ext,pid_pid,ea,eb,hga,exb])
        refine JDRAW.oc (by (try simp only[↓jr,jw,seval,ji,ext_ext,pid_pid,jq,qe2,qe3,ext_next,ext_tnext,pushTok_next,List.length_cons,List.length_nil]) <;> (repeat' (first | exact trivial | refine And.intro ?_ ?_ | exact Nat.le_refl _ | (refine pr_extp ⟨_, rfl⟩ (some_lt ?_)) | (refine pr_extp ⟨_, rfl⟩ (fun _ q => by cases q)) | omega | (unfold pid; omega) | (simp only [List.length_cons, List.length_nil]; unfold pid; omega)))) ?_; (try simp only[↓jr,jw,seval,ji,ext_ext,pid_pid])
        refine wc.intro (by unfold R64; omega) ?_
        (try simp only[↓jr,jw,seval,ji,ext_ext,pid_pid])
        refine JNEXT.of (k + 1) (by omega) (by omega) ?_ JDropH.nx
        (try simp only[↓jr,jw,seval,ji,ext_ext,pid_pid,DL])
        exact ⟨SubB.v, SubB.v, SubB.arr (by unfold pid; omega), SubB.arr (by unfold pid; omega), SubB.arr (by unfold pid; omega)⟩
      · (try simp only[↓jr,jw,seval,ji,ext_ext,pid_pid])
        refine JFIN.rb ?_
        exact SubB.v
    · have g2' := (hsm (nnf c true)).resolve_left g2
      rw [g2', g1]
      (try simp only[↓jr,jw,seval,ji,ext_ext,pid_pid])
      refine JFIN.rb ?_
      exact SubB.v
  · have g1' := (hsm (nnf c false)).resolve_left g1
    rw [g1']
    (try simp only[↓jr,jw,seval,ji,ext_ext,pid_pid])
    refine wq.intro (fun g3 => ?_) (fun g3 => ?_)
    · (try simp only[↓jr,jw,seval,ji,ext_ext,pid_pid])
      refine JFIN.rb ?_
      exact SubB.v
    · have g3' := (hsm (nnf c true)).resolve_left g3
      rw [g3']
      (try simp only[↓jr,jw,seval,ji,ext_ext,pid_pid])
      refine JFIN.rb ?_
      exact SubB.v
def ir21 : IFn := ⟨12, [⟨2, none⟩], (.seq (.reg [oA 1 (.box 44 (.r 0)), oA 2 (.mov (kB false))]) (.seq (.reg [oL 6 1 (some 3), oT 7 6 (.call 48 [.r 6]), oA 5 (kM 7), oA 8 (.ext (.r 5) 0), oA 9 (.ext (.r 5) 1), oA 3 (kM 8), oA 4 (kM 9)]) (.seq (.reg [oA 10 (kM 4), oA 11 (.bin .geq (.r 10) (kI 20)), oA 2 (kM 11)]) .ret)))⟩
theorem c21 : cfunc Tryd.prog 21 = some ir21 := by kernel_rfl
theorem k21 : okIR (max 1 ir21.n) ir21.ir = true := by decide +kernel
theorem s_deep (c : Con) (hc : c.ok) (hb : c.nodes ≤ 4000000000) (j : JH) : JC Tryd.prog G 21 [.agg c.enc] j (RET (BOO (decide (20 ≤ (c.depth : Int)))) j) := by
  refine JC.run hmix c21 (by exact k21) ?_
  (try simp only[↓jr,jw,seval,ji,ext_ext,pid_pid,ir21])
  refine JCs.ret (s_Size c _ hc (by omega)) ?_
  (try simp only[↓jr,jw,seval,ji,ext_ext,pid_pid])
  refine JFIN.rb ?_
  exact SubB.v
end
end Go.Proofs.YtnkkeenclhncmaaDoor.Pg
