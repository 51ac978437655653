/-
  Elements as a row of bools.
-/
import Derived.Test.YtnkkeenclhncmaaGreatDoorIp
set_option linter.unusedVariables false
set_option linter.unusedSimpArgs false
set_option maxRecDepth 100000
set_option maxHeartbeats 8000000
namespace Go.Proofs.YtnkkeenclhncmaaGreatDoor.Pg
open Go
theorem any_congr' {α : Type} {f g : α → Bool} : ∀ {l : List α}, (∀ x ∈ l, f x = g x) → l.any f = l.any g
  | [], _ => rfl
  | x :: l, h => by rw [List.any_cons, List.any_cons, h x List.mem_cons_self, any_congr' fun y hy => h y (List.mem_cons_of_mem _ hy)]
theorem one_of {l : List Con} (h : l.length = 1) : ∃ a, l = [a] := by
  match l, h with
  | [a], _ => exact ⟨a, rfl⟩
theorem two_of {l : List Con} (h : l.length = 2) : ∃ a b, l = [a, b] := by
  match l, h with
  | [a, b], _ => exact ⟨a, b, rfl⟩
theorem shL_mem {nc nr : Nat} : ∀ {l : List Con}, shapedL nc nr l = true → ∀ {c : Con}, c ∈ l → shaped nc nr c = true
  | d :: l, h, c, m => by
    simp only [shapedL, Bool.and_eq_true] at h
    rcases List.mem_cons.1 m with rfl | m
    · exact h.1
    · exact shL_mem h.2 m
theorem ris_bits {f : Nat → Bool} {lim : Int} : ∀ (l : List Nat) (p : Int), l.Pairwise (· < ·) → (∀ x ∈ l, p < (x : Int) ∧ (x : Int) < lim) → risF lim p ((l.filter f).map fun (i : Nat) => (i : Int)) = true
  | [], _, _, _ => rfl
  | x :: l, p, hp, h => by
    obtain ⟨h1, h2⟩ := List.pairwise_cons.1 hp
    have hx := h x List.mem_cons_self
    rw [List.filter_cons]
    split
    · simp only [List.map_cons, risF, Bool.and_eq_true, decide_eq_true_eq]
      exact ⟨⟨hx.1, hx.2⟩, ris_bits l x h2 fun y hy => ⟨by have := h1 y hy; omega, (h y (List.mem_cons_of_mem _ hy)).2⟩⟩
    · exact ris_bits l p h2 fun y hy => h y (List.mem_cons_of_mem _ hy)
theorem rising_bits {f : Nat → Bool} {k : Nat} : rising (bitsL f k) k = true :=
  ris_bits (List.range k) (-1) List.pairwise_lt_range fun x hx => by have := List.mem_range.1 hx; omega
theorem memF_bits {f : Nat → Bool} {k : Nat} : bls (memF (bitsL f k)) k = bls f k :=
  bls_congr fun x hx => by
    unfold memF bitsL
    rw [Bool.eq_iff_iff, List.contains_iff_mem, List.mem_map]
    constructor
    · rintro ⟨y, hy, e⟩
      obtain rfl : y = x := by omega
      exact (List.mem_filter.1 hy).2
    · intro h
      exact ⟨x, List.mem_filter.2 ⟨List.mem_range.2 hx, h⟩, rfl⟩
theorem bits_lt {f : Nat → Bool} {k : Nat} : ∀ x ∈ bitsL f k, 0 ≤ x ∧ x < (k : Int) := by
  intro x hx
  unfold bitsL at hx
  obtain ⟨y, hy, rfl⟩ := List.mem_map.1 hx
  have := List.mem_range.1 (List.mem_filter.1 hy).1
  omega
section
variable {m : GM} {G : Nat → Option (List AV)}
def ir13 : IFn := ⟨42, [⟨6, none⟩], (.seq (.reg [oA 3 (.box 24 (.r 0)), oA 4 (.box 33 (.r 1)), oA 5 (.box 38 (.r 2)), oA 6 (.mov (.k (.sl .nil 0 [])))]) (.seq (.reg [oA 12 (.fadr 0 (.r 5)), oL 13 12 none, oA 14 (.mks 4 1 1 [.v (.bool false)] (.r 13) (.r 13)), oA 7 (kM 14)]) (.seq (.reg [oL 16 3 (some 3), oL 17 4 (some 3), oL 18 5 (some 4), oA 19 (.call 31 [.r 16, .r 17, .r 18]), oA 15 (kM 19), oA 20 (.ext (.r 15) 0), oA 21 (.ext (.r 15) 1), oA 8 (kM 20), oA 9 (kM 21)]) (.seq (.seq (.reg [oA 22 (kM 9), oA 23 (.bin .neq (.r 22) (kI 0)), oA 24 (kM 23), ⟨(some 25), (some ((24, false))), none, (kM 8)⟩, ⟨(some 26), (some ((24, false))), none, (.fadr 0 (.r 5))⟩, ⟨(some 27), (some ((24, false))), (some (.r 26)), (.load none (.r 26))⟩, ⟨(some 28), (some ((24, false))), none, (.call 39 [.r 25, .r 27])⟩, ⟨(some 29), (some ((24, false))), none, (.not (.r 28))⟩, oA 30 (.pick (.r 24) (kB true) (.r 29))]) (.cond (.r 30) (.seq (.reg [oA 6 (.mov (.k (.sl .nil 0 [])))]) .ret) .skip)) (.seq (.seq (.reg [oA 31 (kM 8), oT 32 31 (.lenl (.r 31)), oA 33 (.mov (kI 0))]) (.block 0 (.loop (.seq (.reg [oA 34 (.bin .lss (.r 33) (.r 32))]) (.seq (.cond (.r 34) .skip (.exit 0)) (.seq (.block 1 (.seq (.reg [oA 35 (.iasl 1 (.r 31) (.r 33)), oL 36 35 none, oA 11 (kM 36)]) (.reg [oA 37 (kM 7), oA 38 (kM 11), oA 39 (.iasl 1 (.r 37) (.r 38)), oN (.store 1 (.r 39) (kB true))]))) (.reg [oA 40 (.bin .add (.r 33) (kI 1)), oA 33 (kM 40)]))))))) (.seq (.reg [oA 41 (kM 7), oA 6 (kM 41)]) .ret))))))⟩
theorem c13 : cfunc Tryz.prog 13 = some ir13 := by kernel_rfl
theorem k13 : okIR (max 3 ir13.n) ir13.ir = true := by decide +kernel
theorem s_setI (n : Nms) (hn : n.ok) (hs : n.short) (c : Con) (hc : c.ok) (hb : c.nodes ≤ 4000000000) (i : Itp) (hok : i.ok) (hf : fineI n i [c] = 0) (j : JH) : JC Tryz.prog (GG m) 13 [.agg n.enc, .agg c.enc, .agg i.enc] j (SETB i j (semC i c)) := by
  obtain ⟨_, h2, h3⟩ := fineI_zero hf
  have hwf := (Itp.wf_of h3).1
  obtain ⟨e1, e2, e3⟩ := sz_size hwf
  have eE : elemsI n c i = bitsL (semC i c) (sz i) := if_pos hf
  refine JC.flat bls_pur ?_
  refine JC.run hmix c13 (by exact k13) ?_
  (try simp only[↓jr,jw,seval,ji,ext_ext,pid_pid,e1,ir13])
  refine JMKS.same (by omega) (by omega) ?_
  (try simp only[↓jr,jw,seval,ji,ext_ext,pid_pid,e1])
  rw [bls_zero]
  (try simp only[↓jr,jw,seval,ji,ext_ext,pid_pid,e1])
  refine JCs.ret (s_Elements n hn hs i hok c hc hb _) ?_
  rw [hf, eE, show sliceI (bitsL (semC i c) (sz i)) 0 = .sl .none (bitsL (semC i c) (sz i)).length (ints (bitsL (semC i c) (sz i))) from if_pos rfl]
  have hbl := @bitsL_len (semC i c) (sz i)
  have hlt := @bits_lt (semC i c) (sz i)
  have hmf := @memF_bits (semC i c) (sz i)
  have hri := @rising_bits (semC i c) (sz i)
  generalize hB : bitsL (semC i c) (sz i) = ps at hbl hlt hmf hri ⊢
  (try simp only[↓jr,jw,seval,ji,ext_ext,pid_pid,e1])
  refine JCs.ret (s_rRising ps _ _ (by omega) _) ?_
  rw [hri]
  (try simp only[↓jr,jw,seval,ji,ext_ext,pid_pid,e1])
  rw [show bls (fun _ => false) (sz i) = bls (memF (ps.take 0)) (sz i) from by rw [List.take_zero]; exact bls_congr fun x _ => by simp [memF]]
  refine JLOOP.of (σ := Nat) (fun k => k ≤ ps.length) (fun k => ps.length - k)
    (fun k => [(33, I64 k), (32, I64 ps.length), (31, .sl .none ps.length (ints ps)), (7, .arr (pid j.next 3) 0 (sz i))])
    (fun k => ext j [.cells 24 n.enc, .cells 33 c.enc, .cells 38 i.enc, .cells BE (bls (memF (ps.take k)) (sz i))]) 0 (Nat.zero_le _) ?_ (JDropH.refl _) ?_
  · (try simp only[↓jr,jw,seval,ji,ext_ext,pid_pid,e1,DL])
    exact ⟨SubB.v, SubB.v, SubB.sl rfl (SubBs.pure (ints_pur _)), SubB.arr (by unfold pid; omega)⟩
  intro k hkk
  (try simp only[↓jr,jw,seval,ji,ext_ext,pid_pid,e1])
  refine wq.intro (fun g1 => ?_) (fun g1 => ?_)
  · have hltk : k < ps.length := by omega
    obtain ⟨p, pr, hd⟩ : ∃ c_ l_, List.drop k ps = c_ :: l_ := ⟨_, _, List.drop_eq_getElem_cons hltk⟩
    have hmem : p ∈ ps := List.mem_of_mem_drop (hd ▸ List.mem_cons_self)
    have htk : ps.take (k + 1) = ps.take k ++ [p] := by
      have : ps[k]? = some p := by rw [← List.head?_drop, hd]; rfl
      rw [List.take_add_one, this]; rfl
    obtain ⟨q1, q2⟩ := hlt p hmem
    (try simp only[↓jr,jw,seval,ji,ext_ext,pid_pid,e1,hd])
    refine wc.intro (by omega) ?_
    (try simp only[↓jr,jw,seval,ji,ext_ext,pid_pid,e1,hd])
    obtain ⟨u, rfl⟩ : ∃ u : Nat, p = u := ⟨p.toNat, by omega⟩
    refine wc.intro (by omega) ?_
    (try simp only[↓jr,jw,seval,ji,ext_ext,pid_pid,e1])
    refine wc.intro (by rw [bls_len]; omega) ?_
    rw [bls_upd (by omega), memF_hit, ← htk]
    (try simp only[↓jr,jw,seval,ji,ext_ext,pid_pid,e1])
    refine wc.intro (by unfold R64; omega) ?_
    (try simp only[↓jr,jw,seval,ji,ext_ext,pid_pid,e1])
    refine JNEXT.of (k + 1) (by omega) (by omega) ?_ (JDropH.next0 (TokExt.refl _) ⟨.inl ⟨rfl, rfl⟩, .inl ⟨rfl, rfl⟩, .inl ⟨rfl, rfl⟩, .inr ⟨rfl, SubBs.pure bls_pur⟩, True.intro⟩)
    (try simp only[↓jr,jw,seval,ji,ext_ext,pid_pid,e1,DL])
    exact ⟨SubB.v, SubB.v, SubB.sl rfl (SubBs.pure (ints_pur _)), SubB.arr (by unfold pid; omega)⟩
  · (try simp only[↓jr,jw,seval,ji,ext_ext,pid_pid,e1])
    have ek : k = ps.length := by omega
    subst ek
    rw [List.take_length, hmf]
    exact JFIN.flat (TokExt.refl _) (k := 3) rfl
end
end Go.Proofs.YtnkkeenclhncmaaGreatDoor.Pg
