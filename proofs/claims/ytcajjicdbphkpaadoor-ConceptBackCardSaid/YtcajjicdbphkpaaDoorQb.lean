/-
  Concepts: sizes, likeness, copies.
-/
import Derived.Test.YtcajjicdbphkpaaDoorQa
set_option linter.unusedVariables false
set_option linter.unusedSimpArgs false
set_option maxRecDepth 100000
set_option maxHeartbeats 8000000
namespace Go.Proofs.YtcajjicdbphkpaaDoor.Pg
open Go
section
variable {m : Int} {G : Nat → Option (List AV)}
def ir22 : IFn := ⟨30, [⟨2, none⟩, ⟨3, none⟩], (.seq (.reg [oA 1 (.box 27 (.r 0)), oA 2 (.mov (kI 0)), oA 3 (.mov (kI 0))]) (.seq (.reg [oA 2 (.mov (kI 1)), oA 3 (.mov (kI 1))]) (.seq (.seq (.reg [oA 8 (.fadr 2 (.r 1)), oL 9 8 none, oT 10 9 (.lenl (.r 9)), oA 11 (.mov (kI 0))]) (.block 0 (.loop (.seq (.reg [oA 12 (.bin .lss (.r 11) (.r 10))]) (.seq (.cond (.r 12) .skip (.exit 0)) (.seq (.block 1 (.seq (.reg [oA 13 (.iasl 3 (.r 9) (.r 11)), oL 14 13 (some 3), oA 5 (.alloc 27 [.v (.int .i64 0), .v (.int .i64 0), .sl .nil 0 []]), oN (.store 3 (.r 5) (.r 14))]) (.seq (.reg [oL 16 5 (some 3), oT 17 16 (.call 22 [.r 16]), oA 15 (kM 17), oA 18 (.ext (.r 15) 0), oA 19 (.ext (.r 15) 1), oA 6 (kM 18), oA 7 (kM 19)]) (.reg [oA 20 (kM 2), oA 21 (kM 6), oA 22 (.bin .add (.r 20) (.r 21)), oA 23 (kM 3), oA 24 (kM 7), oA 25 (.bin .add (.r 24) (kI 1)), oA 26 (.mx false (.r 23) (.r 25)), oA 2 (kM 22), oA 3 (kM 26)])))) (.reg [oA 27 (.bin .add (.r 11) (kI 1)), oA 11 (kM 27)]))))))) (.seq (.reg [oA 28 (kM 2), oA 29 (kM 3), oA 2 (kM 28), oA 3 (kM 29)]) .ret))))⟩
theorem c22 : cfunc Tryd.prog 22 = some ir22 := by kernel_rfl
theorem k22 : okIR (max 1 ir22.n) ir22.ir = true := by decide +kernel
theorem s_cSize : ∀ (c : Con) (j : JH), c.ok → c.nodes < 4611686018427387904 → JC Tryd.prog G 22 [.agg c.enc] j (RET (.tup [I64 c.nodes, I64 c.depth]) j) := by
  intro c
  induction c using Con.ind with
  | h op n args ih =>
  intro j hc hm
  simp only [Con.ok] at hc
  obtain ⟨hc1, hc2, hc3, hc4⟩ := hc
  simp only [Con.nodes] at hm
  refine JC.run hmix c22 (by exact k22) ?_
  (try simp only[↓jr,jw,seval,ir22])
  refine JLOOP.of (σ := Nat × Nat × Nat) (fun s => s.1 ≤ args.length ∧ s.2.1 + Con.nodesL (args.drop s.1) = 1 + Con.nodesL args ∧ 1 ≤ s.2.2 ∧ max s.2.2 (Con.depthL (args.drop s.1) + 1) = Con.depthL args + 1) (fun s => args.length - s.1)
    (fun s => [(11, I64 s.1), (10, I64 args.length), (9, .sl .none args.length (encs Con.enc args)), (2, I64 s.2.1), (3, I64 s.2.2)]) (fun s => ext j [.cells 27 (Con.mk op n args).enc]) (0, 1, 1) ⟨by omega, by simp, by simp, by simp only [List.drop_zero]; omega⟩ ?_ (JDropH.refl _) ?_
  · ((try simp only[↓jr,jw,seval,DL]) <;> exact sbq)
  · rintro ⟨k, x, d⟩ ⟨hk, hx, hd1', hdd⟩
    simp only at hk hx hd1' hdd
    (try simp only[↓jr,jw,seval])
    refine wq.intro (fun h1 => ?_) (fun h1 => ?_)
    · (try simp only[↓jr,jw,seval])
      have hlt : k < (args).length := by omega
      obtain ⟨c, l, hd⟩ : ∃ c_ l_, List.drop k (args) = c_ :: l_ := ⟨_, _, List.drop_eq_getElem_cons hlt⟩
      have hd1 : List.drop (k + 1) (args) = l := by rw [← List.drop_drop, hd]; rfl
      have hmem : c ∈ args := List.mem_of_mem_drop (hd ▸ List.mem_cons_self)
      (try simp only[↓jr,jw,seval,hd])
      refine wc.intro (by omega) ?_
      (try simp only[↓jr,jw,seval,hd])
      have hcn := Con.nodesL_mem hmem
      have hcd := c.depth_le
      rw [hd] at hx hdd
      simp only [Con.nodesL, Con.depthL] at hx hdd
      refine JCs.ret (ih c hmem _ (Con.oks_mem hc4 hmem) (by omega)) ?_
      (try simp only[↓jr,jw,seval])
      refine wc.intro (by unfold R64; omega) ?_
      (try simp only[↓jr,jw,seval])
      refine wc.intro (by unfold R64; omega) ?_
      (try simp only[↓jr,jw,seval])
      refine wc.intro (R64_add hlt hc3) ?_
      (try simp only[↓jr,jw,seval])
      refine JNEXT.of (k + 1, x + c.nodes, max d (c.depth + 1)) ⟨by simp only; omega, by simp only [hd1]; omega, by simp only; omega, by simp only [hd1]; omega⟩ (by simp only; omega) ?_ ?_
      · have e : ((max d (c.depth + 1) : Nat) : Int) = max (d : Int) (c.depth + 1) := by omega
        simp only [Int.natCast_add, e]
        ((try simp only[↓jr,jw,seval,DL]) <;> exact sbq)
      · exact JDropH.nx
    · (try simp only[↓jr,jw,seval])
      have hk' : args.drop k = [] := List.drop_eq_nil_of_le (by omega)
      rw [hk'] at hx hdd
      simp only [Con.nodesL, Con.depthL] at hx hdd
      refine JFIN.rb ?_
      have e1 : (Con.mk op n args).nodes = x := by simp only [Con.nodes]; omega
      have e2 : (Con.mk op n args).depth = d := by simp only [Con.depth]; omega
      rw [e1, e2]
      exact sbq
def ir24 : IFn := ⟨6, [⟨2, none⟩], (.seq (.reg [oA 1 (.box 24 (.r 0)), oA 2 (.mov (kI 0))]) (.seq (.seq (.reg [oL 3 1 (some 3), oT 4 3 (.call 39 [.r 3]), oA 5 (.not (.r 4))]) (.cond (.r 5) (.seq (.reg [oA 2 (.mov (kI 20))]) .ret) .skip)) (.seq (.reg [oA 2 (.mov (kI 0))]) .ret)))⟩
theorem c24 : cfunc Tryd.prog 24 = some ir24 := by kernel_rfl
theorem k24 : okIR (max 1 ir24.n) ir24.ir = true := by decide +kernel
theorem s_cNames (n : Nms) (hn : n.ok) (hs : n.short) (j : JH) : JC Tryd.prog (GG m) 24 [.agg n.enc] j (RET (I64 (if namesOK n then 0 else 20)) j) := by
  refine JC.run hmix c24 (by exact k24) ?_
  (try simp only[↓jr,jw,seval,ir24])
  refine JCs.ret (s_ValidNames n hn hs _) ?_
  (try simp only[↓jr,jw,seval])
  refine ww.intro (fun h => ?_) (fun h => ?_)
  · (try simp only[↓jr,jw,seval])
    refine JFIN.rb ?_
    rw [h]; exact SubB.v
  · (try simp only[↓jr,jw,seval])
    refine JFIN.rb ?_
    rw [h]; exact SubB.v
def ir12 : IFn := ⟨14, [⟨4, none⟩], (.seq (.reg [oA 2 (.box 24 (.r 0)), oA 3 (.box 27 (.r 1)), oA 4 (.mov (kI 0))]) (.seq (.block 0 (.seq (.reg [oL 6 2 (some 3), oT 7 6 (.call 15 [.r 6]), oA 8 (.not (.r 7)), oA 5 (kM 8)]) (.cond (.r 5) (.seq (.reg [oA 4 (.mov (kI 20))]) .ret) (.seq (.reg [oL 10 2 (some 3), oL 11 3 (some 3), oA 12 (.call 37 [.r 10, .r 11]), oA 13 (.not (.r 12)), oA 9 (kM 13)]) (.cond (.r 9) (.seq (.reg [oA 4 (.mov (kI 10))]) .ret) .skip))))) (.seq (.reg [oA 4 (.mov (kI 0))]) .ret)))⟩
theorem c12 : cfunc Tryd.prog 12 = some ir12 := by kernel_rfl
theorem k12 : okIR (max 2 ir12.n) ir12.ir = true := by decide +kernel
def faultE (n : Nms) (c : Con) : Int := if namesOK n = false then 20 else if conOK n c then 0 else 10
theorem faultE_eq (n : Nms) (c : Con) : fineE n [c] = faultE n c := by simp [fineE, faultE]
theorem s_fault (n : Nms) (c : Con) (hn : n.ok) (hs : n.short) (hc : c.ok) (j : JH) : JC Tryd.prog (GG m) 12 [.agg n.enc, .agg c.enc] j (RET (I64 (faultE n c)) j) := by
  refine JC.run hmix c12 (by exact k12) ?_
  (try simp only[↓jr,jw,seval,ir12])
  refine JCs.ret (s_rNames n hn hs _) ?_
  (try simp only[↓jr,jw,seval])
  refine ww.intro (fun h => ?_) (fun h => ?_)
  · (try simp only[↓jr,jw,seval])
    refine JCs.ret (s_Is n c _ hn hc) ?_
    (try simp only[↓jr,jw,seval])
    refine ww.intro (fun h' => ?_) (fun h' => ?_)
    · (try simp only[↓jr,jw,seval])
      refine JFIN.rb ?_
      unfold faultE; rw [h, h']; exact SubB.v
    · (try simp only[↓jr,jw,seval])
      refine JFIN.rb ?_
      unfold faultE; rw [h, h']; exact SubB.v
  · (try simp only[↓jr,jw,seval])
    refine JFIN.rb ?_
    unfold faultE; rw [h]; exact SubB.v
mutual
def ceq : Con → Con → Bool
  | .mk o n l, .mk o' n' l' => decide (o = o') && decide (n = n') && ceqL l l'
def ceqL : List Con → List Con → Bool
  | [], [] => true
  | c :: l, d :: l' => ceq c d && ceqL l l'
  | _, _ => false
end
theorem ceqL_len : ∀ {l l' : List Con}, ceqL l l' = true → l.length = l'.length
  | [], [], _ => rfl
  | c :: l, d :: l', h => by simp only [ceqL, Bool.and_eq_true] at h; simp only [List.length_cons]; rw [ceqL_len h.2]
  | [], _ :: _, h => by simp [ceqL] at h
  | _ :: _, [], h => by simp [ceqL] at h
mutual
theorem ceq_refl : ∀ c : Con, ceq c c = true
  | .mk o n l => by simp only [ceq, decide_true, Bool.true_and]; exact ceqL_refl l
theorem ceqL_refl : ∀ l : List Con, ceqL l l = true
  | [] => rfl
  | c :: l => by simp only [ceqL, ceq_refl c, ceqL_refl l, Bool.and_self]
end
def ir17 : IFn := ⟨46, [⟨4, none⟩], (.seq (.reg [oA 2 (.box 27 (.r 0)), oA 3 (.box 27 (.r 1)), oA 4 (.mov (kB false))]) (.seq (.seq (.reg [oA 6 (.fadr 0 (.r 2)), oL 7 6 none, oA 8 (.fadr 0 (.r 3)), oL 9 8 none, oA 10 (.bin .neq (.r 7) (.r 9)), oA 11 (kM 10), ⟨(some 12), (some ((11, false))), none, (.fadr 1 (.r 2))⟩, ⟨(some 13), (some ((11, false))), (some (.r 12)), (.load none (.r 12))⟩, ⟨(some 14), (some ((11, false))), none, (.fadr 1 (.r 3))⟩, ⟨(some 15), (some ((11, false))), (some (.r 14)), (.load none (.r 14))⟩, ⟨(some 16), (some ((11, false))), none, (.bin .neq (.r 13) (.r 15))⟩, oA 17 (.pick (.r 11) (kB true) (.r 16)), oA 18 (kM 17), ⟨(some 19), (some ((18, false))), none, (.fadr 2 (.r 2))⟩, ⟨(some 20), (some ((18, false))), (some (.r 19)), (.load none (.r 19))⟩, ⟨(some 21), (some ((18, false))), (some (.r 20)), (.lenl (.r 20))⟩, ⟨(some 22), (some ((18, false))), none, (.fadr 2 (.r 3))⟩, ⟨(some 23), (some ((18, false))), (some (.r 22)), (.load none (.r 22))⟩, ⟨(some 24), (some ((18, false))), (some (.r 23)), (.lenl (.r 23))⟩, ⟨(some 25), (some ((18, false))), none, (.bin .neq (.r 21) (.r 24))⟩, oA 26 (.pick (.r 18) (kB true) (.r 25))]) (.cond (.r 26) (.seq (.reg [oA 4 (.mov (kB false))]) .ret) .skip)) (.seq (.seq (.reg [oA 27 (.fadr 2 (.r 2)), oL 28 27 none, oT 29 28 (.lenl (.r 28)), oA 30 (.mov (kI 0))]) (.block 0 (.loop (.seq (.reg [oA 31 (.bin .lss (.r 30) (.r 29))]) (.seq (.cond (.r 31) .skip (.exit 0)) (.seq (.block 1 (.seq (.reg [oA 32 (kM 30), oA 5 (kM 32)]) (.seq (.draw [oA 33 (.fadr 2 (.r 2)), oL 34 33 none, oA 35 (kM 5), oA 36 (.iasl 3 (.r 34) (.r 35)), oL 37 36 (some 3), oA 38 (.fadr 2 (.r 3)), oL 39 38 none, oA 40 (kM 5), oA 41 (.iasl 3 (.r 39) (.r 40)), oL 42 41 (some 3), oA 43 (.call 17 [.r 37, .r 42]), oA 44 (.not (.r 43))] []) (.cond (.r 44) (.seq (.reg [oA 4 (.mov (kB false))]) .ret) .skip)))) (.reg [oA 45 (.bin .add (.r 30) (kI 1)), oA 30 (kM 45)]))))))) (.seq (.reg [oA 4 (.mov (kB true))]) .ret))))⟩
theorem c17 : cfunc Tryd.prog 17 = some ir17 := by kernel_rfl
theorem k17 : okIR (max 2 ir17.n) ir17.ir = true := by decide +kernel
theorem s_rSame : ∀ (c d : Con) (j : JH), c.ok → d.ok → JC Tryd.prog G 17 [.agg c.enc, .agg d.enc] j (RET (BOO (ceq c d)) j) := by
  intro c
  induction c using Con.ind with
  | h o n l ih =>
  rintro ⟨o', n', l'⟩ j hc hd
  simp only [Con.ok] at hc hd
  obtain ⟨hc1, hc2, hc3, hc4⟩ := hc
  obtain ⟨hd1, hd2, hd3, hd4⟩ := hd
  refine JC.run hmix c17 (by exact k17) ?_
  (try simp only[↓jr,jw,seval,ir17])
  refine wq.intro (fun q1 => ?_) (fun q1 => ?_)
  · (try simp only[↓jr,jw,seval])
    refine wq.intro (fun q2 => ?_) (fun q2 => ?_)
    · (try simp only[↓jr,jw,seval])
      refine wq.intro (fun q3 => ?_) (fun q3 => ?_)
      · (try simp only[↓jr,jw,seval])
        have q3' : l.length = l'.length := by omega
        have hE : ceq (.mk o n l) (.mk o' n' l') = ceqL l l' := by simp only [ceq, decide_eq_true q1, decide_eq_true q2, Bool.true_and]
        refine JLOOP.of (σ := Nat) (fun k => k ≤ l.length ∧ ceqL (l.drop k) (l'.drop k) = ceqL l l') (fun k => l.length - k)
          (fun k => [(30, I64 k), (29, I64 l.length), (2, .ptr (pid j.next 0) 0), (3, .ptr (pid j.next 1) 0)]) (fun k => ext j [.cells 27 (Con.mk o n l).enc, .cells 27 (Con.mk o' n' l').enc]) 0 ⟨by omega, rfl⟩ ?_ (JDropH.refl _) ?_
        · ((try simp only[↓jr,jw,seval,DL]) <;> exact sbq)
        · rintro k ⟨hk, hI⟩
          (try simp only[↓jr,jw,seval])
          refine wq.intro (fun h1 => ?_) (fun h1 => ?_)
          · have hlt : k < (l).length := by omega
            obtain ⟨c, r, hd⟩ : ∃ c_ l_, List.drop k (l) = c_ :: l_ := ⟨_, _, List.drop_eq_getElem_cons hlt⟩
            have hd1 : List.drop (k + 1) (l) = r := by rw [← List.drop_drop, hd]; rfl
            have hmem : c ∈ l := List.mem_of_mem_drop (hd ▸ List.mem_cons_self)
            have hlt' : k < l'.length := by omega
            obtain ⟨d, r', hd'⟩ : ∃ c_ l_, List.drop k l' = c_ :: l_ := ⟨_, _, List.drop_eq_getElem_cons hlt'⟩
            have hd1' : List.drop (k + 1) l' = r' := by rw [← List.drop_drop, hd']; rfl
            have hmem' : d ∈ l' := List.mem_of_mem_drop (hd' ▸ List.mem_cons_self)
            rw [hd, hd'] at hI
            simp only [ceqL] at hI
            (try simp only[↓jr,jw,seval,hd,hd'])
            refine wc.intro (by omega) ?_
            (try simp only[↓jr,jw,seval,hd,hd'])
            refine wc.intro (by omega) ?_
            (try simp only[↓jr,jw,seval,hd,hd'])
            refine JDC.use (ih c hmem d _ (Con.oks_mem hc4 hmem) (Con.oks_mem hd4 hmem')) ?_
            (try simp only[↓jr,jw,seval])
            refine JDRAW.oc (by (try simp only[↓jr,jw,seval,jq]) <;> exact orq) ?_; (try simp only[↓jr,jw,seval])
            refine ww.intro (fun h2 => ?_) (fun h2 => ?_)
            · (try simp only[↓jr,jw,seval])
              refine wc.intro (R64_add hlt hc3) ?_
              (try simp only[↓jr,jw,seval])
              rw [h2, Bool.true_and] at hI
              refine JNEXT.of (k + 1) ⟨by omega, by rw [hd1, hd1', hI]⟩ (by omega) ?_ JDropH.nx
              ((try simp only[↓jr,jw,seval,DL]) <;> exact sbq)
            · (try simp only[↓jr,jw,seval])
              rw [h2, Bool.false_and] at hI
              refine JFIN.rb ?_
              rw [hE, ← hI]; exact SubB.v
          · (try simp only[↓jr,jw,seval])
            rw [List.drop_eq_nil_of_le (by omega), List.drop_eq_nil_of_le (by omega)] at hI
            simp only [ceqL] at hI
            refine JFIN.rb ?_
            rw [hE, ← hI]; exact SubB.v
      · (try simp only[↓jr,jw,seval])
        refine JFIN.rb ?_
        have : ceqL l l' = false := by
          cases h : ceqL l l' with
          | false => rfl
          | true => have := ceqL_len h; omega
        simp only [ceq, this, Bool.and_false]; exact SubB.v
    · (try simp only[↓jr,jw,seval])
      refine JFIN.rb ?_
      simp only [ceq, decide_eq_false q2, Bool.and_false, Bool.false_and]; exact SubB.v
  · (try simp only[↓jr,jw,seval])
    refine JFIN.rb ?_
    simp only [ceq, decide_eq_false q1, Bool.false_and]; exact SubB.v
def ir57 : IFn := ⟨32, [⟨6, none⟩], (.seq (.reg [oA 6 (.mov (kB false))]) (.seq (.seq (.reg [oA 10 (kM 0), oT 11 10 (.lenl (.r 10)), oA 12 (kM 1), oT 13 12 (.lenl (.r 12)), oA 14 (.bin .neq (.r 11) (.r 13))]) (.cond (.r 14) (.seq (.reg [oA 6 (.mov (kB false))]) .ret) .skip)) (.seq (.seq (.reg [oA 15 (kM 0), oT 16 15 (.lenl (.r 15)), oA 17 (.mov (kI 0))]) (.block 0 (.loop (.seq (.reg [oA 18 (.bin .lss (.r 17) (.r 16))]) (.seq (.cond (.r 18) .skip (.exit 0)) (.seq (.block 1 (.seq (.reg [oA 19 (kM 17), oA 20 (.iasl 3 (.r 15) (.r 17)), oL 21 20 (some 3), oA 8 (.alloc 27 [.v (.int .i64 0), .v (.int .i64 0), .sl .nil 0 []]), oA 7 (kM 19), oN (.store 3 (.r 8) (.r 21))]) (.seq (.reg [oA 22 (kM 1), oA 23 (kM 7), oA 24 (.iasl 3 (.r 22) (.r 23)), oL 25 24 (some 3), oA 9 (.alloc 27 [.v (.int .i64 0), .v (.int .i64 0), .sl .nil 0 []]), oN (.store 3 (.r 9) (.r 25))]) (.seq (.reg [oA 26 (kM 2), oL 27 8 (some 3), oL 28 9 (some 3), oA 29 (.callv (.r 26) [.r 27, .r 28]), oA 30 (.not (.r 29))]) (.cond (.r 30) (.seq (.reg [oA 6 (.mov (kB false))]) .ret) .skip))))) (.reg [oA 31 (.bin .add (.r 17) (kI 1)), oA 17 (kM 31)]))))))) (.seq (.reg [oA 6 (.mov (kB true))]) .ret))))⟩
theorem c57 : cfunc Tryd.prog 57 = some ir57 := by kernel_rfl
theorem k57 : okIR (max 3 ir57.n) ir57.ir = true := by decide +kernel
theorem hbSame : hasBody Tryd.prog 26 = true := by decide +kernel
theorem s_EqF (l l' : List Con) (j : JH) (hc4 : Con.oks l) (hd4 : Con.oks l') (hc3 : l.length < 4611686018427387904) (ih : ∀ c ∈ l, ∀ (d : Con) (j : JH), c.ok → d.ok → JC Tryd.prog G 26 [.agg c.enc, .agg d.enc] j (RET (BOO (ceq c d)) j)) :
    JC Tryd.prog G 57 [.sl .none l.length (encs Con.enc l), .sl .none l'.length (encs Con.enc l'), .fn (.func 26) [] []] j (RET (BOO (ceqL l l')) j) := by
  refine JC.run hmix c57 (by exact k57) ?_
  (try simp only[↓jr,jw,seval,ir57])
  refine wq.intro (fun q3 => ?_) (fun q3 => ?_)
  · (try simp only[↓jr,jw,seval])
    have q3' : l.length = l'.length := by omega
    refine JLOOP.of (σ := Nat) (fun k => k ≤ l.length ∧ ceqL (l.drop k) (l'.drop k) = ceqL l l') (fun k => l.length - k)
      (fun k => [(17, I64 k), (16, I64 l.length), (15, .sl .none l.length (encs Con.enc l)), (1, .sl .none l'.length (encs Con.enc l')), (2, .fn (.func 26) [] [])]) (fun k => ext j []) 0 ⟨by omega, rfl⟩ ?_ (JDropH.refl _) ?_
    · ((try simp only[↓jr,jw,seval,DL]) <;> exact sbq)
    · rintro k ⟨hk, hI⟩
      (try simp only[↓jr,jw,seval])
      refine wq.intro (fun h1 => ?_) (fun h1 => ?_)
      · have hlt : k < (l).length := by omega
        obtain ⟨c, r, hd⟩ : ∃ c_ l_, List.drop k (l) = c_ :: l_ := ⟨_, _, List.drop_eq_getElem_cons hlt⟩
        have hd1 : List.drop (k + 1) (l) = r := by rw [← List.drop_drop, hd]; rfl
        have hmem : c ∈ l := List.mem_of_mem_drop (hd ▸ List.mem_cons_self)
        have hlt' : k < l'.length := by omega
        obtain ⟨d, r', hd'⟩ : ∃ c_ l_, List.drop k l' = c_ :: l_ := ⟨_, _, List.drop_eq_getElem_cons hlt'⟩
        have hd1' : List.drop (k + 1) l' = r' := by rw [← List.drop_drop, hd']; rfl
        have hmem' : d ∈ l' := List.mem_of_mem_drop (hd' ▸ List.mem_cons_self)
        rw [hd, hd'] at hI
        simp only [ceqL] at hI
        (try simp only[↓jr,jw,seval,hd,hd'])
        refine wc.intro (by omega) ?_
        (try simp only[↓jr,jw,seval,hd,hd'])
        refine wc.intro (by omega) ?_
        (try simp only[↓jr,jw,seval,hd,hd'])
        refine wc.intro hbSame ?_
        (try simp only[↓jr,jw,seval])
        refine JCs.ret (ih c hmem d _ (Con.oks_mem hc4 hmem) (Con.oks_mem hd4 hmem')) ?_
        (try simp only[↓jr,jw,seval])
        refine ww.intro (fun h2 => ?_) (fun h2 => ?_)
        · (try simp only[↓jr,jw,seval])
          refine wc.intro (R64_add hlt hc3) ?_
          (try simp only[↓jr,jw,seval])
          rw [h2, Bool.true_and] at hI
          refine JNEXT.of (k + 1) ⟨by omega, by rw [hd1, hd1', hI]⟩ (by omega) ?_ JDropH.nx
          ((try simp only[↓jr,jw,seval,DL]) <;> exact sbq)
        · (try simp only[↓jr,jw,seval])
          rw [h2, Bool.false_and] at hI
          refine JFIN.rb ?_
          rw [← hI]; exact SubB.v
      · (try simp only[↓jr,jw,seval])
        rw [List.drop_eq_nil_of_le (by omega), List.drop_eq_nil_of_le (by omega)] at hI
        simp only [ceqL] at hI
        refine JFIN.rb ?_
        rw [← hI]; exact SubB.v
  · (try simp only[↓jr,jw,seval])
    refine JFIN.rb ?_
    have : ceqL l l' = false := by
      cases h : ceqL l l' with
      | false => rfl
      | true => have := ceqL_len h; omega
    rw [this]; exact SubB.v
def ir26 : IFn := ⟨24, [⟨4, none⟩], (.seq (.reg [oA 2 (.box 27 (.r 0)), oA 3 (.box 27 (.r 1)), oA 4 (.mov (kB false))]) (.seq (.reg [oA 5 (.fadr 0 (.r 2)), oL 6 5 none, oA 7 (.fadr 0 (.r 3)), oL 8 7 none, oA 9 (.bin .eql (.r 6) (.r 8)), oA 10 (kM 9), ⟨(some 11), (some ((10, true))), none, (.fadr 1 (.r 2))⟩, ⟨(some 12), (some ((10, true))), (some (.r 11)), (.load none (.r 11))⟩, ⟨(some 13), (some ((10, true))), none, (.fadr 1 (.r 3))⟩, ⟨(some 14), (some ((10, true))), (some (.r 13)), (.load none (.r 13))⟩, ⟨(some 15), (some ((10, true))), none, (.bin .eql (.r 12) (.r 14))⟩, oA 16 (.pick (.r 10) (.r 15) (kB false)), oA 17 (kM 16), ⟨(some 18), (some ((17, true))), none, (.fadr 2 (.r 2))⟩, ⟨(some 19), (some ((17, true))), (some (.r 18)), (.load none (.r 18))⟩, ⟨(some 20), (some ((17, true))), none, (.fadr 2 (.r 3))⟩, ⟨(some 21), (some ((17, true))), (some (.r 20)), (.load none (.r 20))⟩, ⟨(some 22), (some ((17, true))), none, (.call 57 [.r 19, .r 21, .k (.fn (.func 26) [] [])])⟩, oA 23 (.pick (.r 17) (.r 22) (kB false)), oA 4 (kM 23)]) .ret))⟩
theorem c26 : cfunc Tryd.prog 26 = some ir26 := by kernel_rfl
theorem k26 : okIR (max 2 ir26.n) ir26.ir = true := by decide +kernel
theorem s_cSame : ∀ (c d : Con) (j : JH), c.ok → d.ok → JC Tryd.prog G 26 [.agg c.enc, .agg d.enc] j (RET (BOO (ceq c d)) j) := by
  intro c
  induction c using Con.ind with
  | h o n l ih =>
  rintro ⟨o', n', l'⟩ j hc hd
  simp only [Con.ok] at hc hd
  obtain ⟨hc1, hc2, hc3, hc4⟩ := hc
  obtain ⟨hd1, hd2, hd3, hd4⟩ := hd
  refine JC.run hmix c26 (by exact k26) ?_
  (try simp only[↓jr,jw,seval,ir26])
  refine wq.intro (fun q1 => ?_) (fun q1 => ?_)
  · (try simp only[↓jr,jw,seval])
    refine wq.intro (fun q2 => ?_) (fun q2 => ?_)
    · (try simp only[↓jr,jw,seval])
      refine JCs.ret (s_EqF l l' _ hc4 hd4 hc3 ih) ?_
      (try simp only[↓jr,jw,seval])
      refine JFIN.rb ?_
      simp only [ceq, decide_eq_true q1, decide_eq_true q2, Bool.true_and]; exact SubB.v
    · (try simp only[↓jr,jw,seval])
      refine JFIN.rb ?_
      simp only [ceq, decide_eq_false q2, Bool.and_false, Bool.false_and]; exact SubB.v
  · (try simp only[↓jr,jw,seval])
    refine JFIN.rb ?_
    simp only [ceq, decide_eq_false q1, Bool.false_and]; exact SubB.v
theorem Con.nodesL_len : ∀ l : List Con, l.length ≤ Con.nodesL l
  | [] => by simp
  | .mk o n k :: l => by simp only [List.length_cons, Con.nodesL, Con.nodes]; have := Con.nodesL_len l; omega
theorem qe2 {b : Bool} {j j' : JH} : okE ⟨b, none, j, j'⟩ = (j.next ≤ j'.next ∧ j.tnext ≤ j'.tnext) := by simp [okE]
theorem qe3 {b : Bool} {o : Nat} {j j' : JH} : okE ⟨b, some o, j, j'⟩ = (j.next ≤ j'.next ∧ j.tnext ≤ j'.tnext ∧ o < j.next) := by simp [okE]
abbrev zC : List AV := [I64 0, I64 0, .sl .nil 0 []]
abbrev oC (o n : Int) (t : Tok) (l : List Con) : List AV := [I64 o, I64 n, .sl t l.length (encs Con.enc l)]
theorem oC_enc {no nt : Nat} {o n : Int} {t : Tok} {l : List Con} : SubBs no nt (oC o n t l) (Con.mk o n l).enc := by
  rw [Con.enc_eq, Con.encs_eq]
  exact ⟨SubB.v, SubB.v, SubB.sl rfl (SubBs.pure (encs_pur Con.pur _)), True.intro⟩
theorem take_one {l : List Con} {k : Nat} {c : Con} {r : List Con} (h : l.drop k = c :: r) : l.take (k + 1) = l.take k ++ [c] := by
  have : l[k]? = some c := by rw [← List.head?_drop, h]; rfl
  rw [List.take_add_one, this]; rfl
def ir27 : IFn := ⟨27, [⟨2, (some (some 3))⟩], (.seq (.reg [oA 1 (.box 27 (.r 0)), oA 2 (.alloc 27 [.v (.int .i64 0), .v (.int .i64 0), .sl .nil 0 []])]) (.seq (.reg [oA 6 (.fadr 0 (.r 1)), oL 7 6 none, oA 8 (.fadr 1 (.r 1)), oL 9 8 none, oA 10 (.build [.v (.int .i64 0), .v (.int .i64 0), .sl .nil 0 []] [(0, (1, .r 7)), (1, (1, .r 9))]), oA 3 (.alloc 27 [.v (.int .i64 0), .v (.int .i64 0), .sl .nil 0 []]), oN (.store 3 (.r 3) (.r 10))]) (.seq (.seq (.reg [oA 11 (.fadr 2 (.r 1)), oL 12 11 none, oT 13 12 (.lenl (.r 12)), oA 14 (.mov (kI 0))]) (.block 0 (.loop (.seq (.reg [oA 15 (.bin .lss (.r 14) (.r 13))]) (.seq (.cond (.r 15) .skip (.exit 0)) (.seq (.block 1 (.seq (.reg [oA 16 (.iasl 3 (.r 12) (.r 14)), oL 17 16 (some 3), oA 5 (.alloc 27 [.v (.int .i64 0), .v (.int .i64 0), .sl .nil 0 []]), oN (.store 3 (.r 5) (.r 17))]) (.draw [oA 18 (.fadr 2 (.r 3)), oL 19 18 none, oL 20 5 (some 3), oT 21 20 (.call 27 [.r 20]), oA 22 (.bsl 1 3 [.v (.int .i64 0), .v (.int .i64 0), .sl .nil 0 []] [(0, (3, .r 21))]), oA 23 (.app 3 40 (.r 19) (.r 22)), oA 24 (.fadr 2 (.r 3)), oN (.store 1 (.r 24) (.r 23))] [(1, 3)]))) (.reg [oA 25 (.bin .add (.r 14) (kI 1)), oA 14 (kM 25)]))))))) (.seq (.reg [oL 26 3 (some 3), oN (.store 3 (.r 2) (.r 26))]) .ret))))⟩
theorem c27 : cfunc Tryd.prog 27 = some ir27 := by kernel_rfl
theorem k27 : okIR (max 1 ir27.n) ir27.ir = true := by decide +kernel
theorem s_rCopy : ∀ (c : Con) (j : JH), c.ok → c.nodes ≤ 1000000 → JC Tryd.prog G 27 [.agg c.enc] j (RET (.agg c.enc) j) := by
  intro c
  induction c using Con.ind with
  | h o n l ih =>
  intro j hc hm
  simp only [Con.ok] at hc
  obtain ⟨hc1, hc2, hc3, hc4⟩ := hc
  simp only [Con.nodes] at hm
  have hll : l.length ≤ Con.nodesL l := Con.nodesL_len l
  refine JC.run hmix c27 (by exact k27) ?_
  (try simp only[↓jr,jw,seval,ir27])
  refine JLOOP.of (σ := Nat × Tok × JH) (fun s => s.1 ≤ l.length ∧ TokExt j s.2.2 ∧ CanApp j s.2.2 s.2.1 3 (l.take s.1).length) (fun s => l.length - s.1)
    (fun s => [(14, I64 s.1), (13, I64 l.length), (12, .sl .none l.length (encs Con.enc l)), (2, .ptr (pid j.next 1) 0), (3, .ptr (pid j.next 2) 0)])
    (fun s => ext s.2.2 [.cells 27 (Con.mk o n l).enc, .cells 27 zC, .cells 27 (oC o n s.2.1 (l.take s.1))]) (0, .nil, j) ⟨Nat.zero_le _, TokExt.refl _, CanApp.nil⟩ ?_ (JDropH.refl _) ?_
  · ((try simp only[↓jr,jw,seval,DL]) <;> exact sbq)
  rintro ⟨k, tk, jx⟩ ⟨hk, ht, hc⟩
  simp only at hk ht hc
  (try simp only[↓jr,jw,seval,ht.next])
  refine wq.intro (fun g1 => ?_) (fun g1 => ?_)
  · have hlt : k < (l).length := by omega
    obtain ⟨x, r, hd⟩ : ∃ c_ l_, List.drop k (l) = c_ :: l_ := ⟨_, _, List.drop_eq_getElem_cons hlt⟩
    have hd1 : List.drop (k + 1) (l) = r := by rw [← List.drop_drop, hd]; rfl
    have hmem : x ∈ l := List.mem_of_mem_drop (hd ▸ List.mem_cons_self)
    have hcn := Con.nodesL_mem hmem
    have htk := take_one hd
    have hlk : (l.take k).length = k := by rw [List.length_take]; omega
    (try simp only[↓jr,jw,seval,ht.next,hd])
    refine wc.intro (by omega) ?_
    (try simp only[↓jr,jw,seval,ht.next,hd])
    refine JDC.use (ih x hmem _ (Con.oks_mem hc4 hmem) (by omega)) ?_
    (try simp only[↓jr,jw,seval,ht.next])
    refine JAPP.can' hc.push (ht.push 1) (by rw [encs_length Con.len]) (by rw [Con.len]) d_con9 (by omega) (by omega) ?_
    intro tok1 j1 hcan ht3 hle
    have hle' : jx.tnext ≤ j1.tnext := Nat.le_trans (Nat.le_succ _) hle
    (try simp only[↓jr,jw,seval,ht3.next])
    refine JDRAW.oc (by (try simp only[↓jr,jw,seval,jq,qe2,qe3,ht.next,ht3.next,ext_next,ext_tnext,List.length_cons,List.length_nil]) <;> (have h1 := ht.next; have h2 := ht3.next; have h4 := @pushTok_next jx 1; have h3 := @pushTok_tnext jx 1; repeat' (first | exact trivial | refine And.intro ?_ ?_ | exact Nat.le_refl _ | omega | (unfold pid; omega) | (simp only [h1, h2, h4]; done)))) ?_
    (try simp only[↓jr,jw,seval,ht3.next])
    refine wc.intro (R64_add hlt hc3) ?_
    (try simp only[↓jr,jw,seval,ht3.next])
    have e2 : (l.take (k + 1)).length = (l.take k).length + 1 := by rw [htk]; simp
    have e3 : encs Con.enc (l.take k) ++ x.enc = encs Con.enc (l.take (k + 1)) := by rw [htk, encs_append]; simp [encs]
    refine JNEXT.of (k + 1, tok1, j1) ⟨by simp only; omega, ht3, by simp only [e2]; exact hcan⟩ (by simp only; omega) ?_ (JDropH.nextT ht ht3 (TokExt.refl _) hle' ⟨.inl ⟨rfl, rfl⟩, .inl ⟨rfl, rfl⟩, .inr ⟨rfl, ?_⟩, True.intro⟩)
    · (try simp only[↓jr,jw,seval,DL])
      exact ⟨SubB.v, SubB.v, SubB.sl rfl (SubBs.pure (encs_pur Con.pur _)), SubB.ptr (by have := ht3.next; unfold pid; omega), SubB.ptr (by have := ht3.next; unfold pid; omega)⟩
    · simp only [oC, e2, ← e3]
      exact ⟨SubB.v, SubB.v, SubB.can hcan (by rw [pures_append, encs_pur Con.pur, Con.pur]; rfl), True.intro⟩
  · (try simp only[↓jr,jw,seval,ht.next])
    have ek : k = l.length := by omega
    subst ek
    rw [List.take_length]
    refine JFIN.ret ((JDropH.back ht).of_ext) ?_
    exact SubB.agg oC_enc
end
end Go.Proofs.YtcajjicdbphkpaaDoor.Pg
