/-
  Concepts: sizes.
-/
import Derived.Test.YtcjlpklgnknpgaaGreatDoorPgM
import Derived.Test.YtcjlpklgnknpgaaGreatDoorProg
import Derived.KernelRfl
set_option linter.unusedVariables false
set_option linter.unusedSimpArgs false
set_option maxRecDepth 20000
set_option maxHeartbeats 8000000
namespace Go.Proofs.YtcjlpklgnknpgaaGreatDoor.Pg
open Go
theorem hmix : Tryz.prog.follows .mixedOrders = true := by decide +kernel
theorem Con.ind {p : Con → Prop} (h : ∀ op n args, (∀ c ∈ args, p c) → p (.mk op n args)) (c : Con) : p c := by
 have aux : ∀ (n : Nat) (c : Con), SizeOf.sizeOf c < n → p c := by
  intro n
  induction n with
  | zero => intro c hc; omega
  | succ n ih =>
   intro c hc
   cases c with
   | mk op k args =>
    refine h op k args fun d hd => ih d ?_
    have := List.sizeOf_lt_of_mem hd
    simp only [Con.mk.sizeOf_spec] at hc
    omega
 exact aux (SizeOf.sizeOf c + 1) c (Nat.lt_succ_self _)
theorem R64_add {k : Nat} {n : Nat} (h : k < n) (hn : n < 4611686018427387904) : R64 ((k : Int) + 1) := by unfold R64; omega
mutual
def Con.ok : Con → Prop
 | .mk o n l => R64 o ∧ R64 n ∧ l.length < 4611686018427387904 ∧ Con.oks l
def Con.oks : List Con → Prop
 | [] => True
 | c :: l => c.ok ∧ Con.oks l
end
theorem Con.oks_mem : ∀ {l : List Con} {c : Con}, Con.oks l → c ∈ l → c.ok
 | d :: l, c, h, m => by
  simp only [Con.oks] at h
  rcases List.mem_cons.1 m with rfl | m
  ·exact h.1
  ·exact Con.oks_mem h.2 m
mutual
def Con.nodes : Con → Nat
 | .mk _ _ l => 1 + Con.nodesL l
def Con.nodesL : List Con → Nat
 | [] => 0
 | c :: l => c.nodes + Con.nodesL l
end
mutual
def Con.depth : Con → Nat
 | .mk _ _ l => Con.depthL l + 1
def Con.depthL : List Con → Nat
 | [] => 0
 | c :: l => max c.depth (Con.depthL l)
end
mutual
def lft : Con → Int → Int
 | .mk _ _ args, m => max (lfts args (m - 1)) 0
def lfts : List Con → Int → Int
 | [], m => m
 | c :: l, m => if 0 < m then lfts l (lft c m) else m
end
mutual
theorem lft_eq : ∀ (c : Con) (m : Int), lft c m = max (m - c.nodes) 0
 | .mk _ _ args, m => by have := lfts_eq args (m - 1); simp only [lft, Con.nodes]; omega
theorem lfts_eq : ∀ (l : List Con) (m : Int), max (lfts l m) 0 = max (m - Con.nodesL l) 0
 | [], m => by simp only [lfts, Con.nodesL]; omega
 | c :: l, m => by
  simp only [lfts, Con.nodesL]
  split
  ·have := lft_eq c m; have := lfts_eq l (lft c m); omega
  ·omega
end
noncomputable def ir70 : IFn := ⟨28, [⟨4, none⟩], (.seq (.reg [oA 2 (.box 71 (.r 0)), oA 4 (.mov (kI 0))]) (.seq (.reg [oA 6 (kM 1), oA 7 (.bin .sub (.r 6) (kI 1)), oA 1 (kM 7)]) (.seq (.seq (.reg [oA 5 (.mov (kI 0))]) (.block 0 (.loop (.seq (.seq (.reg [oA 8 (kM 5), oA 9 (.fadr 2 (.r 2)), oL 10 9 none, oT 11 10 (.lenl (.r 10)), oA 12 (.bin .lss (.r 8) (.r 11)), oA 13 (kM 12), ⟨(some 14), (some ((13, true))), none, (kM 1)⟩, ⟨(some 15), (some ((13, true))), none, (.bin .gtr (.r 14) (kI 0))⟩, oA 16 (.pick (.r 13) (.r 15) (kB false))]) (.cond (.r 16) .skip (.exit 0))) (.seq (.block 1 (.reg [oA 19 (.fadr 2 (.r 2)), oL 20 19 none, oA 21 (kM 5), oA 22 (.iasl 3 (.r 20) (.r 21)), oL 23 22 (some 3), oA 24 (kM 1), oA 25 (.call 70 [.r 23, .r 24]), oA 1 (kM 25)])) (.reg [oA 17 (kM 5), oA 18 (.bin .add (.r 17) (kI 1)), oA 5 (kM 18)])))))) (.seq (.reg [oA 26 (kM 1), oA 27 (.mx false (.r 26) (kI 0)), oA 4 (kM 27)]) .ret))))⟩
theorem c70 : cfunc Tryz.prog 70 = some ir70 := by kernel_rfl
theorem k70 : okIR (max 2 ir70.n) ir70.ir = true := by decide +kernel
theorem s_left {G : Nat → Option (List AV)} : ∀ (c : Con) (m : Int) (j : JH), c.ok → -9223372036854775808 < m → m ≤ 9223372036854775807 → JC Tryz.prog G 70 [.agg c.enc, I64 m] j (RET (I64 (max (m - c.nodes) 0)) j) := by
 intro c
 induction c using Con.ind with
 | h op n args ih =>
 intro m j hc hm1 hm2
 simp only [Con.ok] at hc
 obtain ⟨hc1, hc2, hc3, hc4⟩ := hc
 refine JC.run hmix c70 (by exact k70) ?_
 (try simp only[↓jr,jw,seval,ir70])
 refine wc.intro (by unfold R64; omega) ?_
 (try simp only[↓jr,jw,seval])
 refine JLOOP.of (σ := Nat × Int) (fun s => s.1 ≤ args.length ∧ -9223372036854775808 ≤ s.2 ∧ s.2 ≤ 9223372036854775807 ∧ lfts (args.drop s.1) s.2 = lfts args (m - 1)) (fun s => args.length - s.1)
  (fun s => [(5, I64 s.1), (1, I64 s.2), (2, .ptr (pid j.next 0) 0)]) (fun s => ext j [.cells 71 (Con.mk op n args).enc]) (0, m - 1) ⟨by omega, by simp only; omega, by simp only; omega, by simp⟩ ?_ (JDropH.refl _) ?_
 ·((try simp only[↓jr,jw,seval,DL]) <;> exact sbq)
 ·rintro ⟨k, x⟩ ⟨hk, hx1, hx2, hI⟩
  simp only at hk hx1 hx2 hI
  (try simp only[↓jr,jw,seval])
  have fin : (∀ c l, args.drop k = c :: l → ¬ 0 < x) → @JFIN (ext j []) (ext j [AObj.cells 71 (Con.mk op n args).enc]) (I64 (max x 0)) ⟨fun y j' => RET (I64 (max (m - (Con.mk op n args).nodes) 0)) j (.ret y) j'⟩ := by
   intro hd
   refine JFIN.rb ?_
   have e : lfts (args.drop k) x = x := by
    cases h : args.drop k with
    | nil => rfl
    | cons c l => simp only [lfts, if_neg (hd c l h)]
   rw [← lft_eq]; simp only [lft]; rw [← hI, e]; exact SubB.v
  refine wq.intro (fun h1 => ?_) (fun h1 => ?_)
  ·(try simp only[↓jr,jw,seval])
   refine wq.intro (fun h2 => ?_) (fun h2 => ?_)
   ·(try simp only[↓jr,jw,seval])
    have hlt : k < (args).length := by omega
    obtain ⟨c, l, hd⟩ : ∃ c_ l_, List.drop k (args) = c_ :: l_ := ⟨_, _, List.drop_eq_getElem_cons hlt⟩
    have hd1 : List.drop (k + 1) (args) = l := by rw [← List.drop_drop, hd]; rfl
    have hmem : c ∈ args := List.mem_of_mem_drop (hd ▸ List.mem_cons_self)
    (try simp only[↓jr,jw,seval,hd])
    refine wc.intro (by omega) ?_
    (try simp only[↓jr,jw,seval,hd])
    refine JCs.ret (ih c hmem x _ (Con.oks_mem hc4 hmem) (by omega) hx2) ?_
    (try simp only[↓jr,jw,seval])
    refine wc.intro (R64_add hlt hc3) ?_
    (try simp only[↓jr,jw,seval])
    refine JNEXT.of (k + 1, max (x - c.nodes) 0) ⟨by simp only; omega, by simp only; omega, by simp only; omega, ?_⟩ (by simp only; omega) ?_ ?_
    ·simp only [hd1]; rw [← hI, hd]; simp only [lfts, if_pos h2, lft_eq]
    ·((try simp only[↓jr,jw,seval,DL]) <;> exact sbq)
    ·exact JDropH.nx
   ·(try simp only[↓jr,jw,seval])
    exact fin fun _ _ _ => h2
  ·(try simp only[↓jr,jw,seval])
   refine fin fun c l h => ?_
   rw [List.drop_eq_nil_of_le (by omega)] at h; cases h
noncomputable def ir33 : IFn := ⟨10, [⟨4, none⟩], (.seq (.reg [oA 2 (.box 71 (.r 0)), oA 4 (.mov (kB false))]) (.seq (.reg [oL 5 2 (some 3), oA 6 (kM 1), oA 7 (.bin .add (.r 6) (kI 1)), oA 8 (.call 70 [.r 5, .r 7]), oA 9 (.bin .gtr (.r 8) (kI 0)), oA 4 (kM 9)]) .ret))⟩
theorem c33 : cfunc Tryz.prog 33 = some ir33 := by kernel_rfl
theorem k33 : okIR (max 2 ir33.n) ir33.ir = true := by decide +kernel
theorem s_Fits {G : Nat → Option (List AV)} (c : Con) (m : Int) (j : JH) (hc : c.ok) (h1 : -9223372036854775808 ≤ m) (h2 : m < 9223372036854775807) : JC Tryz.prog G 33 [.agg c.enc, I64 m] j (RET (BOO (decide (c.nodes ≤ m))) j) := by
 refine JC.run hmix c33 (by exact k33) ?_
 (try simp only[↓jr,jw,seval,ir33])
 repeat' ((first | refine wq.intro (fun _ => ?_) (fun _ => ?_) | refine ww.intro (fun _ => ?_) (fun _ => ?_) | refine wc.intro (by first | omega | (unfold R64; omega) | trivial) ?_ | refine wr.in (by unfold R64; omega) ?_) <;> first | contradiction | (try simp only[↓jr,jw,seval]))
 refine JCs.ret (s_left c _ _ hc (by omega) (by omega)) ?_
 (try simp only[↓jr,jw,seval])
 refine JFIN.rb ?_
 have e : decide (0 < max (m + 1 - (c.nodes : Int)) 0) = decide ((c.nodes : Int) ≤ m) := decide_eq_decide.2 (by omega)
 rw [e]; exact SubB.v
theorem Con.nodesL_mem : ∀ {l : List Con} {c : Con}, c ∈ l → c.nodes ≤ Con.nodesL l
 | d :: l, c, m => by
  simp only [Con.nodesL]
  rcases List.mem_cons.1 m with rfl | m
  ·omega
  ·have := Con.nodesL_mem m; omega
mutual
theorem Con.depth_le : ∀ c : Con, c.depth ≤ c.nodes
 | .mk _ _ l => by simp only [Con.depth, Con.nodes]; have := Con.depthL_le l; omega
theorem Con.depthL_le : ∀ l : List Con, Con.depthL l ≤ Con.nodesL l
 | [] => by simp [Con.depthL]
 | c :: l => by simp only [Con.depthL, Con.nodesL]; have := Con.depth_le c; have := Con.depthL_le l; omega
end
noncomputable def ir34 : IFn := ⟨30, [⟨2, none⟩, ⟨3, none⟩], (.seq (.reg [oA 1 (.box 71 (.r 0)), oA 2 (.mov (kI 0)), oA 3 (.mov (kI 0))]) (.seq (.reg [oA 2 (.mov (kI 1))]) (.seq (.seq (.reg [oA 8 (.fadr 2 (.r 1)), oL 9 8 none, oT 10 9 (.lenl (.r 9)), oA 11 (.mov (kI 0))]) (.block 0 (.loop (.seq (.reg [oA 12 (.bin .lss (.r 11) (.r 10))]) (.seq (.cond (.r 12) .skip (.exit 0)) (.seq (.block 1 (.seq (.reg [oA 13 (.iasl 3 (.r 9) (.r 11)), oL 14 13 (some 3), oA 5 (.alloc 71 [.v (.int .i64 0), .v (.int .i64 0), .sl .nil 0 []]), oN (.store 3 (.r 5) (.r 14))]) (.seq (.reg [oL 16 5 (some 3), oT 17 16 (.call 34 [.r 16]), oA 15 (kM 17), oA 18 (.ext (.r 15) 0), oA 19 (.ext (.r 15) 1), oA 6 (kM 18), oA 7 (kM 19)]) (.reg [oA 20 (kM 2), oA 21 (kM 6), oA 22 (.bin .add (.r 20) (.r 21)), oA 23 (kM 3), oA 24 (kM 7), oA 25 (.mx false (.r 23) (.r 24)), oA 2 (kM 22), oA 3 (kM 25)])))) (.reg [oA 26 (.bin .add (.r 11) (kI 1)), oA 11 (kM 26)]))))))) (.seq (.reg [oA 27 (kM 2), oA 28 (kM 3), oA 29 (.bin .add (.r 28) (kI 1)), oA 2 (kM 27), oA 3 (kM 29)]) .ret))))⟩
theorem c34 : cfunc Tryz.prog 34 = some ir34 := by kernel_rfl
theorem k34 : okIR (max 1 ir34.n) ir34.ir = true := by decide +kernel
theorem s_Size {G : Nat → Option (List AV)} : ∀ (c : Con) (j : JH), c.ok → c.nodes < 4611686018427387904 → JC Tryz.prog G 34 [.agg c.enc] j (RET (.tup [I64 c.nodes, I64 c.depth]) j) := by
 intro c
 induction c using Con.ind with
 | h op n args ih =>
 intro j hc hm
 simp only [Con.ok] at hc
 obtain ⟨hc1, hc2, hc3, hc4⟩ := hc
 simp only [Con.nodes] at hm
 refine JC.run hmix c34 (by exact k34) ?_
 (try simp only[↓jr,jw,seval,ir34])
 refine JLOOP.of (σ := Nat × Nat × Nat) (fun s => s.1 ≤ args.length ∧ s.2.1 + Con.nodesL (args.drop s.1) = 1 + Con.nodesL args ∧ max s.2.2 (Con.depthL (args.drop s.1)) = Con.depthL args) (fun s => args.length - s.1)
  (fun s => [(11, I64 s.1), (10, I64 args.length), (9, .sl .none args.length (encs Con.enc args)), (2, I64 s.2.1), (3, I64 s.2.2)]) (fun s => ext j [.cells 71 (Con.mk op n args).enc]) (0, 1, 0) ⟨by omega, by simp, by simp⟩ ?_ (JDropH.refl _) ?_
 ·((try simp only[↓jr,jw,seval,DL]) <;> exact sbq)
 ·rintro ⟨k, x, d⟩ ⟨hk, hx, hdd⟩
  simp only at hk hx hdd
  (try simp only[↓jr,jw,seval])
  refine wq.intro (fun h1 => ?_) (fun h1 => ?_)
  ·(try simp only[↓jr,jw,seval])
   have hlt : k < (args).length := by omega
   obtain ⟨c, l, hd⟩ : ∃ c_ l_, List.drop k (args) = c_ :: l_ := ⟨_, _, List.drop_eq_getElem_cons hlt⟩
   have hd1 : List.drop (k + 1) (args) = l := by rw [← List.drop_drop, hd]; rfl
   have hmem : c ∈ args := List.mem_of_mem_drop (hd ▸ List.mem_cons_self)
   (try simp only[↓jr,jw,seval,hd])
   refine wc.intro (by omega) ?_
   (try simp only[↓jr,jw,seval,hd])
   have hcn := Con.nodesL_mem hmem
   have hcd := c.depth_le
   rw [hd] at hx hdd
   simp only [Con.nodesL, Con.depthL] at hx hdd
   refine JCs.ret (ih c hmem _ (Con.oks_mem hc4 hmem) (by omega)) ?_
   (try simp only[↓jr,jw,seval])
   refine wc.intro (by unfold R64; omega) ?_
   (try simp only[↓jr,jw,seval])
   refine wc.intro (R64_add hlt hc3) ?_
   (try simp only[↓jr,jw,seval])
   refine JNEXT.of (k + 1, x + c.nodes, max d c.depth) ⟨by simp only; omega, by simp only [hd1]; omega, by simp only [hd1]; omega⟩ (by simp only; omega) ?_ ?_
   ·have e : ((max d c.depth : Nat) : Int) = max (d : Int) c.depth := by omega
    simp only [Int.natCast_add, e]
    ((try simp only[↓jr,jw,seval,DL]) <;> exact sbq)
   ·exact JDropH.nx
  ·(try simp only[↓jr,jw,seval])
   have hk' : args.drop k = [] := List.drop_eq_nil_of_le (by omega)
   rw [hk'] at hx hdd
   simp only [Con.nodesL, Con.depthL] at hx hdd
   have hd := Con.depthL_le args
   refine wc.intro (by unfold R64; omega) ?_
   (try simp only[↓jr,jw,seval])
   refine JFIN.rb ?_
   have e1 : (Con.mk op n args).nodes = x := by simp only [Con.nodes]; omega
   have e2 : ((Con.mk op n args).depth : Int) = d + 1 := by simp only [Con.depth]; omega
   rw [e1, e2]
   exact sbq
end Go.Proofs.YtcjlpklgnknpgaaGreatDoor.Pg
