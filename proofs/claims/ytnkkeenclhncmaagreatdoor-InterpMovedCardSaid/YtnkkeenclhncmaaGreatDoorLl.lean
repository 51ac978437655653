/-
  Knowledge bases: validity, as the reference tells it; it is the program's.
-/
import Derived.Test.YtnkkeenclhncmaaGreatDoorLk
set_option linter.unusedVariables false
set_option linter.unusedSimpArgs false
set_option maxRecDepth 20000
set_option maxHeartbeats 8000000
namespace Go.Proofs.YtnkkeenclhncmaaGreatDoor.Pg
open Go
variable {m : GM}
def basR (b : Bas) : Bool := namesOK b.nms && decide (b.count ≤ 60) && (b.cons.all (conOK b.nms) && (b.roles.all (fun x => rolOK b.nms x.sub && rolOK b.nms x.sup) && (b.facts.all (fun x => indOK b.nms x.ind) && (b.links.all (lnkOK b.nms) && decide (sumN b.cons ≤ 400)))))
def ir7 : IFn := ⟨118, [⟨2, none⟩], (.seq (.reg [oA 1 (.box 30 (.r 0)), oA 2 (.mov (kB false))]) (.seq (.seq (.reg [oA 14 (.fadr 0 (.r 1)), oL 15 14 (some 3), oT 16 15 (.call 26 [.r 15]), oA 17 (.not (.r 16)), oA 18 (kM 17), ⟨(some 19), (some ((18, false))), (some (.r 1)), (.load (some 7) (.r 1))⟩, ⟨(some 20), (some ((18, false))), (some (.r 19)), (.call 19 [.r 19])⟩, ⟨(some 21), (some ((18, false))), none, (.bin .gtr (.r 20) (kI 60))⟩, oA 22 (.pick (.r 18) (kB true) (.r 21))]) (.cond (.r 22) (.seq (.reg [oA 2 (.mov (kB false))]) .ret) .skip)) (.seq (.reg [oA 3 (.mov (kI 0))]) (.seq (.seq (.reg [oL 23 1 (some 7), oT 24 23 (.call 22 [.r 23]), oT 25 24 (.lenl (.r 24)), oA 26 (.mov (kI 0))]) (.block 0 (.loop (.seq (.reg [oA 27 (.bin .lss (.r 26) (.r 25))]) (.seq (.cond (.r 27) .skip (.exit 0)) (.seq (.block 1 (.seq (.reg [oA 28 (.iasl 3 (.r 24) (.r 26)), oL 29 28 (some 3), oA 5 (.alloc 33 [.v (.int .i64 0), .v (.int .i64 0), .sl .nil 0 []]), oN (.store 3 (.r 5) (.r 29))]) (.seq (.seq (.reg [oA 30 (.fadr 0 (.r 1)), oL 31 30 (some 3), oL 32 5 (some 3), oA 33 (.call 27 [.r 31, .r 32]), oA 34 (.not (.r 33))]) (.cond (.r 34) (.seq (.reg [oA 2 (.mov (kB false))]) .ret) .skip)) (.seq (.reg [oL 36 5 (some 3), oT 37 36 (.call 24 [.r 36]), oA 35 (kM 37), oA 38 (.ext (.r 35) 0), oA 39 (.ext (.r 35) 1), oA 6 (kM 38), oA 7 (kM 39)]) (.reg [oA 40 (kM 3), oA 41 (kM 6), oA 42 (.bin .add (.r 40) (.r 41)), oA 3 (kM 42)]))))) (.reg [oA 43 (.bin .add (.r 26) (kI 1)), oA 26 (kM 43)]))))))) (.seq (.seq (.reg [oA 44 (.fadr 4 (.r 1)), oL 45 44 none, oT 46 45 (.lenl (.r 45)), oA 47 (.mov (kI 0))]) (.block 2 (.loop (.seq (.reg [oA 48 (.bin .lss (.r 47) (.r 46))]) (.seq (.cond (.r 48) .skip (.exit 2)) (.seq (.block 3 (.seq (.reg [oA 49 (.iasl 2 (.r 45) (.r 47)), oL 50 49 (some 2), oA 9 (.alloc 69 [.v (.int .i64 0), .v (.int .i64 0)]), oN (.store 2 (.r 9) (.r 50))]) (.seq (.reg [oA 51 (.fadr 0 (.r 1)), oL 52 51 (some 3), oA 53 (.fadr 0 (.r 9)), oL 54 53 none, oA 55 (.call 28 [.r 52, .r 54]), oA 56 (.not (.r 55)), oA 57 (kM 56), ⟨(some 58), (some ((57, false))), none, (.fadr 0 (.r 1))⟩, ⟨(some 59), (some ((57, false))), (some (.r 58)), (.load (some 3) (.r 58))⟩, ⟨(some 60), (some ((57, false))), none, (.fadr 1 (.r 9))⟩, ⟨(some 61), (some ((57, false))), (some (.r 60)), (.load none (.r 60))⟩, ⟨(some 62), (some ((57, false))), none, (.call 28 [.r 59, .r 61])⟩, ⟨(some 63), (some ((57, false))), none, (.not (.r 62))⟩, oA 64 (.pick (.r 57) (kB true) (.r 63))]) (.cond (.r 64) (.seq (.reg [oA 2 (.mov (kB false))]) .ret) .skip)))) (.reg [oA 65 (.bin .add (.r 47) (kI 1)), oA 47 (kM 65)]))))))) (.seq (.seq (.reg [oA 66 (.fadr 5 (.r 1)), oL 67 66 none, oT 68 67 (.lenl (.r 67)), oA 69 (.mov (kI 0))]) (.block 4 (.loop (.seq (.reg [oA 70 (.bin .lss (.r 69) (.r 68))]) (.seq (.cond (.r 70) .skip (.exit 4)) (.seq (.block 5 (.seq (.reg [oA 71 (.iasl 4 (.r 67) (.r 69)), oL 72 71 (some 4), oA 11 (.alloc 72 [.v (.int .i64 0), .v (.int .i64 0), .v (.int .i64 0), .sl .nil 0 []]), oN (.store 4 (.r 11) (.r 72))]) (.seq (.reg [oA 73 (.fadr 0 (.r 1)), oL 74 73 (some 3), oA 75 (.fadr 0 (.r 11)), oL 76 75 none, oA 77 (.call 29 [.r 74, .r 76]), oA 78 (.not (.r 77))]) (.cond (.r 78) (.seq (.reg [oA 2 (.mov (kB false))]) .ret) .skip)))) (.reg [oA 79 (.bin .add (.r 69) (kI 1)), oA 69 (kM 79)]))))))) (.seq (.seq (.reg [oA 80 (.fadr 6 (.r 1)), oL 81 80 none, oT 82 81 (.lenl (.r 81)), oA 83 (.mov (kI 0))]) (.block 6 (.loop (.seq (.reg [oA 84 (.bin .lss (.r 83) (.r 82))]) (.seq (.cond (.r 84) .skip (.exit 6)) (.seq (.block 7 (.seq (.reg [oA 85 (.iasl 3 (.r 81) (.r 83)), oL 86 85 (some 3), oA 13 (.alloc 74 [.v (.int .i64 0), .v (.int .i64 0), .v (.int .i64 0)]), oN (.store 3 (.r 13) (.r 86))]) (.seq (.reg [oA 87 (.fadr 0 (.r 13)), oL 88 87 none, oA 89 (.bin .lss (.r 88) (kI 0)), oA 90 (kM 89), ⟨(some 91), (some ((90, false))), none, (.fadr 0 (.r 13))⟩, ⟨(some 92), (some ((90, false))), (some (.r 91)), (.load none (.r 91))⟩, ⟨(some 93), (some ((90, false))), none, (.fadr 0 (.r 1))⟩, ⟨(some 94), (some ((90, false))), none, (.fadr 1 (.r 93))⟩, ⟨(some 95), (some ((90, false))), (some (.r 94)), (.load none (.r 94))⟩, ⟨(some 96), (some ((90, false))), (some (.r 95)), (.lenl (.r 95))⟩, ⟨(some 97), (some ((90, false))), none, (.bin .geq (.r 92) (.r 96))⟩, oA 98 (.pick (.r 90) (kB true) (.r 97)), oA 99 (kM 98), ⟨(some 100), (some ((99, false))), none, (.fadr 0 (.r 1))⟩, ⟨(some 101), (some ((99, false))), (some (.r 100)), (.load (some 3) (.r 100))⟩, ⟨(some 102), (some ((99, false))), none, (.fadr 1 (.r 13))⟩, ⟨(some 103), (some ((99, false))), (some (.r 102)), (.load none (.r 102))⟩, ⟨(some 104), (some ((99, false))), none, (.call 29 [.r 101, .r 103])⟩, ⟨(some 105), (some ((99, false))), none, (.not (.r 104))⟩, oA 106 (.pick (.r 99) (kB true) (.r 105)), oA 107 (kM 106), ⟨(some 108), (some ((107, false))), none, (.fadr 0 (.r 1))⟩, ⟨(some 109), (some ((107, false))), (some (.r 108)), (.load (some 3) (.r 108))⟩, ⟨(some 110), (some ((107, false))), none, (.fadr 2 (.r 13))⟩, ⟨(some 111), (some ((107, false))), (some (.r 110)), (.load none (.r 110))⟩, ⟨(some 112), (some ((107, false))), none, (.call 29 [.r 109, .r 111])⟩, ⟨(some 113), (some ((107, false))), none, (.not (.r 112))⟩, oA 114 (.pick (.r 107) (kB true) (.r 113))]) (.cond (.r 114) (.seq (.reg [oA 2 (.mov (kB false))]) .ret) .skip)))) (.reg [oA 115 (.bin .add (.r 83) (kI 1)), oA 83 (kM 115)]))))))) (.seq (.reg [oA 116 (kM 3), oA 117 (.bin .leq (.r 116) (kI 400)), oA 2 (kM 117)]) .ret))))))))⟩
theorem c7 : cfunc Tryz.prog 7 = some ir7 := by kernel_rfl
theorem k7 : okIR (max 1 ir7.n) ir7.ir = true := by decide +kernel
theorem s_kIs (b : Bas) (hb : b.ok) (j : JH) {G : Nat → Option (List AV)} : JC Tryz.prog G 7 [.agg b.enc] j (RET (BOO (basR b)) j) := by
  have fls : ∀ {l : List AObj}, basR b = false → @JFIN (ext j []) (ext j l) (.v (.bool false)) ⟨fun y j' => RET (BOO (basR b)) j (.ret y) j'⟩ := by
    intro l h
    refine JFIN.rb ?_
    rw [h]; exact SubB.v
  obtain ⟨n1, n2, n3⟩ := hb.nms
  have l1 := hb.li
  have l2 := hb.lr
  have l3 := hb.lf
  have l4 := hb.ll
  refine JC.run hmix c7 (by exact k7) ?_
  (try simp only[↓jr,jw,seval,ir7])
  refine JCs.ret (s_rNames b.nms hb.nms hb.short _) ?_
  (try simp only[↓jr,jw,seval])
  refine ww.intro (fun g1 => ?_) (fun g1 => by (try simp only[↓jr,jw,seval]); exact fls (by unfold basR; rw [g1]; rfl))
  (try simp only[↓jr,jw,seval])
  refine JCs.ret (s_Axioms b hb _) ?_
  (try simp only[↓jr,jw,seval])
  refine wq.intro (fun g2 => by (try simp only[↓jr,jw,seval]); exact fls (by unfold basR; rw [decide_eq_false (by omega), Bool.and_false, Bool.false_and])) (fun g2 => ?_)
  (try simp only[↓jr,jw,seval])
  have hcnt : b.count ≤ 60 := by omega
  have hcnt' := hcnt
  unfold Bas.count at hcnt'
  refine JCs.ret (s_Concepts b (by omega) (by omega) _) ?_
  (try simp only[↓jr,jw,seval])
  have hB : basR b = (b.cons.all (conOK b.nms) && (b.roles.all (fun x => rolOK b.nms x.sub && rolOK b.nms x.sup) && (b.facts.all (fun x => indOK b.nms x.ind) && (b.links.all (lnkOK b.nms) && decide (sumN b.cons ≤ 400))))) := by
    unfold basR; rw [g1, decide_eq_true hcnt]; rfl
  have hlc : b.cons.length ≤ 200 := by unfold Bas.cons; rw [List.length_append, consI_len, consF_len]; omega
  refine JLOOP.of (σ := Nat × Nat) (fun s => s.1 ≤ (b.cons).length ∧ s.2 ≤ 4000000000 * s.1 ∧ s.2 + sumN (b.cons.drop s.1) = sumN b.cons ∧ (b.cons.drop s.1).all (conOK b.nms) = b.cons.all (conOK b.nms)) (fun s => (b.cons).length - s.1) (fun s => [(26, I64 s.1), (25, I64 b.cons.length), (24, .sl .none b.cons.length (encs Con.enc b.cons)), (1, .ptr (pid j.next 0) 0), (3, I64 s.2)]) (fun s => ext j [.cells 30 b.enc]) (0, 0) ⟨Nat.zero_le _, ?_⟩ ?_ (JDropH.refl _) ?_
  · exact ⟨by simp, by simp, rfl⟩
  · ((try simp only[↓jr,jw,seval,DL]) <;> exact sbq)
  rintro ⟨k, x⟩ ⟨hk, hI⟩
  try simp only at hk hI
  (try simp only[↓jr,jw,seval])
  refine wq.intro (fun h1 => ?_) (fun h1 => ?_)
  · obtain ⟨hx, hs, hI⟩ := hI
    have hlt : k < (b.cons).length := by omega
    obtain ⟨c, r, hd⟩ : ∃ c_ l_, List.drop k (b.cons) = c_ :: l_ := ⟨_, _, List.drop_eq_getElem_cons hlt⟩
    have hd1 : List.drop (k + 1) (b.cons) = r := by rw [← List.drop_drop, hd]; rfl
    have hmem : c ∈ b.cons := List.mem_of_mem_drop (hd ▸ List.mem_cons_self)
    (try simp only[↓jr,jw,seval,hd])
    refine wc.intro (by omega) ?_
    (try simp only[↓jr,jw,seval,hd])
    rw [hd] at hI
    rw [hd] at hs
    simp only [sumN] at hs
    rw [List.all_cons] at hI
    refine JCs.ret (s_Is b.nms c _ hb.nms (hb.con hmem)) ?_
    (try simp only[↓jr,jw,seval])
    refine ww.intro (fun q1 => ?_) (fun q1 => by (try simp only[↓jr,jw,seval]); exact fls (by rw [hB, ← hI, q1]; rfl))
    have hnd : c.nodes ≤ 400 := by unfold conOK at q1; simp only [Bool.and_eq_true, decide_eq_true_eq] at q1; exact q1.1.1
    (try simp only[↓jr,jw,seval])
    refine JCs.ret (s_Size c _ (hb.con hmem) (by omega)) ?_
    (try simp only[↓jr,jw,seval])
    refine wc.intro (by unfold R64; omega) ?_
    (try simp only[↓jr,jw,seval])
    refine wc.intro (R64_add hlt (by omega)) ?_; (try simp only[↓jr,jw,seval])
    rw [q1, Bool.true_and] at hI
    refine JNEXT.of (k + 1, x + c.nodes) ⟨by simp only; omega, by simp only; omega, by simp only [hd1]; omega, by simp only [hd1]; exact hI⟩ (by simp only; omega) ?_ JDropH.nx
    simp only [Int.natCast_add]
    ((try simp only[↓jr,jw,seval,DL]) <;> exact sbq)
  obtain ⟨hx, hs, hI⟩ := hI
  (try simp only[↓jr,jw,seval])
  rw [List.drop_eq_nil_of_le (by omega)] at hI hs
  simp only [sumN, List.all_nil, Nat.add_zero] at hs hI
  rw [← hI, Bool.true_and] at hB
  clear hI h1 hk hx
  refine JLOOP.of (σ := Nat) (fun s => s ≤ (b.roles).length ∧ ((b.roles.drop s).all (fun x => rolOK b.nms x.sub && rolOK b.nms x.sup)) = b.roles.all (fun x => rolOK b.nms x.sub && rolOK b.nms x.sup)) (fun s => (b.roles).length - s) (fun s => [(47, I64 s), (46, I64 b.roles.length), (45, .sl .none b.roles.length (encs RIn.enc b.roles)), (1, .ptr (pid j.next 0) 0), (3, I64 x)]) (fun s => ext j [.cells 30 b.enc]) 0 ⟨Nat.zero_le _, ?_⟩ ?_ (JDropH.refl _) ?_
  · rfl
  · ((try simp only[↓jr,jw,seval,DL]) <;> exact sbq)
  rintro k ⟨hk, hI⟩
  try simp only at hk hI
  (try simp only[↓jr,jw,seval])
  refine wq.intro (fun h1 => ?_) (fun h1 => ?_)
  · have hlt : k < (b.roles).length := by omega
    obtain ⟨y, r, hd⟩ : ∃ c_ l_, List.drop k (b.roles) = c_ :: l_ := ⟨_, _, List.drop_eq_getElem_cons hlt⟩
    have hd1 : List.drop (k + 1) (b.roles) = r := by rw [← List.drop_drop, hd]; rfl
    have hmem : y ∈ b.roles := List.mem_of_mem_drop (hd ▸ List.mem_cons_self)
    (try simp only[↓jr,jw,seval,hd])
    refine wc.intro (by omega) ?_
    (try simp only[↓jr,jw,seval,hd])
    rw [hd] at hI
    rw [List.all_cons] at hI
    refine JCs.ret (s_Role b.nms hb.nms _ _) ?_
    (try simp only[↓jr,jw,seval])
    refine ww.intro (fun c1 => ?_) (fun c1 => by (try simp only[↓jr,jw,seval]); exact fls (by rw [hB, ← hI, c1]; rfl))
    (try simp only[↓jr,jw,seval])
    refine JCs.ret (s_Role b.nms hb.nms _ _) ?_
    (try simp only[↓jr,jw,seval])
    refine ww.intro (fun c2 => ?_) (fun c2 => by (try simp only[↓jr,jw,seval]); exact fls (by rw [hB, ← hI, c1, c2]; rfl))
    (try simp only[↓jr,jw,seval])
    rw [c1, c2] at hI
    refine wc.intro (R64_add hlt (by omega)) ?_; (try simp only[↓jr,jw,seval])
    refine JNEXT.of (k + 1) ⟨by omega, by rw [hd1]; exact hI⟩ (by omega) ?_ JDropH.nx
    ((try simp only[↓jr,jw,seval,DL]) <;> exact sbq)
  (try simp only[↓jr,jw,seval])
  rw [List.drop_eq_nil_of_le (by omega), List.all_nil] at hI
  rw [← hI, Bool.true_and] at hB
  clear hI h1 hk
  refine JLOOP.of (σ := Nat) (fun s => s ≤ (b.facts).length ∧ (b.facts.drop s).all (fun x => indOK b.nms x.ind) = b.facts.all (fun x => indOK b.nms x.ind)) (fun s => (b.facts).length - s) (fun s => [(69, I64 s), (68, I64 b.facts.length), (67, .sl .none b.facts.length (encs Fac.enc b.facts)), (1, .ptr (pid j.next 0) 0), (3, I64 x)]) (fun s => ext j [.cells 30 b.enc]) 0 ⟨Nat.zero_le _, ?_⟩ ?_ (JDropH.refl _) ?_
  · rfl
  · ((try simp only[↓jr,jw,seval,DL]) <;> exact sbq)
  rintro k ⟨hk, hI⟩
  try simp only at hk hI
  (try simp only[↓jr,jw,seval])
  refine wq.intro (fun h1 => ?_) (fun h1 => ?_)
  · have hlt : k < (b.facts).length := by omega
    obtain ⟨y, r, hd⟩ : ∃ c_ l_, List.drop k (b.facts) = c_ :: l_ := ⟨_, _, List.drop_eq_getElem_cons hlt⟩
    have hd1 : List.drop (k + 1) (b.facts) = r := by rw [← List.drop_drop, hd]; rfl
    have hmem : y ∈ b.facts := List.mem_of_mem_drop (hd ▸ List.mem_cons_self)
    (try simp only[↓jr,jw,seval,hd])
    refine wc.intro (by omega) ?_
    (try simp only[↓jr,jw,seval,hd])
    rw [hd] at hI
    rw [List.all_cons] at hI
    refine JCs.ret (s_Ind b.nms hb.nms _ _) ?_
    (try simp only[↓jr,jw,seval])
    refine ww.intro (fun c1 => ?_) (fun c1 => by (try simp only[↓jr,jw,seval]); exact fls (by rw [hB, ← hI, c1]; rfl))
    (try simp only[↓jr,jw,seval])
    rw [c1] at hI
    refine wc.intro (R64_add hlt (by omega)) ?_; (try simp only[↓jr,jw,seval])
    refine JNEXT.of (k + 1) ⟨by omega, by rw [hd1]; exact hI⟩ (by omega) ?_ JDropH.nx
    ((try simp only[↓jr,jw,seval,DL]) <;> exact sbq)
  (try simp only[↓jr,jw,seval])
  rw [List.drop_eq_nil_of_le (by omega), List.all_nil] at hI
  rw [← hI, Bool.true_and] at hB
  clear hI h1 hk
  refine JLOOP.of (σ := Nat) (fun s => s ≤ (b.links).length ∧ (b.links.drop s).all (lnkOK b.nms) = b.links.all (lnkOK b.nms)) (fun s => (b.links).length - s) (fun s => [(83, I64 s), (82, I64 b.links.length), (81, .sl .none b.links.length (encs Lnk.enc b.links)), (1, .ptr (pid j.next 0) 0), (3, I64 x)]) (fun s => ext j [.cells 30 b.enc]) 0 ⟨Nat.zero_le _, ?_⟩ ?_ (JDropH.refl _) ?_
  · rfl
  · ((try simp only[↓jr,jw,seval,DL]) <;> exact sbq)
  rintro k ⟨hk, hI⟩
  try simp only at hk hI
  (try simp only[↓jr,jw,seval])
  refine wq.intro (fun h1 => ?_) (fun h1 => ?_)
  · have hlt : k < (b.links).length := by omega
    obtain ⟨y, r, hd⟩ : ∃ c_ l_, List.drop k (b.links) = c_ :: l_ := ⟨_, _, List.drop_eq_getElem_cons hlt⟩
    have hd1 : List.drop (k + 1) (b.links) = r := by rw [← List.drop_drop, hd]; rfl
    have hmem : y ∈ b.links := List.mem_of_mem_drop (hd ▸ List.mem_cons_self)
    (try simp only[↓jr,jw,seval,hd])
    refine wc.intro (by omega) ?_
    (try simp only[↓jr,jw,seval,hd])
    rw [hd] at hI
    rw [List.all_cons] at hI
    have bad : lnkOK b.nms y = false → basR b = false := fun q => by rw [hB, ← hI, q]; rfl
    refine wq.intro (fun c0 => by (try simp only[↓jr,jw,seval]); exact fls (bad (by unfold lnkOK; rw [decide_eq_false (by omega : ¬ 0 ≤ y.role)]; rfl))) (fun c0 => ?_)
    (try simp only[↓jr,jw,seval])
    refine wq.intro (fun c1 => by (try simp only[↓jr,jw,seval]); exact fls (bad (by unfold lnkOK; rw [decide_eq_false (by omega : ¬ y.role < b.nms.rs.length), Bool.and_false]; rfl))) (fun c1 => ?_)
    (try simp only[↓jr,jw,seval])
    have tl : (indOK b.nms y.fr && indOK b.nms y.to) = lnkOK b.nms y := by
      unfold lnkOK; rw [decide_eq_true (by omega : 0 ≤ y.role), decide_eq_true (by omega : y.role < b.nms.rs.length)]; rfl
    refine JCs.ret (s_Ind b.nms hb.nms _ _) ?_
    (try simp only[↓jr,jw,seval])
    refine ww.intro (fun c2 => ?_) (fun c2 => by (try simp only[↓jr,jw,seval]); exact fls (bad (by rw [← tl, c2]; rfl)))
    (try simp only[↓jr,jw,seval])
    refine JCs.ret (s_Ind b.nms hb.nms _ _) ?_
    (try simp only[↓jr,jw,seval])
    refine ww.intro (fun c3 => ?_) (fun c3 => by (try simp only[↓jr,jw,seval]); exact fls (bad (by rw [← tl, c2, c3]; rfl)))
    (try simp only[↓jr,jw,seval])
    rw [← tl, c2, c3] at hI
    refine wc.intro (R64_add hlt (by omega)) ?_; (try simp only[↓jr,jw,seval])
    refine JNEXT.of (k + 1) ⟨by omega, by rw [hd1]; exact hI⟩ (by omega) ?_ JDropH.nx
    ((try simp only[↓jr,jw,seval,DL]) <;> exact sbq)
  (try simp only[↓jr,jw,seval])
  rw [List.drop_eq_nil_of_le (by omega), List.all_nil] at hI
  refine JFIN.rb ?_
  rw [hB, ← hI, Bool.true_and, ← hs]
  have e : decide (x ≤ 400) = decide ((x : Int) ≤ 400) := decide_eq_decide.2 (by omega)
  rw [e]; exact SubB.v
/-! ### The two are one -/
def cgo (n : Nms) (c : Con) : Bool := decide (c.depth ≤ 20) && shaped n.cs.length n.rs.length c
theorem conG_cgo (n : Nms) (c : Con) (y : Int) : conG n c y = (decide ((c.nodes : Int) ≤ y) && cgo n c) := by unfold conG cgo; rw [Bool.and_assoc]
theorem conOK_cgo (n : Nms) (c : Con) : conOK n c = (decide (c.nodes ≤ 400) && cgo n c) := by unfold conOK cgo; rw [Bool.and_assoc]
theorem vI_eq (n : Nms) : ∀ (l : List Inc) (y : Int), 0 ≤ y → vI n l y = if (consI l).all (cgo n) = true ∧ (sumN (consI l) : Int) ≤ y then some (y - sumN (consI l)) else none
  | [], y, h => by simp [vI, consI, sumN, h]
  | x :: l, y, h => by
    simp only [vI, consI, sumN, List.all_cons, conG_cgo, Bool.and_eq_true, decide_eq_true_eq]
    by_cases h1 : ((x.sub.nodes : Int) ≤ y ∧ cgo n x.sub = true) ∧ (x.sup.nodes : Int) ≤ y - x.sub.nodes ∧ cgo n x.sup = true
    · rw [if_pos h1, vI_eq n l _ (by omega)]
      obtain ⟨⟨a1, a2⟩, a3, a4⟩ := h1
      by_cases h2 : (consI l).all (cgo n) = true ∧ (sumN (consI l) : Int) ≤ y - x.sub.nodes - x.sup.nodes
      · rw [if_pos h2, if_pos ⟨⟨a2, a4, h2.1⟩, by omega⟩]; congr 1; omega
      · rw [if_neg h2, if_neg (fun q => h2 ⟨q.1.2.2, by omega⟩)]
    · rw [if_neg h1, if_neg (fun q => h1 ⟨⟨by omega, q.1.1⟩, by omega, q.1.2.1⟩)]
theorem vF_eq (n : Nms) : ∀ (l : List Fac) (y : Int), 0 ≤ y → vF n l y = if (l.all (fun x => indOK n x.ind) = true ∧ (consF l).all (cgo n) = true) ∧ (sumN (consF l) : Int) ≤ y then some (y - sumN (consF l)) else none
  | [], y, h => by simp [vF, consF, sumN, h]
  | x :: l, y, h => by
    simp only [vF, consF, sumN, List.all_cons, conG_cgo, Bool.and_eq_true, decide_eq_true_eq]
    by_cases h1 : indOK n x.ind = true ∧ (x.con.nodes : Int) ≤ y ∧ cgo n x.con = true
    · rw [if_pos h1, vF_eq n l _ (by omega)]
      obtain ⟨a1, a2, a3⟩ := h1
      by_cases h2 : (l.all (fun x => indOK n x.ind) = true ∧ (consF l).all (cgo n) = true) ∧ (sumN (consF l) : Int) ≤ y - x.con.nodes
      · rw [if_pos h2, if_pos ⟨⟨⟨a1, h2.1.1⟩, a3, h2.1.2⟩, by omega⟩]; congr 1; omega
      · rw [if_neg h2, if_neg (fun q => h2 ⟨⟨q.1.1.2, q.1.2.2⟩, by omega⟩)]
    · rw [if_neg h1, if_neg (fun q => h1 ⟨q.1.1.1, by omega, q.1.2.1⟩)]
theorem all_conOK (n : Nms) (l : List Con) (h : sumN l ≤ 400) : l.all (conOK n) = l.all (cgo n) := by
  rw [Bool.eq_iff_iff, List.all_eq_true, List.all_eq_true]
  constructor
  · intro q c hc; have := q c hc; rw [conOK_cgo, Bool.and_eq_true] at this; exact this.2
  · intro q c hc; have := sumN_mem hc; rw [conOK_cgo, q c hc, decide_eq_true (by omega)]; rfl
theorem basR_eq (b : Bas) : basR b = basV b := by
  unfold basR basV
  congr 1
  rw [vI_eq b.nms b.incls 400 (by omega)]
  have hs : sumN b.cons = sumN (consI b.incls) + sumN (consF b.facts) := by unfold Bas.cons; rw [sumN_append]
  by_cases h1 : (consI b.incls).all (cgo b.nms) = true ∧ (sumN (consI b.incls) : Int) ≤ 400
  · rw [if_pos h1]
    simp only
    rw [vF_eq b.nms b.facts _ (by omega)]
    by_cases h2 : (b.facts.all (fun x => indOK b.nms x.ind) = true ∧ (consF b.facts).all (cgo b.nms) = true) ∧ (sumN (consF b.facts) : Int) ≤ 400 - sumN (consI b.incls)
    · rw [if_pos h2]
      simp only
      have h3 : sumN b.cons ≤ 400 := by omega
      rw [all_conOK _ _ h3, decide_eq_true h3, h2.1.1]
      have : b.cons.all (cgo b.nms) = true := by unfold Bas.cons; rw [List.all_append, h1.1, h2.1.2]; rfl
      rw [this]; simp
    · rw [if_neg h2]
      simp only [Bool.and_false]
      rw [Bool.eq_false_iff]
      intro q
      simp only [Bool.and_eq_true, decide_eq_true_eq] at q
      obtain ⟨q1, q2, q3, q4, q5⟩ := q
      rw [all_conOK _ _ q5] at q1
      unfold Bas.cons at q1
      rw [List.all_append, Bool.and_eq_true] at q1
      exact h2 ⟨⟨q3, q1.2⟩, by omega⟩
  · rw [if_neg h1]
    simp only
    rw [Bool.eq_false_iff]
    intro q
    simp only [Bool.and_eq_true, decide_eq_true_eq] at q
    obtain ⟨q1, q2, q3, q4, q5⟩ := q
    rw [all_conOK _ _ q5] at q1
    unfold Bas.cons at q1
    rw [List.all_append, Bool.and_eq_true] at q1
    exact h1 ⟨q1.1, by omega⟩
end Go.Proofs.YtnkkeenclhncmaaGreatDoor.Pg
