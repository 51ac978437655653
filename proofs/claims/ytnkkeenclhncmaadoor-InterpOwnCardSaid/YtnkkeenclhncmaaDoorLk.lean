/-
  Knowledge bases, as the reference tells them.
-/
import Derived.Test.YtnkkeenclhncmaaDoorLj
set_option linter.unusedVariables false
set_option linter.unusedSimpArgs false
set_option maxRecDepth 20000
set_option maxHeartbeats 8000000
namespace Go.Proofs.YtnkkeenclhncmaaDoor.Pg
open Go
variable {m : GM}
def consI : List Inc → List Con
  | [] => []
  | x :: l => x.sub :: x.sup :: consI l
def consF : List Fac → List Con
  | [] => []
  | x :: l => x.con :: consF l
def Bas.cons (b : Bas) : List Con := consI b.incls ++ consF b.facts
def sumN : List Con → Nat
  | [] => 0
  | c :: l => c.nodes + sumN l
theorem sumN_append : ∀ l r : List Con, sumN (l ++ r) = sumN l + sumN r
  | [], r => by simp [sumN]
  | c :: l, r => by simp only [List.cons_append, sumN, sumN_append l r]; omega
theorem consI_len : ∀ l : List Inc, (consI l).length = 2 * l.length
  | [] => rfl
  | x :: l => by simp only [consI, List.length_cons, consI_len l]; omega
theorem consF_len : ∀ l : List Fac, (consF l).length = l.length
  | [] => rfl
  | x :: l => by simp only [consF, List.length_cons, consF_len l]
theorem consI_mem : ∀ {l : List Inc} {c : Con}, c ∈ consI l → ∃ x ∈ l, c = x.sub ∨ c = x.sup
  | x :: l, c, h => by
    simp only [consI, List.mem_cons] at h
    rcases h with rfl | rfl | h
    · exact ⟨x, List.mem_cons_self, .inl rfl⟩
    · exact ⟨x, List.mem_cons_self, .inr rfl⟩
    · obtain ⟨y, hy, e⟩ := consI_mem h; exact ⟨y, List.mem_cons_of_mem _ hy, e⟩
theorem consF_mem : ∀ {l : List Fac} {c : Con}, c ∈ consF l → ∃ x ∈ l, c = x.con
  | x :: l, c, h => by
    simp only [consF, List.mem_cons] at h
    rcases h with rfl | h
    · exact ⟨x, List.mem_cons_self, rfl⟩
    · obtain ⟨y, hy, e⟩ := consF_mem h; exact ⟨y, List.mem_cons_of_mem _ hy, e⟩
theorem Bas.ok.con {b : Bas} (hb : b.ok) {c : Con} (h : c ∈ b.cons) : c.ok := by
  rcases List.mem_append.1 h with h | h
  · obtain ⟨x, hx, e⟩ := consI_mem h
    rcases e with rfl | rfl
    · exact (hb.incls x hx).1
    · exact (hb.incls x hx).2
  · obtain ⟨x, hx, rfl⟩ := consF_mem h; exact (hb.facts x hx).2
theorem sumN_mem : ∀ {l : List Con} {c : Con}, c ∈ l → c.nodes ≤ sumN l
  | d :: l, c, h => by
    simp only [sumN]
    rcases List.mem_cons.1 h with rfl | h
    · omega
    · have := sumN_mem h; omega
theorem mem_consI : ∀ {l : List Inc} {x : Inc}, x ∈ l → x.sub ∈ consI l ∧ x.sup ∈ consI l
  | y :: l, x, h => by
    simp only [consI, List.mem_cons]
    rcases List.mem_cons.1 h with rfl | h
    · exact ⟨.inl rfl, .inr (.inl rfl)⟩
    · have := mem_consI h; exact ⟨.inr (.inr this.1), .inr (.inr this.2)⟩
theorem mem_consF : ∀ {l : List Fac} {x : Fac}, x ∈ l → x.con ∈ consF l
  | y :: l, x, h => by
    simp only [consF, List.mem_cons]
    rcases List.mem_cons.1 h with rfl | h
    · exact .inl rfl
    · exact .inr (mem_consF h)
theorem few_of {b : Bas} (h : ∀ c ∈ b.cons, c.nodes ≤ 4000000000) : b.few :=
  ⟨fun x hx => ⟨h _ (List.mem_append.2 (.inl (mem_consI hx).1)), h _ (List.mem_append.2 (.inl (mem_consI hx).2))⟩, fun x hx => h _ (List.mem_append.2 (.inr (mem_consF hx)))⟩
def ir52 : IFn := ⟨37, [⟨2, none⟩], (.seq (.reg [oA 1 (.box 66 (.r 0)), oA 2 (.mov (.k (.sl .nil 0 [])))]) (.seq (.reg [oA 3 (.mov (.k (.sl .nil 0 [])))]) (.seq (.seq (.reg [oA 8 (.fadr 3 (.r 1)), oL 9 8 none, oT 10 9 (.lenl (.r 9)), oA 11 (.mov (kI 0))]) (.block 0 (.loop (.seq (.reg [oA 12 (.bin .lss (.r 11) (.r 10))]) (.seq (.cond (.r 12) .skip (.exit 0)) (.seq (.block 1 (.seq (.reg [oA 13 (.iasl 6 (.r 9) (.r 11)), oL 14 13 (some 6), oA 5 (.alloc 92 [.v (.int .i64 0), .v (.int .i64 0), .sl .nil 0 [], .v (.int .i64 0), .v (.int .i64 0), .sl .nil 0 []]), oN (.store 6 (.r 5) (.r 14))]) (.reg [oA 15 (kM 3), oA 16 (.fadr 0 (.r 5)), oL 17 16 (some 3), oA 18 (.fadr 3 (.r 5)), oL 19 18 (some 3), oA 20 (.bsl 2 3 [.v (.int .i64 0), .v (.int .i64 0), .sl .nil 0 []] [(0, (3, .r 17)), (3, (3, .r 19))]), oA 21 (.app 3 40 (.r 15) (.r 20)), oA 3 (kM 21)]))) (.reg [oA 22 (.bin .add (.r 11) (kI 1)), oA 11 (kM 22)]))))))) (.seq (.seq (.reg [oA 23 (.fadr 5 (.r 1)), oL 24 23 none, oT 25 24 (.lenl (.r 24)), oA 26 (.mov (kI 0))]) (.block 2 (.loop (.seq (.reg [oA 27 (.bin .lss (.r 26) (.r 25))]) (.seq (.cond (.r 27) .skip (.exit 2)) (.seq (.block 3 (.seq (.reg [oA 28 (.iasl 4 (.r 24) (.r 26)), oL 29 28 (some 4), oA 7 (.alloc 94 [.v (.int .i64 0), .v (.int .i64 0), .v (.int .i64 0), .sl .nil 0 []]), oN (.store 4 (.r 7) (.r 29))]) (.reg [oA 30 (kM 3), oA 31 (.fadr 1 (.r 7)), oL 32 31 (some 3), oA 33 (.bsl 1 3 [.v (.int .i64 0), .v (.int .i64 0), .sl .nil 0 []] [(0, (3, .r 32))]), oA 34 (.app 3 40 (.r 30) (.r 33)), oA 3 (kM 34)]))) (.reg [oA 35 (.bin .add (.r 26) (kI 1)), oA 26 (kM 35)]))))))) (.seq (.reg [oA 36 (kM 3), oA 2 (kM 36)]) .ret)))))⟩
theorem c52 : cfunc Tryd.prog 52 = some ir52 := by kernel_rfl
theorem k52 : okIR (max 1 ir52.n) ir52.ir = true := by decide +kernel
theorem s_Concepts (b : Bas) (hi : b.incls.length ≤ 1000000) (hf : b.facts.length ≤ 1000000) (j : JH) {G : Nat → Option (List AV)} : JC Tryd.prog G 52 [.agg b.enc] j (RET (.sl .none b.cons.length (encs Con.enc b.cons)) j) := by
  refine JC.run hmix c52 (by exact k52) ?_
  (try simp only[↓jr,jw,seval,ir52])
  have hlI := consI_len b.incls
  have hlF := consF_len b.facts
  refine JLOOP.of (σ := Nat × List Con × Tok × JH) (fun s => s.1 ≤ (b.incls).length ∧ TokExt j s.2.2.2 ∧ CanApp j s.2.2.2 s.2.2.1 3 s.2.1.length ∧ s.2.1 ++ consI (b.incls.drop s.1) = consI b.incls) (fun s => (b.incls).length - s.1) (fun s => [(11, I64 s.1), (10, I64 b.incls.length), (9, .sl .none b.incls.length (encs Inc.enc b.incls)), (1, .ptr (pid j.next 0) 0), (3, .sl s.2.2.1 s.2.1.length (encs Con.enc s.2.1))]) (fun s => ext s.2.2.2 [.cells 66 b.enc]) (0, [], .nil, j) ⟨Nat.zero_le _, ?_⟩ ?_ (JDropH.refl _) ?_
  · exact ⟨TokExt.refl _, CanApp.nil, rfl⟩
  · ((try simp only[↓jr,jw,seval,DL]) <;> exact sbq)
  rintro ⟨k, ac, tk, jx⟩ ⟨hk, hI⟩
  try simp only at hk hI
  (try simp only[↓jr,jw,seval])
  refine wq.intro (fun h1 => ?_) (fun h1 => ?_)
  · obtain ⟨ht, hc, hI⟩ := hI
    have hlt : k < (b.incls).length := by omega
    obtain ⟨x, r, hd⟩ : ∃ c_ l_, List.drop k (b.incls) = c_ :: l_ := ⟨_, _, List.drop_eq_getElem_cons hlt⟩
    have hd1 : List.drop (k + 1) (b.incls) = r := by rw [← List.drop_drop, hd]; rfl
    have hmem : x ∈ b.incls := List.mem_of_mem_drop (hd ▸ List.mem_cons_self)
    (try simp only[↓jr,jw,seval,hd])
    refine wc.intro (by omega) ?_
    (try simp only[↓jr,jw,seval,hd])
    rw [hd] at hI
    simp only [consI] at hI
    have hla : ac.length + 2 ≤ 2 * b.incls.length := by rw [← hlI, ← hI]; simp
    have e2 : encs Con.enc [x.sub, x.sup] = x.sub.enc ++ x.sup.enc := by simp [encs]
    refine JAPP.can' hc.push (ht.push 2) (by rw [d_len1]) (by rw [List.length_append, Con.len, Con.len]) (by rw [List.all_append, d_con9, d_con9]; rfl) (by omega) (by omega) ?_
    intro tok1 j1 hcan ht3 hle
    have hle' : jx.tnext ≤ j1.tnext := Nat.le_trans (Nat.le_succ _) hle
    (try simp only[↓jr,jw,seval])
    refine wc.intro (R64_add hlt (by omega)) ?_; (try simp only[↓jr,jw,seval])
    have e1 : (ac ++ [x.sub, x.sup]).length = ac.length + 2 := by simp
    refine JNEXT.of (k + 1, ac ++ [x.sub, x.sup], tok1, j1) ⟨by simp only; omega, ht3, by rw [e1]; exact hcan, by simp only [hd1]; rw [← hI]; simp⟩ (by simp only; omega) ?_ (JDropH.nextT ht ht3 (TokExt.refl _) hle' (by simp only [LSub, and_self, true_or, and_true]))
    (try simp only[↓jr,jw,seval,DL,e1,encs_append,e2])
    exact ⟨SubB.v, SubB.v, SubB.pure (by simp only [AV.pure]; exact encs_pur Inc.pur _), SubB.ptr (by have := ht3.next; unfold pid; omega), SubB.can hcan (by rw [pures_append, pures_append, encs_pur Con.pur, Con.pur, Con.pur]; rfl)⟩
  obtain ⟨ht, hc, hI⟩ := hI
  (try simp only[↓jr,jw,seval,ht.next])
  rw [List.drop_eq_nil_of_le (by omega)] at hI
  simp only [consI, List.append_nil] at hI
  have hal : ac.length = 2 * b.incls.length := by rw [← hlI, hI]
  clear h1 hk
  refine JLOOP.of (σ := Nat × List Con × Tok × JH) (fun s => s.1 ≤ b.facts.length ∧ TokExt j s.2.2.2 ∧ CanApp j s.2.2.2 s.2.2.1 3 s.2.1.length ∧ s.2.1 ++ consF (b.facts.drop s.1) = b.cons) (fun s => b.facts.length - s.1)
    (fun s => [(26, I64 s.1), (25, I64 b.facts.length), (24, .sl .none b.facts.length (encs Fac.enc b.facts)), (1, .ptr (pid j.next 0) 0), (3, .sl s.2.2.1 s.2.1.length (encs Con.enc s.2.1))]) (fun s => ext s.2.2.2 [.cells 66 b.enc]) (0, ac, tk, jx)
    ⟨Nat.zero_le _, ht, hc, by simp only [List.drop_zero]; rw [hI]; rfl⟩ ?_ (JDropH.refl _) ?_
  · (try simp only[↓jr,jw,seval,DL])
    exact ⟨SubB.v, SubB.v, SubB.pure (by simp only [AV.pure]; exact encs_pur Fac.pur _), SubB.ptr (by have := ht.next; unfold pid; omega), SubB.can hc (encs_pur Con.pur _)⟩
  clear ht hc hI hal
  rintro ⟨k, ac, tk, jx⟩ ⟨hk, ht, hc, hI⟩
  simp only at hk ht hc hI
  (try simp only[↓jr,jw,seval])
  refine wq.intro (fun h1 => ?_) (fun h1 => ?_)
  · have hlt : k < (b.facts).length := by omega
    obtain ⟨x, r, hd⟩ : ∃ c_ l_, List.drop k (b.facts) = c_ :: l_ := ⟨_, _, List.drop_eq_getElem_cons hlt⟩
    have hd1 : List.drop (k + 1) (b.facts) = r := by rw [← List.drop_drop, hd]; rfl
    have hmem : x ∈ b.facts := List.mem_of_mem_drop (hd ▸ List.mem_cons_self)
    (try simp only[↓jr,jw,seval,hd])
    refine wc.intro (by omega) ?_
    (try simp only[↓jr,jw,seval,hd])
    rw [hd] at hI
    simp only [consF] at hI
    have hla : ac.length + 1 ≤ 2 * b.incls.length + b.facts.length := by
      have : b.cons.length = 2 * b.incls.length + b.facts.length := by unfold Bas.cons; rw [List.length_append, hlI, hlF]
      rw [← this, ← hI]; simp
    have e2 : encs Con.enc [x.con] = x.con.enc := by simp [encs]
    refine JAPP.can' hc.push (ht.push 1) (by rw [d_len1]) (by rw [Con.len]) d_con9 (by omega) (by omega) ?_
    intro tok1 j1 hcan ht3 hle
    have hle' : jx.tnext ≤ j1.tnext := Nat.le_trans (Nat.le_succ _) hle
    (try simp only[↓jr,jw,seval])
    refine wc.intro (R64_add hlt (by omega)) ?_; (try simp only[↓jr,jw,seval])
    have e1 : (ac ++ [x.con]).length = ac.length + 1 := by simp
    refine JNEXT.of (k + 1, ac ++ [x.con], tok1, j1) ⟨by simp only; omega, ht3, by rw [e1]; exact hcan, by simp only [hd1]; rw [← hI]; simp⟩ (by simp only; omega) ?_ (JDropH.nextT ht ht3 (TokExt.refl _) hle' (by simp only [LSub, and_self, true_or, and_true]))
    (try simp only[↓jr,jw,seval,DL,e1,encs_append,e2])
    exact ⟨SubB.v, SubB.v, SubB.pure (by simp only [AV.pure]; exact encs_pur Fac.pur _), SubB.ptr (by have := ht3.next; unfold pid; omega), SubB.can hcan (by rw [pures_append, encs_pur Con.pur, Con.pur]; rfl)⟩
  (try simp only[↓jr,jw,seval])
  rw [List.drop_eq_nil_of_le (by omega)] at hI
  simp only [consF, List.append_nil] at hI
  refine JFIN.ret ((JDropH.back ht).of_ext) ?_
  rw [← hI]
  exact SubB.sl rfl (SubBs.pure (encs_pur Con.pur _))
def fewB (M : Int) (b : Bas) : Bool := decide (b.incls.length ≤ 200) && decide (b.roles.length ≤ 200) && decide (b.facts.length ≤ 200) && decide (b.links.length ≤ 200) && fewNames b.nms && b.cons.all (fun c => decide ((c.nodes : Int) ≤ M)) && decide ((sumN b.cons : Int) ≤ M)
def ir25 : IFn := ⟨61, [⟨4, none⟩], (.seq (.reg [oA 2 (.box 66 (.r 0)), oA 4 (.mov (kB false))]) (.seq (.seq (.reg [oA 10 (.fadr 3 (.r 2)), oL 11 10 none, oT 12 11 (.lenl (.r 11)), oA 13 (.bin .gtr (.r 12) (kI 200)), oA 14 (kM 13), ⟨(some 15), (some ((14, false))), none, (.fadr 4 (.r 2))⟩, ⟨(some 16), (some ((14, false))), (some (.r 15)), (.load none (.r 15))⟩, ⟨(some 17), (some ((14, false))), (some (.r 16)), (.lenl (.r 16))⟩, ⟨(some 18), (some ((14, false))), none, (.bin .gtr (.r 17) (kI 200))⟩, oA 19 (.pick (.r 14) (kB true) (.r 18)), oA 20 (kM 19), ⟨(some 21), (some ((20, false))), none, (.fadr 5 (.r 2))⟩, ⟨(some 22), (some ((20, false))), (some (.r 21)), (.load none (.r 21))⟩, ⟨(some 23), (some ((20, false))), (some (.r 22)), (.lenl (.r 22))⟩, ⟨(some 24), (some ((20, false))), none, (.bin .gtr (.r 23) (kI 200))⟩, oA 25 (.pick (.r 20) (kB true) (.r 24)), oA 26 (kM 25), ⟨(some 27), (some ((26, false))), none, (.fadr 6 (.r 2))⟩, ⟨(some 28), (some ((26, false))), (some (.r 27)), (.load none (.r 27))⟩, ⟨(some 29), (some ((26, false))), (some (.r 28)), (.lenl (.r 28))⟩, ⟨(some 30), (some ((26, false))), none, (.bin .gtr (.r 29) (kI 200))⟩, oA 31 (.pick (.r 26) (kB true) (.r 30)), oA 32 (kM 31), ⟨(some 33), (some ((32, false))), none, (.fadr 0 (.r 2))⟩, ⟨(some 34), (some ((32, false))), (some (.r 33)), (.load (some 3) (.r 33))⟩, ⟨(some 35), (some ((32, false))), (some (.r 34)), (.call 35 [.r 34])⟩, ⟨(some 36), (some ((32, false))), none, (.not (.r 35))⟩, oA 37 (.pick (.r 32) (kB true) (.r 36))]) (.cond (.r 37) (.seq (.reg [oA 4 (.mov (kB false))]) .ret) .skip)) (.seq (.reg [oA 5 (.mov (kI 0))]) (.seq (.seq (.reg [oL 38 2 (some 7), oT 39 38 (.call 52 [.r 38]), oT 40 39 (.lenl (.r 39)), oA 41 (.mov (kI 0))]) (.block 0 (.loop (.seq (.reg [oA 42 (.bin .lss (.r 41) (.r 40))]) (.seq (.cond (.r 42) .skip (.exit 0)) (.seq (.block 1 (.seq (.reg [oA 43 (.iasl 3 (.r 39) (.r 41)), oL 44 43 (some 3), oA 7 (.alloc 44 [.v (.int .i64 0), .v (.int .i64 0), .sl .nil 0 []]), oN (.store 3 (.r 7) (.r 44))]) (.seq (.seq (.reg [oL 45 7 (some 3), oA 46 (kM 1), oA 47 (.call 20 [.r 45, .r 46]), oA 48 (.not (.r 47))]) (.cond (.r 48) (.seq (.reg [oA 4 (.mov (kB false))]) .ret) .skip)) (.seq (.reg [oL 50 7 (some 3), oT 51 50 (.call 48 [.r 50]), oA 49 (kM 51), oA 52 (.ext (.r 49) 0), oA 53 (.ext (.r 49) 1), oA 8 (kM 52), oA 9 (kM 53)]) (.reg [oA 54 (kM 5), oA 55 (kM 8), oA 56 (.bin .add (.r 54) (.r 55)), oA 5 (kM 56)]))))) (.reg [oA 57 (.bin .add (.r 41) (kI 1)), oA 41 (kM 57)]))))))) (.seq (.reg [oA 58 (kM 5), oA 59 (kM 1), oA 60 (.bin .leq (.r 58) (.r 59)), oA 4 (kM 60)]) .ret)))))⟩
theorem c25 : cfunc Tryd.prog 25 = some ir25 := by kernel_rfl
theorem k25 : okIR (max 2 ir25.n) ir25.ir = true := by decide +kernel
theorem s_Few (b : Bas) (hb : b.ok) (M : Int) (h0 : 0 ≤ M) (hM : M ≤ 4000000000) (j : JH) {G : Nat → Option (List AV)} : JC Tryd.prog G 25 [.agg b.enc, I64 M] j (RET (BOO (fewB M b)) j) := by
  have fls : ∀ {l : List AObj}, fewB M b = false → @JFIN (ext j []) (ext j l) (.v (.bool false)) ⟨fun y j' => RET (BOO (fewB M b)) j (.ret y) j'⟩ := by
    intro l h
    refine JFIN.rb ?_
    rw [h]; exact SubB.v
  refine JC.run hmix c25 (by exact k25) ?_
  (try simp only[↓jr,jw,seval,ir25])
  refine wq.intro (fun g1 => by (try simp only[↓jr,jw,seval]); exact fls (by unfold fewB; rw [decide_eq_false (by omega : ¬ b.incls.length ≤ 200)]; simp)) (fun g1 => ?_)
  (try simp only[↓jr,jw,seval])
  refine wq.intro (fun g2 => by (try simp only[↓jr,jw,seval]); exact fls (by unfold fewB; rw [decide_eq_false (by omega : ¬ b.roles.length ≤ 200)]; simp)) (fun g2 => ?_)
  (try simp only[↓jr,jw,seval])
  refine wq.intro (fun g3 => by (try simp only[↓jr,jw,seval]); exact fls (by unfold fewB; rw [decide_eq_false (by omega : ¬ b.facts.length ≤ 200)]; simp)) (fun g3 => ?_)
  (try simp only[↓jr,jw,seval])
  refine wq.intro (fun g4 => by (try simp only[↓jr,jw,seval]); exact fls (by unfold fewB; rw [decide_eq_false (by omega : ¬ b.links.length ≤ 200)]; simp)) (fun g4 => ?_)
  (try simp only[↓jr,jw,seval])
  refine JCs.ret (s_FewNames b.nms hb.nms hb.short _) ?_
  (try simp only[↓jr,jw,seval])
  refine ww.intro (fun g5 => ?_) (fun g5 => by (try simp only[↓jr,jw,seval]); exact fls (by unfold fewB; rw [g5]; simp))
  (try simp only[↓jr,jw,seval])
  refine JCs.ret (s_Concepts b (by omega) (by omega) _) ?_
  (try simp only[↓jr,jw,seval])
  have hB : fewB M b = (b.cons.all (fun c => decide ((c.nodes : Int) ≤ M)) && decide ((sumN b.cons : Int) ≤ M)) := by
    unfold fewB; rw [g5, decide_eq_true (by omega : b.incls.length ≤ 200), decide_eq_true (by omega : b.roles.length ≤ 200), decide_eq_true (by omega : b.facts.length ≤ 200), decide_eq_true (by omega : b.links.length ≤ 200)]; rfl
  have hlc : b.cons.length ≤ 600 := by unfold Bas.cons; rw [List.length_append, consI_len, consF_len]; omega
  refine JLOOP.of (σ := Nat × Nat) (fun s => s.1 ≤ (b.cons).length ∧ s.2 ≤ 4000000000 * s.1 ∧ s.2 + sumN (b.cons.drop s.1) = sumN b.cons ∧ (b.cons.drop s.1).all (fun c => decide ((c.nodes : Int) ≤ M)) = b.cons.all (fun c => decide ((c.nodes : Int) ≤ M))) (fun s => (b.cons).length - s.1) (fun s => [(41, I64 s.1), (40, I64 b.cons.length), (39, .sl .none b.cons.length (encs Con.enc b.cons)), (2, .ptr (pid j.next 0) 0), (5, I64 s.2), (1, I64 M)]) (fun s => ext j [.cells 66 b.enc]) (0, 0) ⟨Nat.zero_le _, ?_⟩ ?_ (JDropH.refl _) ?_
  · exact ⟨by simp, by simp, rfl⟩
  · ((try simp only[↓jr,jw,seval,DL]) <;> exact sbq)
  rintro ⟨k, x⟩ ⟨hk, hI⟩
  try simp only at hk hI
  (try simp only[↓jr,jw,seval])
  refine wq.intro (fun h1 => ?_) (fun h1 => ?_)
  · obtain ⟨hx, hs, hI⟩ := hI
    have hlt : k < (b.cons).length := by omega
    obtain ⟨c, r, hd⟩ : ∃ c_ l_, List.drop k (b.cons) = c_ :: l_ := ⟨_, _, List.drop_eq_getElem_cons hlt⟩
    have hd1 : List.drop (k + 1) (b.cons) = r := by rw [← List.drop_drop, hd]; rfl
    have hmem : c ∈ b.cons := List.mem_of_mem_drop (hd ▸ List.mem_cons_self)
    (try simp only[↓jr,jw,seval,hd])
    refine wc.intro (by omega) ?_
    (try simp only[↓jr,jw,seval,hd])
    rw [hd] at hI
    rw [hd] at hs
    simp only [sumN] at hs
    rw [List.all_cons] at hI
    refine JCs.ret (s_Fits c M _ (hb.con hmem) (by omega) (by omega)) ?_
    (try simp only[↓jr,jw,seval])
    refine wq.intro (fun q1 => ?_) (fun q1 => by (try simp only[↓jr,jw,seval]); exact fls (by rw [hB, ← hI, decide_eq_false q1]; simp))
    (try simp only[↓jr,jw,seval])
    refine JCs.ret (s_Size c _ (hb.con hmem) (by omega)) ?_
    (try simp only[↓jr,jw,seval])
    refine wc.intro (by unfold R64; omega) ?_
    (try simp only[↓jr,jw,seval])
    refine wc.intro (R64_add hlt (by omega)) ?_; (try simp only[↓jr,jw,seval])
    rw [decide_eq_true q1, Bool.true_and] at hI
    refine JNEXT.of (k + 1, x + c.nodes) ⟨by simp only; omega, by simp only; omega, by simp only [hd1]; omega, by simp only [hd1]; exact hI⟩ (by simp only; omega) ?_ JDropH.nx
    simp only [Int.natCast_add]
    ((try simp only[↓jr,jw,seval,DL]) <;> exact sbq)
  obtain ⟨hx, hs, hI⟩ := hI
  (try simp only[↓jr,jw,seval])
  rw [List.drop_eq_nil_of_le (by omega)] at hI hs
  simp only [sumN, List.all_nil, Nat.add_zero] at hs hI
  refine JFIN.rb ?_
  rw [hB, ← hI, ← hs]; exact SubB.v
end Go.Proofs.YtnkkeenclhncmaaDoor.Pg
