/-
  The reference's subconcepts.
-/
import Derived.Test.YtcajjicdbphkpaaGreatDoorUm
set_option linter.unusedVariables false
set_option linter.unusedSimpArgs false
set_option maxRecDepth 100000
set_option maxHeartbeats 8000000
namespace Go.Proofs.YtcajjicdbphkpaaGreatDoor.Pg
open Go
mutual
theorem ceq_eq : ∀ (c d : Con), ceq c d = true → c = d
  | .mk o n l, .mk o' n' l', h => by
    simp only [ceq, Bool.and_eq_true, decide_eq_true_eq] at h
    rw [h.1.1, h.1.2, ceqL_eq l l' h.2]
theorem ceqL_eq : ∀ (l l' : List Con), ceqL l l' = true → l = l'
  | [], [], _ => rfl
  | c :: l, d :: l', h => by
    simp only [ceqL, Bool.and_eq_true] at h
    rw [ceq_eq c d h.1, ceqL_eq l l' h.2]
  | [], _ :: _, h => by simp [ceqL] at h
  | _ :: _, [], h => by simp [ceqL] at h
end
theorem oks_take' : ∀ {l : List Con} (k : Nat), Con.oks l → Con.oks (l.take k)
  | [], k, h => by simp [Con.oks]
  | c :: l, 0, h => by simp [Con.oks]
  | c :: l, k + 1, h => by
    simp only [Con.oks] at h
    simp only [List.take_succ_cons, Con.oks]
    exact ⟨h.1, oks_take' k h.2⟩
/-- The first place of a concept, or -1. -/
def plcE : List Con → Con → Int
  | [], _ => -1
  | d :: l, c => if ceq c d = true then 0 else if plcE l c = -1 then -1 else plcE l c + 1
theorem plcE_ge : ∀ (l : List Con) (c : Con), -1 ≤ plcE l c
  | [], _ => by simp [plcE]
  | d :: l, c => by
    have := plcE_ge l c
    simp only [plcE]; split
    · omega
    · split <;> omega
theorem plcE_mem : ∀ (l : List Con) (c : Con), 0 ≤ plcE l c ↔ c ∈ l
  | [], c => by simp [plcE]
  | d :: l, c => by
    have ih := plcE_mem l c
    have h2 := plcE_ge l c
    simp only [plcE, List.mem_cons, ← ih]
    by_cases h : ceq c d = true
    · rw [if_pos h]; exact ⟨fun _ => .inl (ceq_eq _ _ h), fun _ => by omega⟩
    · rw [if_neg h]
      have hne : ¬ c = d := fun e => h (by rw [e]; exact ceq_refl d)
      split
      · constructor
        · intro q; omega
        · rintro (q | q)
          · exact absurd q hne
          · omega
      · constructor
        · intro q; exact .inr (by omega)
        · intro _; omega
/-- The reference's subconcepts of nodes. -/
def rsb (a : List Con) : List Con → List Con
  | [] => a
  | x :: l => rsb (if plcE a x < 0 then a ++ [x] else a) l
theorem rsb_append : ∀ (l r : List Con) (a : List Con), rsb a (l ++ r) = rsb (rsb a l) r
  | [], _, _ => rfl
  | x :: l, r, a => by simp only [List.cons_append, rsb]; exact rsb_append l r _
theorem rsb_len : ∀ (l a : List Con), (rsb a l).length ≤ a.length + l.length
  | [], _ => Nat.le_refl _
  | x :: l, a => by
    simp only [rsb, List.length_cons]
    refine Nat.le_trans (rsb_len l _) ?_
    split <;> simp <;> omega
theorem rsb_ok : ∀ (l a : List Con), (∀ y ∈ a, y.ok) → (∀ y ∈ l, y.ok) → ∀ y ∈ rsb a l, y.ok
  | [], a, h, _ => h
  | x :: l, a, h, h2 => by
    simp only [rsb]
    refine rsb_ok l _ ?_ fun y hy => h2 y (List.mem_cons_of_mem _ hy)
    split
    · intro y hy
      rcases List.mem_append.1 hy with q | q
      · exact h y q
      · rw [List.mem_singleton.1 q]; exact h2 x (List.mem_cons_self ..)
    · exact h
section
variable {G : Nat → Option (List AV)}
def ir27 : IFn := ⟨19, [⟨4, none⟩], (.seq (.reg [oA 3 (.box 27 (.r 1)), oA 4 (.mov (kI 0))]) (.seq (.seq (.reg [oA 7 (kM 0), oT 8 7 (.lenl (.r 7)), oA 9 (.mov (kI 0))]) (.block 0 (.loop (.seq (.reg [oA 10 (.bin .lss (.r 9) (.r 8))]) (.seq (.cond (.r 10) .skip (.exit 0)) (.seq (.block 1 (.seq (.reg [oA 11 (kM 9), oA 12 (.iasl 3 (.r 7) (.r 9)), oL 13 12 (some 3), oA 6 (.alloc 27 [.v (.int .i64 0), .v (.int .i64 0), .sl .nil 0 []]), oA 5 (kM 11), oN (.store 3 (.r 6) (.r 13))]) (.seq (.reg [oL 14 3 (some 3), oL 15 6 (some 3), oA 16 (.call 13 [.r 14, .r 15])]) (.cond (.r 16) (.seq (.reg [oA 17 (kM 5), oA 4 (kM 17)]) .ret) .skip)))) (.reg [oA 18 (.bin .add (.r 9) (kI 1)), oA 9 (kM 18)]))))))) (.seq (.reg [oA 4 (.mov (kI (-1)))]) .ret)))⟩
theorem c27 : cfunc Tryz.prog 27 = some ir27 := by kernel_rfl
theorem k27 : okIR (max 2 ir27.n) ir27.ir = true := by decide +kernel
theorem s_Place (l : List Con) (c : Con) (tok : Tok) (j : JH) (hl : l.length < 4611686018427387904) (hc : c.ok) (hlo : ∀ y ∈ l, y.ok) : JC Tryz.prog G 27 [.sl tok l.length (encs Con.enc l), .agg c.enc] j (RET (I64 (plcE l c)) j) := by
  refine JC.run hmix c27 (by exact k27) ?_
  (try simp only[↓jr,jw,seval,ir27])
  refine JLOOP.of (σ := Nat) (fun k => k ≤ l.length ∧ plcE l c = if plcE (l.drop k) c = -1 then -1 else plcE (l.drop k) c + k) (fun k => l.length - k)
      (fun k => [(9, I64 k), (8, I64 l.length), (7, .sl .none l.length (encs Con.enc l)), (3, .ptr (pid j.next 0) 0)]) (fun k => Pg.ext j [.cells 27 c.enc]) 0 ⟨by omega, by simp⟩ ?_ (JDropH.refl _) ?_
  · ((try simp only[↓jr,jw,seval,DL]) <;> exact sbq)
  rintro k ⟨hk, hI⟩
  (try simp only[↓jr,jw,seval])
  refine wq.intro (fun h1 => ?_) (fun h1 => ?_)
  · have hlt : k < (l).length := by omega
    obtain ⟨t, r, hd⟩ : ∃ c_ l_, List.drop k (l) = c_ :: l_ := ⟨_, _, List.drop_eq_getElem_cons hlt⟩
    have hd1 : List.drop (k + 1) (l) = r := by rw [← List.drop_drop, hd]; rfl
    have hmem : t ∈ l := List.mem_of_mem_drop (hd ▸ List.mem_cons_self)
    (try simp only[↓jr,jw,seval,hd])
    rw [hd] at hI
    simp only [plcE] at hI
    refine wc.intro (by omega) ?_
    (try simp only[↓jr,jw,seval,hd])
    refine JCs.ret (s_rSame c t _ hc (hlo t hmem)) ?_
    (try simp only[↓jr,jw,seval])
    refine ww.intro (fun h2 => ?_) (fun h2 => ?_)
    · (try simp only[↓jr,jw,seval])
      refine JFIN.rb ?_
      simp [h2] at hI
      rw [hI]; exact SubB.v
    · (try simp only[↓jr,jw,seval])
      refine wc.intro (R64_add hlt hl) ?_
      (try simp only[↓jr,jw,seval])
      refine JNEXT.of (k + 1) ⟨by omega, ?_⟩ (by omega) ?_ JDropH.nx
      · rw [hd1, hI]
        have := plcE_ge r c
        by_cases h3 : plcE r c = -1
        · simp [h2, h3]
        · simp only [h2, Bool.false_eq_true, if_false, h3]
          split <;> omega
      · ((try simp only[↓jr,jw,seval,DL]) <;> exact sbq)
  · (try simp only[↓jr,jw,seval])
    refine JFIN.rb ?_
    rw [List.drop_eq_nil_of_le (by omega)] at hI
    simp only [plcE, if_true] at hI
    rw [hI]; exact SubB.v
def ir10 : IFn := ⟨27, [⟨4, none⟩], (.seq (.reg [oA 2 (.box 27 (.r 0)), oA 4 (.mov (.k (.sl .nil 0 [])))]) (.seq (.seq (.reg [oA 7 (kM 1), oL 8 2 (some 3), oA 9 (.call 27 [.r 7, .r 8]), oA 10 (.bin .lss (.r 9) (kI 0))]) (.cond (.r 10) (.reg [oA 11 (kM 1), oL 12 2 (some 3), oA 13 (.bsl 1 3 [.v (.int .i64 0), .v (.int .i64 0), .sl .nil 0 []] [(0, (3, .r 12))]), oA 14 (.app 3 40 (.r 11) (.r 13)), oA 1 (kM 14)]) .skip)) (.seq (.seq (.reg [oA 15 (.fadr 2 (.r 2)), oL 16 15 none, oT 17 16 (.lenl (.r 16)), oA 18 (.mov (kI 0))]) (.block 0 (.loop (.seq (.reg [oA 19 (.bin .lss (.r 18) (.r 17))]) (.seq (.cond (.r 19) .skip (.exit 0)) (.seq (.block 1 (.seq (.reg [oA 20 (.iasl 3 (.r 16) (.r 18)), oL 21 20 (some 3), oA 6 (.alloc 27 [.v (.int .i64 0), .v (.int .i64 0), .sl .nil 0 []]), oN (.store 3 (.r 6) (.r 21))]) (.reg [oL 22 6 (some 3), oA 23 (kM 1), oA 24 (.call 10 [.r 22, .r 23]), oA 1 (kM 24)]))) (.reg [oA 25 (.bin .add (.r 18) (kI 1)), oA 18 (kM 25)]))))))) (.seq (.reg [oA 26 (kM 1), oA 4 (kM 26)]) .ret))))⟩
theorem c10 : cfunc Tryz.prog 10 = some ir10 := by kernel_rfl
theorem k10 : okIR (max 2 ir10.n) ir10.ir = true := by decide +kernel
theorem s_rSubs : ∀ (c : Con) (S : Nat → Prop) (tok : Tok) (a : List Con) (j : JH), CanP S j tok 3 a.length → (∀ t, S t → t < j.tnext) → c.ok → (∀ y ∈ a, y.ok) → a.length + c.nodes ≤ 1000000 →
    JC Tryz.prog G 10 [.agg c.enc, .sl tok a.length (encs Con.enc a)] j fun o j' => ∃ t1 j1, CanP S j1 t1 3 (rsb a (pre c)).length ∧ TokP S j j1 ∧ o = .ret (.sl t1 (rsb a (pre c)).length (encs Con.enc (rsb a (pre c)))) ∧ j' = Pg.ext j1 [] := by
  intro c
  induction c using Con.ind with
  | h op n l ih =>
  intro S tok a j hT hS hcok ha hla
  have hc := hcok
  simp only [Con.ok] at hc
  obtain ⟨hc1, hc2, hc3, hc4⟩ := hc
  simp only [Con.nodes] at hla
  have hll : l.length ≤ Con.nodesL l := Con.nodesL_len l
  refine JC.run hmix c10 (by exact k10) ?_
  (try simp only[↓jr,jw,seval,ir10])
  refine JCs.ret (s_Place a (Con.mk op n l) tok _ (by omega) hcok ha) ?_
  (try simp only[↓jr,jw,seval])
  refine wq.intro (fun q0 => ?_) (fun q0 => ?_)
  · (try simp only[↓jr,jw,seval])
    refine JAPP.canP hT.push (fun t q => Nat.lt_succ_of_lt (hS t q)) (encs_length Con.len a) (by rw [Nat.one_mul]; exact Con.len _) d_con9 (by omega) (by omega) ?_
    intro t1 j2 f1 f2
    have f5 : TokP S j j2 := (TokP.push (TokP.refl hS) 1).trans f2
    have hnA := f5.next
    have hok1 : ∀ y ∈ a ++ [Con.mk op n l], y.ok := by
      intro y hy
      rcases List.mem_append.1 hy with q | q
      · exact ha y q
      · rw [List.mem_singleton.1 q]; exact hcok
    have e1 : encs Con.enc a ++ (Con.mk op n l).enc = encs Con.enc (a ++ [Con.mk op n l]) := by rw [encs_append]; simp [encs]
    have e2 : a.length + 1 = (a ++ [Con.mk op n l]).length := by simp
    rw [e1, e2]
    rw [e2] at f1
    have hla' : (a ++ [Con.mk op n l]).length ≤ a.length + 1 := by simp

    (try simp only[↓jr,jw,seval,hnA])
    refine JLOOP.of (σ := Nat × Tok × JH) (fun s => s.1 ≤ l.length ∧ CanP S s.2.2 s.2.1 3 (rsb (a ++ [Con.mk op n l]) (preL (l.take s.1))).length ∧ TokP S j s.2.2) (fun s => l.length - s.1)
      (fun s => [(18, I64 s.1), (17, I64 l.length), (16, .sl .none l.length (encs Con.enc l)), (1, .sl s.2.1 (rsb (a ++ [Con.mk op n l]) (preL (l.take s.1))).length (encs Con.enc (rsb (a ++ [Con.mk op n l]) (preL (l.take s.1)))))])
      (fun s => Pg.ext s.2.2 [.cells 27 (Con.mk op n l).enc]) (0, t1, j2) ⟨by omega, f1, f5⟩ ?_ (JDropH.refl _) ?_
    · (try simp only[↓jr,jw,seval,DL])
      exact ⟨SubB.v, SubB.v, SubB.sl rfl (SubBs.pure (encs_pur Con.pur _)), (by rw [e2]; exact SubB.canP f1 (encs_pur Con.pur _))⟩
    rintro ⟨k, tx, jx⟩ ⟨hk, hTx, hPx⟩
    simp only at hk hTx hPx
    have hnx := hPx.next
    (try simp only[↓jr,jw,seval,hnx])
    refine wq.intro (fun g1 => ?_) (fun g1 => ?_)
    · have hlt : k < (l).length := by omega
      obtain ⟨x, r, hd⟩ : ∃ c_ l_, List.drop k (l) = c_ :: l_ := ⟨_, _, List.drop_eq_getElem_cons hlt⟩
      have hd1 : List.drop (k + 1) (l) = r := by rw [← List.drop_drop, hd]; rfl
      have hmem : x ∈ l := List.mem_of_mem_drop (hd ▸ List.mem_cons_self)
      have hcn := Con.nodesL_mem hmem
      have hsp : Con.nodesL (l.take k) + x.nodes ≤ Con.nodesL l := by
        have e1 := preL_len l
        have e2 : preL l = preL (l.take k) ++ (pre x ++ preL (l.drop (k + 1))) := by
          conv => lhs; rw [← List.take_append_drop k l, hd]
          rw [preL_append, preL, hd1]
        rw [e2, List.length_append, List.length_append, preL_len, pre_len] at e1; omega
      have b1 := rsb_len (preL (l.take k)) ((a ++ [Con.mk op n l]))
      rw [preL_len] at b1
      have hoks : ∀ y ∈ rsb (a ++ [Con.mk op n l]) (preL (l.take k)), y.ok := rsb_ok _ _ (hok1) (preL_ok _ (oks_take' k hc4))
      (try simp only[↓jr,jw,seval,hd,hnx])
      refine wc.intro (by omega) ?_
      (try simp only[↓jr,jw,seval,hd,hnx])
      refine JCs.use (ih x hmem S tx _ (Pg.ext jx [.cells 27 (Con.mk op n l).enc, .cells 27 x.enc]) (hTx.eq rfl rfl) (fun t q => Nat.lt_of_lt_of_le (hS t q) hPx.tnext) (Con.oks_mem hc4 hmem) hoks (by omega)) ?_
      rintro o j' ⟨t3, j3, h1, h2, rfl, rfl⟩
      obtain ⟨j4, e, h3, e1, e2⟩ := h2.unbox
      rw [e]
      have h4 := h1.eq e1 e2
      have h5 := hPx.trans h3
      have hn4 := h3.next
      have hn5 := h5.next
      have ea : rsb (rsb (a ++ [Con.mk op n l]) (preL (l.take k))) (pre x) = rsb (a ++ [Con.mk op n l]) (preL (l.take (k + 1))) := by rw [take_sn hd, preL_append, rsb_append]; simp [preL]
      rw [ea] at h4 ⊢
      (try simp only[↓jr,jw,seval,hn5])
      refine wc.intro (R64_add hlt hc3) ?_
      (try simp only[↓jr,jw,seval,hn5])
      refine JNEXT.of (k + 1, t3, j4) ⟨by simp only; omega, h4, h5⟩ (by simp only; omega) ?_ ?_
      · (try simp only[↓jr,jw,seval,DL])
        exact ⟨SubB.v, SubB.v, SubB.sl rfl (SubBs.pure (encs_pur Con.pur _)), SubB.canP h4 (encs_pur Con.pur _)⟩
      · exact JDropH.next (TokExt.refl _) hn4 h3.tnext (fun o ob ho q => .inl (by rw [← h3.get o ho]; exact q)) ⟨.inl ⟨rfl, rfl⟩, True.intro⟩
    · (try simp only[↓jr,jw,seval,hnx])
      have ek : k = l.length := by omega
      subst ek
      rw [List.take_length] at hTx ⊢
      have ea : rsb (a ++ [Con.mk op n l]) (preL l) = rsb a (pre (Con.mk op n l)) := by simp only [pre, rsb]; rw [if_pos q0]
      rw [ea] at hTx ⊢
      exact JFIN.of (Y := .sl tx (rsb a (pre (Con.mk op n l))).length (encs Con.enc (rsb a (pre (Con.mk op n l))))) (JDropH.tokP hPx) (SubB.canP hTx (encs_pur Con.pur _)) ⟨tx, jx, hTx, hPx, rfl, rfl⟩
  · have hP0 := TokP.refl (j := j) hS
    (try simp only[↓jr,jw,seval,ints_le])
    refine JLOOP.of (σ := Nat × Tok × JH) (fun s => s.1 ≤ l.length ∧ CanP S s.2.2 s.2.1 3 (rsb a (preL (l.take s.1))).length ∧ TokP S j s.2.2) (fun s => l.length - s.1)
      (fun s => [(18, I64 s.1), (17, I64 l.length), (16, .sl .none l.length (encs Con.enc l)), (1, .sl s.2.1 (rsb a (preL (l.take s.1))).length (encs Con.enc (rsb a (preL (l.take s.1)))))])
      (fun s => Pg.ext s.2.2 [.cells 27 (Con.mk op n l).enc]) (0, tok, j) ⟨by omega, hT, hP0⟩ ?_ (JDropH.refl _) ?_
    · (try simp only[↓jr,jw,seval,DL])
      exact ⟨SubB.v, SubB.v, SubB.sl rfl (SubBs.pure (encs_pur Con.pur _)), SubB.canP hT (encs_pur Con.pur _)⟩
    rintro ⟨k, tx, jx⟩ ⟨hk, hTx, hPx⟩
    simp only at hk hTx hPx
    have hnx := hPx.next
    (try simp only[↓jr,jw,seval,hnx])
    refine wq.intro (fun g1 => ?_) (fun g1 => ?_)
    · have hlt : k < (l).length := by omega
      obtain ⟨x, r, hd⟩ : ∃ c_ l_, List.drop k (l) = c_ :: l_ := ⟨_, _, List.drop_eq_getElem_cons hlt⟩
      have hd1 : List.drop (k + 1) (l) = r := by rw [← List.drop_drop, hd]; rfl
      have hmem : x ∈ l := List.mem_of_mem_drop (hd ▸ List.mem_cons_self)
      have hcn := Con.nodesL_mem hmem
      have hsp : Con.nodesL (l.take k) + x.nodes ≤ Con.nodesL l := by
        have e1 := preL_len l
        have e2 : preL l = preL (l.take k) ++ (pre x ++ preL (l.drop (k + 1))) := by
          conv => lhs; rw [← List.take_append_drop k l, hd]
          rw [preL_append, preL, hd1]
        rw [e2, List.length_append, List.length_append, preL_len, pre_len] at e1; omega
      have b1 := rsb_len (preL (l.take k)) (a)
      rw [preL_len] at b1
      have hoks : ∀ y ∈ rsb a (preL (l.take k)), y.ok := rsb_ok _ _ (ha) (preL_ok _ (oks_take' k hc4))
      (try simp only[↓jr,jw,seval,hd,hnx])
      refine wc.intro (by omega) ?_
      (try simp only[↓jr,jw,seval,hd,hnx])
      refine JCs.use (ih x hmem S tx _ (Pg.ext jx [.cells 27 (Con.mk op n l).enc, .cells 27 x.enc]) (hTx.eq rfl rfl) (fun t q => Nat.lt_of_lt_of_le (hS t q) hPx.tnext) (Con.oks_mem hc4 hmem) hoks (by omega)) ?_
      rintro o j' ⟨t3, j3, h1, h2, rfl, rfl⟩
      obtain ⟨j4, e, h3, e1, e2⟩ := h2.unbox
      rw [e]
      have h4 := h1.eq e1 e2
      have h5 := hPx.trans h3
      have hn4 := h3.next
      have hn5 := h5.next
      have ea : rsb (rsb a (preL (l.take k))) (pre x) = rsb a (preL (l.take (k + 1))) := by rw [take_sn hd, preL_append, rsb_append]; simp [preL]
      rw [ea] at h4 ⊢
      (try simp only[↓jr,jw,seval,hn5])
      refine wc.intro (R64_add hlt hc3) ?_
      (try simp only[↓jr,jw,seval,hn5])
      refine JNEXT.of (k + 1, t3, j4) ⟨by simp only; omega, h4, h5⟩ (by simp only; omega) ?_ ?_
      · (try simp only[↓jr,jw,seval,DL])
        exact ⟨SubB.v, SubB.v, SubB.sl rfl (SubBs.pure (encs_pur Con.pur _)), SubB.canP h4 (encs_pur Con.pur _)⟩
      · exact JDropH.next (TokExt.refl _) hn4 h3.tnext (fun o ob ho q => .inl (by rw [← h3.get o ho]; exact q)) ⟨.inl ⟨rfl, rfl⟩, True.intro⟩
    · (try simp only[↓jr,jw,seval,hnx])
      have ek : k = l.length := by omega
      subst ek
      rw [List.take_length] at hTx ⊢
      have ea : rsb a (preL l) = rsb a (pre (Con.mk op n l)) := by simp only [pre, rsb]; rw [if_neg q0]
      rw [ea] at hTx ⊢
      exact JFIN.of (Y := .sl tx (rsb a (pre (Con.mk op n l))).length (encs Con.enc (rsb a (pre (Con.mk op n l))))) (JDropH.tokP hPx) (SubB.canP hTx (encs_pur Con.pur _)) ⟨tx, jx, hTx, hPx, rfl, rfl⟩
end
end Go.Proofs.YtcajjicdbphkpaaGreatDoor.Pg
