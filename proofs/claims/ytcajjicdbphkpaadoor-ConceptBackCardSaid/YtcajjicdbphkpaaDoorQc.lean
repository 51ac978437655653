/-
  Normal forms.
-/
import Derived.Test.YtcajjicdbphkpaaDoorQb
set_option linter.unusedVariables false
set_option linter.unusedSimpArgs false
set_option maxRecDepth 100000
set_option maxHeartbeats 8000000
namespace Go.Proofs.YtcajjicdbphkpaaDoor.Pg
open Go
def dualI (o : Int) : Int := if o = 1 then 2 else if o = 2 then 1 else if o = 4 then 5 else if o = 5 then 4 else if o = 6 then 7 else if o = 7 then 6 else 0
mutual
def nnf : Con → Bool → Con
  | .mk o n l, no => if o = 0 then (if no then .mk 3 0 [.mk 0 n []] else .mk 0 n []) else if o = 3 then nnfH l (!no) else .mk (if no then dualI o else o) n (nnfs l no)
def nnfH : List Con → Bool → Con
  | [], _ => .mk 0 0 []
  | c :: _, no => nnf c no
def nnfs : List Con → Bool → List Con
  | [], _ => []
  | c :: l, no => nnf c no :: nnfs l no
end
theorem nnf_mk {o n : Int} {l : List Con} {no : Bool} (h : ¬ o = 0) (h' : ¬ o = 3) : nnf (.mk o n l) no = .mk (if no then dualI o else o) n (nnfs l no) := by simp only [nnf, if_neg h, if_neg h']
theorem nnfs_append {no : Bool} : ∀ {l r : List Con}, nnfs (l ++ r) no = nnfs l no ++ nnfs r no
  | [], r => rfl
  | c :: l, r => by simp only [List.cons_append, nnfs, nnfs_append]
theorem nnfs_len {no : Bool} : ∀ {l : List Con}, (nnfs l no).length = l.length
  | [] => rfl
  | c :: l => by simp only [nnfs, List.length_cons, nnfs_len]
theorem shapedL_mem {nc nr : Nat} : ∀ {l : List Con}, shapedL nc nr l = true → ∀ {c : Con}, c ∈ l → shaped nc nr c = true
  | d :: l, h, c, m => by
    simp only [shapedL, Bool.and_eq_true] at h
    rcases List.mem_cons.1 m with rfl | m
    · exact h.1
    · exact shapedL_mem h.2 m
theorem arity_in {o : Int} {k : Nat} (h : arity o = k) : 0 ≤ o ∧ o ≤ 7 := by
  by_cases q : o < 0 ∨ 7 < o
  · rw [arity_ne q] at h; omega
  · omega
section
variable {m : Int} {G : Nat → Option (List AV)}
theorem GGd : GG m 0 = some [I64 0, I64 2, I64 1, I64 0, I64 5, I64 4, I64 7, I64 6] := rfl
theorem duals_at {op : Int} (h0 : 0 ≤ op) (h1 : op ≤ 7) : icut none [I64 0, I64 2, I64 1, I64 0, I64 5, I64 4, I64 7, I64 6] op.toNat = some (I64 (dualI op)) := by
  have : op = 0 ∨ op = 1 ∨ op = 2 ∨ op = 3 ∨ op = 4 ∨ op = 5 ∨ op = 6 ∨ op = 7 := by omega
  rcases this with rfl | rfl | rfl | rfl | rfl | rfl | rfl | rfl <;> rfl
theorem s_Nnf (nc nr : Nat) : ∀ (c : Con) (no : Bool) (j : JH), c.ok → shaped nc nr c = true → c.nodes ≤ 1000000 → JC Tryd.prog (GG m) 54 [.agg c.enc, BOO no] j (RET (.agg (nnf c no).enc) j) := by
  intro c
  induction c using Con.ind with
  | h o n l ih =>
  intro no j hc hs hm
  simp only [Con.ok] at hc
  obtain ⟨hc1, hc2, hc3, hc4⟩ := hc
  simp only [Con.nodes] at hm
  have hll : l.length ≤ Con.nodesL l := Con.nodesL_len l
  obtain ⟨⟨hs1, hs3, hs4, hs5, hs6⟩, hs2⟩ : SH nc nr o n l.length ∧ shapedL nc nr l = true := by rw [← shaped_mk]; exact hs
  have har := arity_in hs1
  refine JC.run hmix c54 (by exact k54) ?_
  (try simp only[↓jr,jw,seval,GGd,ir54])
  refine wq.intro (fun g1o => ?_) (fun g1o => ?_)
  · (try simp only[↓jr,jw,seval,GGd])
    refine ww.intro (fun hno => ?_) (fun hno => ?_)
    · (try simp only[↓jr,jw,seval,GGd])
      refine JFIN.rb ?_
      subst hno; subst g1o
      exact SubB.agg ⟨SubB.v, SubB.v, SubB.sl rfl ⟨SubB.v, SubB.v, SubB.sl rfl True.intro, True.intro⟩, True.intro⟩
    · (try simp only[↓jr,jw,seval,GGd])
      refine JFIN.rb ?_
      subst hno; subst g1o
      exact SubB.agg ⟨SubB.v, SubB.v, SubB.sl rfl True.intro, True.intro⟩
  (try simp only[↓jr,jw,seval,GGd])
  refine wq.intro (fun g3o => ?_) (fun g3o => ?_)
  · have hl1 : l.length = 1 := by subst g3o; simp [arity] at hs1; omega
    obtain ⟨c, rfl⟩ : ∃ c, l = [c] := by
      cases l with
      | nil => simp at hl1
      | cons c r => cases r with | nil => exact ⟨c, rfl⟩ | cons _ _ => simp at hl1
    (try simp only[↓jr,jw,seval,GGd,List.drop_zero])
    refine JCs.ret (ih c (by simp) (!no) _ (Con.oks_mem hc4 (by simp)) (shapedL_mem hs2 (by simp)) (by simp only [Con.nodesL] at hm; omega)) ?_
    (try simp only[↓jr,jw,seval,GGd])
    refine JFIN.rb ?_
    subst g3o
    exact SubB.pure (by simp only [AV.pure]; exact Con.pur _)
  (try simp only[↓jr,jw,seval,GGd])
  refine ww.intro (fun hno => ?_) (fun hno => ?_)
  · subst hno
    (try simp only[↓jr,jw,seval,GGd])
    refine wc.intro (by omega) ?_
    (try simp only[↓jr,jw,seval,GGd,duals_at har.1 har.2])
    refine JLOOP.of (σ := Nat × Tok × JH) (fun s => s.1 ≤ l.length ∧ TokExt j s.2.2 ∧ CanApp j s.2.2 s.2.1 3 (nnfs (l.take s.1) true).length) (fun s => l.length - s.1)
      (fun s => [(44, I64 s.1), (43, I64 l.length), (42, .sl .none l.length (encs Con.enc l)), (1, BOO true), (4, .ptr (pid j.next 1) 0), (5, .ptr (pid j.next 2) 0)])
      (fun s => ext s.2.2 [.cells 27 (Con.mk o n l).enc, .cells 27 zC, .cells 27 (oC (dualI o) n s.2.1 (nnfs (l.take s.1) true))]) (0, .nil, j) ⟨Nat.zero_le _, TokExt.refl _, CanApp.nil⟩ ?_ (JDropH.refl _) ?_
    · ((try simp only[↓jr,jw,seval,GGd,DL]) <;> exact sbq)
    rintro ⟨k, tk, jx⟩ ⟨hk, ht, hc⟩
    simp only at hk ht hc
    (try simp only[↓jr,jw,seval,GGd,ht.next])
    refine wq.intro (fun g1 => ?_) (fun g1 => ?_)
    · have hlt : k < (l).length := by omega
      obtain ⟨x, r, hd⟩ : ∃ c_ l_, List.drop k (l) = c_ :: l_ := ⟨_, _, List.drop_eq_getElem_cons hlt⟩
      have hd1 : List.drop (k + 1) (l) = r := by rw [← List.drop_drop, hd]; rfl
      have hmem : x ∈ l := List.mem_of_mem_drop (hd ▸ List.mem_cons_self)
      have hcn := Con.nodesL_mem hmem
      have htk := take_one hd
      have hlk : (nnfs (l.take k) true).length = k := by rw [nnfs_len, List.length_take]; omega
      (try simp only[↓jr,jw,seval,GGd,ht.next,hd])
      refine wc.intro (by omega) ?_
      (try simp only[↓jr,jw,seval,GGd,ht.next,hd])
      refine JDC.use (ih x hmem true _ (Con.oks_mem hc4 hmem) (shapedL_mem hs2 hmem) (by omega)) ?_
      (try simp only[↓jr,jw,seval,GGd,ht.next])
      refine JAPP.can' hc.push (ht.push 1) (by rw [encs_length Con.len]) (by rw [Con.len]) d_con9 (by omega) (by omega) ?_
      intro tok1 j1 hcan ht3 hle
      have hle' : jx.tnext ≤ j1.tnext := Nat.le_trans (Nat.le_succ _) hle
      (try simp only[↓jr,jw,seval,GGd,ht3.next])
      refine JDRAW.oc (by (try simp only[↓jr,jw,seval,GGd,jq,qe2,qe3,ht.next,ht3.next,ext_next,ext_tnext,List.length_cons,List.length_nil]) <;> (have h1 := ht.next; have h2 := ht3.next; have h4 := @pushTok_next jx 1; have h3 := @pushTok_tnext jx 1; repeat' (first | exact trivial | refine And.intro ?_ ?_ | exact Nat.le_refl _ | omega | (unfold pid; omega) | (simp only [h1, h2, h4]; done)))) ?_
      (try simp only[↓jr,jw,seval,GGd,ht3.next])
      refine wc.intro (R64_add hlt hc3) ?_
      (try simp only[↓jr,jw,seval,GGd,ht3.next])
      have e1 : nnfs (l.take (k + 1)) true = nnfs (l.take k) true ++ [nnf x true] := by rw [htk, nnfs_append]; rfl
      have e2 : (nnfs (l.take (k + 1)) true).length = (nnfs (l.take k) true).length + 1 := by rw [e1]; simp
      have e3 : encs Con.enc (nnfs (l.take k) true) ++ (nnf x true).enc = encs Con.enc (nnfs (l.take (k + 1)) true) := by rw [e1, encs_append]; simp [encs]
      refine JNEXT.of (k + 1, tok1, j1) ⟨by simp only; omega, ht3, by simp only [e2]; exact hcan⟩ (by simp only; omega) ?_ (JDropH.nextT ht ht3 (TokExt.refl _) hle' ⟨.inl ⟨rfl, rfl⟩, .inl ⟨rfl, rfl⟩, .inr ⟨rfl, ?_⟩, True.intro⟩)
      · (try simp only[↓jr,jw,seval,GGd,DL])
        exact ⟨SubB.v, SubB.v, SubB.sl rfl (SubBs.pure (encs_pur Con.pur _)), SubB.v, SubB.ptr (by have := ht3.next; unfold pid; omega), SubB.ptr (by have := ht3.next; unfold pid; omega)⟩
      · simp only [oC, e2, ← e3]
        exact ⟨SubB.v, SubB.v, SubB.can hcan (by rw [pures_append, encs_pur Con.pur, Con.pur]; rfl), True.intro⟩
    · (try simp only[↓jr,jw,seval,GGd,ht.next])
      have ek : k = l.length := by omega
      subst ek
      rw [List.take_length]
      refine JFIN.ret ((JDropH.back ht).of_ext) ?_
      rw [nnf_mk g1o g3o]
      exact SubB.agg oC_enc
  · subst hno
    (try simp only[↓jr,jw,seval,GGd])
    refine JLOOP.of (σ := Nat × Tok × JH) (fun s => s.1 ≤ l.length ∧ TokExt j s.2.2 ∧ CanApp j s.2.2 s.2.1 3 (nnfs (l.take s.1) false).length) (fun s => l.length - s.1)
      (fun s => [(44, I64 s.1), (43, I64 l.length), (42, .sl .none l.length (encs Con.enc l)), (1, BOO false), (4, .ptr (pid j.next 1) 0), (5, .ptr (pid j.next 2) 0)])
      (fun s => ext s.2.2 [.cells 27 (Con.mk o n l).enc, .cells 27 zC, .cells 27 (oC (o) n s.2.1 (nnfs (l.take s.1) false))]) (0, .nil, j) ⟨Nat.zero_le _, TokExt.refl _, CanApp.nil⟩ ?_ (JDropH.refl _) ?_
    · ((try simp only[↓jr,jw,seval,GGd,DL]) <;> exact sbq)
    rintro ⟨k, tk, jx⟩ ⟨hk, ht, hc⟩
    simp only at hk ht hc
    (try simp only[↓jr,jw,seval,GGd,ht.next])
    refine wq.intro (fun g1 => ?_) (fun g1 => ?_)
    · have hlt : k < (l).length := by omega
      obtain ⟨x, r, hd⟩ : ∃ c_ l_, List.drop k (l) = c_ :: l_ := ⟨_, _, List.drop_eq_getElem_cons hlt⟩
      have hd1 : List.drop (k + 1) (l) = r := by rw [← List.drop_drop, hd]; rfl
      have hmem : x ∈ l := List.mem_of_mem_drop (hd ▸ List.mem_cons_self)
      have hcn := Con.nodesL_mem hmem
      have htk := take_one hd
      have hlk : (nnfs (l.take k) false).length = k := by rw [nnfs_len, List.length_take]; omega
      (try simp only[↓jr,jw,seval,GGd,ht.next,hd])
      refine wc.intro (by omega) ?_
      (try simp only[↓jr,jw,seval,GGd,ht.next,hd])
      refine JDC.use (ih x hmem false _ (Con.oks_mem hc4 hmem) (shapedL_mem hs2 hmem) (by omega)) ?_
      (try simp only[↓jr,jw,seval,GGd,ht.next])
      refine JAPP.can' hc.push (ht.push 1) (by rw [encs_length Con.len]) (by rw [Con.len]) d_con9 (by omega) (by omega) ?_
      intro tok1 j1 hcan ht3 hle
      have hle' : jx.tnext ≤ j1.tnext := Nat.le_trans (Nat.le_succ _) hle
      (try simp only[↓jr,jw,seval,GGd,ht3.next])
      refine JDRAW.oc (by (try simp only[↓jr,jw,seval,GGd,jq,qe2,qe3,ht.next,ht3.next,ext_next,ext_tnext,List.length_cons,List.length_nil]) <;> (have h1 := ht.next; have h2 := ht3.next; have h4 := @pushTok_next jx 1; have h3 := @pushTok_tnext jx 1; repeat' (first | exact trivial | refine And.intro ?_ ?_ | exact Nat.le_refl _ | omega | (unfold pid; omega) | (simp only [h1, h2, h4]; done)))) ?_
      (try simp only[↓jr,jw,seval,GGd,ht3.next])
      refine wc.intro (R64_add hlt hc3) ?_
      (try simp only[↓jr,jw,seval,GGd,ht3.next])
      have e1 : nnfs (l.take (k + 1)) false = nnfs (l.take k) false ++ [nnf x false] := by rw [htk, nnfs_append]; rfl
      have e2 : (nnfs (l.take (k + 1)) false).length = (nnfs (l.take k) false).length + 1 := by rw [e1]; simp
      have e3 : encs Con.enc (nnfs (l.take k) false) ++ (nnf x false).enc = encs Con.enc (nnfs (l.take (k + 1)) false) := by rw [e1, encs_append]; simp [encs]
      refine JNEXT.of (k + 1, tok1, j1) ⟨by simp only; omega, ht3, by simp only [e2]; exact hcan⟩ (by simp only; omega) ?_ (JDropH.nextT ht ht3 (TokExt.refl _) hle' ⟨.inl ⟨rfl, rfl⟩, .inl ⟨rfl, rfl⟩, .inr ⟨rfl, ?_⟩, True.intro⟩)
      · (try simp only[↓jr,jw,seval,GGd,DL])
        exact ⟨SubB.v, SubB.v, SubB.sl rfl (SubBs.pure (encs_pur Con.pur _)), SubB.v, SubB.ptr (by have := ht3.next; unfold pid; omega), SubB.ptr (by have := ht3.next; unfold pid; omega)⟩
      · simp only [oC, e2, ← e3]
        exact ⟨SubB.v, SubB.v, SubB.can hcan (by rw [pures_append, encs_pur Con.pur, Con.pur]; rfl), True.intro⟩
    · (try simp only[↓jr,jw,seval,GGd,ht.next])
      have ek : k = l.length := by omega
      subst ek
      rw [List.take_length]
      refine JFIN.ret ((JDropH.back ht).of_ext) ?_
      rw [nnf_mk g1o g3o]
      exact SubB.agg oC_enc
def ir89 : IFn := ⟨14, [⟨2, none⟩], (.seq (.reg [oA 2 (.mov (kI 0))]) (.seq (.seq (.reg [oA 3 (kM 0)]) (.block 0 (.seq (.reg [oA 5 (.bin .eql (.r 3) (kI 1)), oA 4 (kM 5)]) (.cond (.r 4) (.seq (.reg [oA 2 (.mov (kI 2))]) .ret) (.seq (.reg [oA 7 (.bin .eql (.r 3) (kI 2)), oA 6 (kM 7)]) (.cond (.r 6) (.seq (.reg [oA 2 (.mov (kI 1))]) .ret) (.seq (.reg [oA 9 (.bin .eql (.r 3) (kI 4)), oA 8 (kM 9)]) (.cond (.r 8) (.seq (.reg [oA 2 (.mov (kI 5))]) .ret) (.seq (.reg [oA 11 (.bin .eql (.r 3) (kI 5)), oA 10 (kM 11)]) (.cond (.r 10) (.seq (.reg [oA 2 (.mov (kI 4))]) .ret) (.seq (.reg [oA 13 (.bin .eql (.r 3) (kI 6)), oA 12 (kM 13)]) (.cond (.r 12) (.seq (.reg [oA 2 (.mov (kI 7))]) .ret) .skip)))))))))))) (.seq (.reg [oA 2 (.mov (kI 6))]) .ret)))⟩
theorem c89 : cfunc Tryd.prog 89 = some ir89 := by kernel_rfl
theorem k89 : okIR (max 1 ir89.n) ir89.ir = true := by decide +kernel
def ir86 : IFn := ⟨11, [⟨6, (some (some 3))⟩], (.seq (.reg [oA 6 (.alloc 27 [.v (.int .i64 0), .v (.int .i64 0), .sl .nil 0 []])]) (.seq (.reg [oA 7 (kM 0), oA 8 (kM 1), oA 9 (kM 2), oA 10 (.build [.v (.int .i64 0), .v (.int .i64 0), .sl .nil 0 []] [(0, (1, .r 7)), (1, (1, .r 8)), (2, (1, .r 9))]), oN (.store 3 (.r 6) (.r 10))]) .ret))⟩
theorem c86 : cfunc Tryd.prog 86 = some ir86 := by kernel_rfl
theorem k86 : okIR (max 3 ir86.n) ir86.ir = true := by decide +kernel
def ir55 : IFn := ⟨57, [⟨4, (some (some 3))⟩], (.seq (.reg [oA 2 (.box 27 (.r 0)), oA 4 (.alloc 27 [.v (.int .i64 0), .v (.int .i64 0), .sl .nil 0 []])]) (.seq (.reg [oA 9 (.fadr 0 (.r 2)), oL 10 9 none, oA 5 (kM 10)]) (.seq (.block 0 (.seq (.reg [oA 12 (kM 5), oA 13 (.bin .eql (.r 12) (kI 3)), oA 11 (kM 13)]) (.cond (.r 11) (.seq (.reg [oA 14 (.fadr 2 (.r 2)), oL 15 14 none, oA 16 (.iasl 3 (.r 15) (kI 0)), oL 17 16 (some 3), oA 18 (kM 1), oA 19 (.not (.r 18)), oA 20 (.call 55 [.r 17, .r 19]), oN (.store 3 (.r 4) (.r 20))]) .ret) (.seq (.reg [oA 22 (kM 5), oA 23 (.bin .eql (.r 22) (kI 0)), oA 24 (kM 23), ⟨(some 25), (some ((24, true))), none, (kM 1)⟩, oA 26 (.pick (.r 24) (.r 25) (kB false)), oA 21 (kM 26)]) (.cond (.r 21) (.seq (.reg [oA 27 (.fadr 1 (.r 2)), oL 28 27 none, oA 29 (.call 86 [.k (.v (.int .i64 0)), .r 28, .k (.sl .nil 0 [])]), oA 30 (.bsl 1 3 [.v (.int .i64 0), .v (.int .i64 0), .sl .nil 0 []] [(0, (3, .r 29))]), oA 31 (.call 86 [.k (.v (.int .i64 3)), .k (.v (.int .i64 0)), .r 30]), oN (.store 3 (.r 4) (.r 31))]) .ret) (.seq (.reg [oA 33 (kM 1), oA 32 (kM 33)]) (.cond (.r 32) (.reg [oA 34 (kM 5), oT 35 34 (.call 89 [.r 34]), oA 5 (kM 35)]) .skip))))))) (.seq (.reg [oA 36 (kM 5), oA 37 (.fadr 1 (.r 2)), oL 38 37 none, oA 39 (.build [.v (.int .i64 0), .v (.int .i64 0), .sl .nil 0 []] [(0, (1, .r 36)), (1, (1, .r 38))]), oA 6 (.alloc 27 [.v (.int .i64 0), .v (.int .i64 0), .sl .nil 0 []]), oN (.store 3 (.r 6) (.r 39))]) (.seq (.seq (.reg [oA 40 (.fadr 2 (.r 2)), oL 41 40 none, oT 42 41 (.lenl (.r 41)), oA 43 (.mov (kI 0))]) (.block 1 (.loop (.seq (.reg [oA 44 (.bin .lss (.r 43) (.r 42))]) (.seq (.cond (.r 44) .skip (.exit 1)) (.seq (.block 2 (.seq (.reg [oA 45 (.iasl 3 (.r 41) (.r 43)), oL 46 45 (some 3), oA 8 (.alloc 27 [.v (.int .i64 0), .v (.int .i64 0), .sl .nil 0 []]), oN (.store 3 (.r 8) (.r 46))]) (.draw [oA 47 (.fadr 2 (.r 6)), oL 48 47 none, oL 49 8 (some 3), oA 50 (kM 1), oA 51 (.call 55 [.r 49, .r 50]), oA 52 (.bsl 1 3 [.v (.int .i64 0), .v (.int .i64 0), .sl .nil 0 []] [(0, (3, .r 51))]), oA 53 (.app 3 40 (.r 48) (.r 52)), oA 54 (.fadr 2 (.r 6)), oN (.store 1 (.r 54) (.r 53))] [(1, 4)]))) (.reg [oA 55 (.bin .add (.r 43) (kI 1)), oA 43 (kM 55)]))))))) (.seq (.reg [oL 56 6 (some 3), oN (.store 3 (.r 4) (.r 56))]) .ret))))))⟩
theorem c55 : cfunc Tryd.prog 55 = some ir55 := by kernel_rfl
theorem k55 : okIR (max 2 ir55.n) ir55.ir = true := by decide +kernel
theorem s_dual (o : Int) (h0 : 0 ≤ o) (h7 : o ≤ 7) (hn : ¬ o = 0) (h3 : ¬ o = 3) (j : JH) : JC Tryd.prog G 89 [I64 o] j (RET (I64 (dualI o)) j) := by
  refine JC.run hmix c89 (by exact k89) ?_
  (try simp only[↓jr,jw,seval,ir89])
  repeat' ((first | refine wq.intro (fun _ => ?_) (fun _ => ?_) | refine ww.intro (fun _ => ?_) (fun _ => ?_) | refine wc.intro (by first | omega | (unfold R64; omega) | trivial) ?_ | refine wr.in (by unfold R64; omega) ?_) <;> first | contradiction | (try simp only[↓jr,jw,seval]))
  all_goals
    refine JFIN.rb ?_
    have e : o = 1 ∨ o = 2 ∨ o = 4 ∨ o = 5 ∨ o = 6 ∨ o = 7 := by omega
    rcases e with rfl | rfl | rfl | rfl | rfl | rfl <;> first | exact SubB.v | contradiction | (exfalso; omega)
theorem s_Of (o n : Int) (l : List Con) (tok : Tok) (j : JH) : JC Tryd.prog G 86 [I64 o, I64 n, .sl tok l.length (encs Con.enc l)] j (RET (.agg (Con.mk o n l).enc) j) := by
  refine JC.run hmix c86 (by exact k86) ?_
  (try simp only[↓jr,jw,seval,ir86])
  refine JFIN.rb ?_
  rw [Con.enc_eq, Con.encs_eq]
  exact SubB.agg ⟨SubB.v, SubB.v, SubB.sl rfl (SubBs.pure (encs_pur Con.pur _)), True.intro⟩
theorem s_Form (nc nr : Nat) : ∀ (c : Con) (no : Bool) (j : JH), c.ok → shaped nc nr c = true → c.nodes ≤ 1000000 → JC Tryd.prog G 55 [.agg c.enc, BOO no] j (RET (.agg (nnf c no).enc) j) := by
  intro c
  induction c using Con.ind with
  | h o n l ih =>
  intro no j hc hs hm
  simp only [Con.ok] at hc
  obtain ⟨hc1, hc2, hc3, hc4⟩ := hc
  simp only [Con.nodes] at hm
  have hll : l.length ≤ Con.nodesL l := Con.nodesL_len l
  obtain ⟨⟨hs1, hs3, hs4, hs5, hs6⟩, hs2⟩ : SH nc nr o n l.length ∧ shapedL nc nr l = true := by rw [← shaped_mk]; exact hs
  have har := arity_in hs1
  refine JC.run hmix c55 (by exact k55) ?_
  (try simp only[↓jr,jw,seval,ir55])
  refine wq.intro (fun g3o => ?_) (fun g3o => ?_)
  · have hl1 : l.length = 1 := by subst g3o; simp [arity] at hs1; omega
    obtain ⟨c, rfl⟩ : ∃ c, l = [c] := by
      cases l with
      | nil => simp at hl1
      | cons c r => cases r with | nil => exact ⟨c, rfl⟩ | cons _ _ => simp at hl1
    (try simp only[↓jr,jw,seval,List.drop_zero])
    refine JCs.ret (ih c (by simp) (!no) _ (Con.oks_mem hc4 (by simp)) (shapedL_mem hs2 (by simp)) (by simp only [Con.nodesL] at hm; omega)) ?_
    (try simp only[↓jr,jw,seval])
    refine JFIN.rb ?_
    subst g3o
    exact SubB.pure (by simp only [AV.pure]; exact Con.pur _)
  (try simp only[↓jr,jw,seval])
  refine wq.intro (fun g1o => ?_) (fun g1o => ?_)
  · (try simp only[↓jr,jw,seval])
    refine ww.intro (fun hno => ?_) (fun hno => ?_)
    · (try simp only[↓jr,jw,seval])
      refine JCs.ret (s_Of 0 n [] .nil _) ?_
      (try simp only[↓jr,jw,seval])
      refine JCs.ret (s_Of 3 0 [.mk 0 n []] (.own j.tnext 0 3) _) ?_
      (try simp only[↓jr,jw,seval])
      refine JFIN.rb ?_
      subst hno; subst g1o
      exact SubB.pure (by simp only [AV.pure]; exact Con.pur _)
    · subst hno
      (try simp only[↓jr,jw,seval])
      have hl0 : l = [] := by subst g1o; simp [arity] at hs1; exact List.eq_nil_of_length_eq_zero (by omega)
      have hnn : nnf (.mk o n l) false = .mk o n (nnfs l false) := by subst g1o; subst hl0; rfl
      refine JLOOP.of (σ := Nat × Tok × JH) (fun s => s.1 ≤ l.length ∧ TokExt j s.2.2 ∧ CanApp j s.2.2 s.2.1 3 (nnfs (l.take s.1) false).length) (fun s => l.length - s.1)
        (fun s => [(43, I64 s.1), (42, I64 l.length), (41, .sl .none l.length (encs Con.enc l)), (1, BOO false), (4, .ptr (pid j.next 1) 0), (6, .ptr (pid j.next 2) 0)])
        (fun s => ext s.2.2 [.cells 27 (Con.mk o n l).enc, .cells 27 zC, .cells 27 (oC (o) n s.2.1 (nnfs (l.take s.1) false))]) (0, .nil, j) ⟨Nat.zero_le _, TokExt.refl _, CanApp.nil⟩ ?_ (JDropH.refl _) ?_
      · ((try simp only[↓jr,jw,seval,DL]) <;> exact sbq)
      rintro ⟨k, tk, jx⟩ ⟨hk, ht, hc⟩
      simp only at hk ht hc
      (try simp only[↓jr,jw,seval,ht.next])
      refine wq.intro (fun g1 => ?_) (fun g1 => ?_)
      · have hlt : k < (l).length := by omega
        obtain ⟨x, r, hd⟩ : ∃ c_ l_, List.drop k (l) = c_ :: l_ := ⟨_, _, List.drop_eq_getElem_cons hlt⟩
        have hd1 : List.drop (k + 1) (l) = r := by rw [← List.drop_drop, hd]; rfl
        have hmem : x ∈ l := List.mem_of_mem_drop (hd ▸ List.mem_cons_self)
        have hcn := Con.nodesL_mem hmem
        have htk := take_one hd
        have hlk : (nnfs (l.take k) false).length = k := by rw [nnfs_len, List.length_take]; omega
        (try simp only[↓jr,jw,seval,ht.next,hd])
        refine wc.intro (by omega) ?_
        (try simp only[↓jr,jw,seval,ht.next,hd])
        refine JDC.use (ih x hmem false _ (Con.oks_mem hc4 hmem) (shapedL_mem hs2 hmem) (by omega)) ?_
        (try simp only[↓jr,jw,seval,ht.next])
        refine JAPP.can' hc.push (ht.push 1) (by rw [encs_length Con.len]) (by rw [Con.len]) d_con9 (by omega) (by omega) ?_
        intro tok1 j1 hcan ht3 hle
        have hle' : jx.tnext ≤ j1.tnext := Nat.le_trans (Nat.le_succ _) hle
        (try simp only[↓jr,jw,seval,ht3.next])
        refine JDRAW.oc (by (try simp only[↓jr,jw,seval,jq,qe2,qe3,ht.next,ht3.next,ext_next,ext_tnext,List.length_cons,List.length_nil]) <;> (have h1 := ht.next; have h2 := ht3.next; have h4 := @pushTok_next jx 1; have h3 := @pushTok_tnext jx 1; repeat' (first | exact trivial | refine And.intro ?_ ?_ | exact Nat.le_refl _ | omega | (unfold pid; omega) | (simp only [h1, h2, h4]; done)))) ?_
        (try simp only[↓jr,jw,seval,ht3.next])
        refine wc.intro (R64_add hlt hc3) ?_
        (try simp only[↓jr,jw,seval,ht3.next])
        have e1 : nnfs (l.take (k + 1)) false = nnfs (l.take k) false ++ [nnf x false] := by rw [htk, nnfs_append]; rfl
        have e2 : (nnfs (l.take (k + 1)) false).length = (nnfs (l.take k) false).length + 1 := by rw [e1]; simp
        have e3 : encs Con.enc (nnfs (l.take k) false) ++ (nnf x false).enc = encs Con.enc (nnfs (l.take (k + 1)) false) := by rw [e1, encs_append]; simp [encs]
        refine JNEXT.of (k + 1, tok1, j1) ⟨by simp only; omega, ht3, by simp only [e2]; exact hcan⟩ (by simp only; omega) ?_ (JDropH.nextT ht ht3 (TokExt.refl _) hle' ⟨.inl ⟨rfl, rfl⟩, .inl ⟨rfl, rfl⟩, .inr ⟨rfl, ?_⟩, True.intro⟩)
        · (try simp only[↓jr,jw,seval,DL])
          exact ⟨SubB.v, SubB.v, SubB.sl rfl (SubBs.pure (encs_pur Con.pur _)), SubB.v, SubB.ptr (by have := ht3.next; unfold pid; omega), SubB.ptr (by have := ht3.next; unfold pid; omega)⟩
        · simp only [oC, e2, ← e3]
          exact ⟨SubB.v, SubB.v, SubB.can hcan (by rw [pures_append, encs_pur Con.pur, Con.pur]; rfl), True.intro⟩
      · (try simp only[↓jr,jw,seval,ht.next])
        have ek : k = l.length := by omega
        subst ek
        rw [List.take_length]
        refine JFIN.ret ((JDropH.back ht).of_ext) ?_
        rw [hnn]
        exact SubB.agg oC_enc
  (try simp only[↓jr,jw,seval])
  refine ww.intro (fun hno => ?_) (fun hno => ?_)
  · subst hno
    (try simp only[↓jr,jw,seval])
    refine JCs.ret (s_dual o har.1 har.2 g1o g3o _) ?_
    (try simp only[↓jr,jw,seval])
    refine JLOOP.of (σ := Nat × Tok × JH) (fun s => s.1 ≤ l.length ∧ TokExt j s.2.2 ∧ CanApp j s.2.2 s.2.1 3 (nnfs (l.take s.1) true).length) (fun s => l.length - s.1)
      (fun s => [(43, I64 s.1), (42, I64 l.length), (41, .sl .none l.length (encs Con.enc l)), (1, BOO true), (4, .ptr (pid j.next 1) 0), (6, .ptr (pid j.next 2) 0)])
      (fun s => ext s.2.2 [.cells 27 (Con.mk o n l).enc, .cells 27 zC, .cells 27 (oC (dualI o) n s.2.1 (nnfs (l.take s.1) true))]) (0, .nil, j) ⟨Nat.zero_le _, TokExt.refl _, CanApp.nil⟩ ?_ (JDropH.refl _) ?_
    · ((try simp only[↓jr,jw,seval,DL]) <;> exact sbq)
    rintro ⟨k, tk, jx⟩ ⟨hk, ht, hc⟩
    simp only at hk ht hc
    (try simp only[↓jr,jw,seval,ht.next])
    refine wq.intro (fun g1 => ?_) (fun g1 => ?_)
    · have hlt : k < (l).length := by omega
      obtain ⟨x, r, hd⟩ : ∃ c_ l_, List.drop k (l) = c_ :: l_ := ⟨_, _, List.drop_eq_getElem_cons hlt⟩
      have hd1 : List.drop (k + 1) (l) = r := by rw [← List.drop_drop, hd]; rfl
      have hmem : x ∈ l := List.mem_of_mem_drop (hd ▸ List.mem_cons_self)
      have hcn := Con.nodesL_mem hmem
      have htk := take_one hd
      have hlk : (nnfs (l.take k) true).length = k := by rw [nnfs_len, List.length_take]; omega
      (try simp only[↓jr,jw,seval,ht.next,hd])
      refine wc.intro (by omega) ?_
      (try simp only[↓jr,jw,seval,ht.next,hd])
      refine JDC.use (ih x hmem true _ (Con.oks_mem hc4 hmem) (shapedL_mem hs2 hmem) (by omega)) ?_
      (try simp only[↓jr,jw,seval,ht.next])
      refine JAPP.can' hc.push (ht.push 1) (by rw [encs_length Con.len]) (by rw [Con.len]) d_con9 (by omega) (by omega) ?_
      intro tok1 j1 hcan ht3 hle
      have hle' : jx.tnext ≤ j1.tnext := Nat.le_trans (Nat.le_succ _) hle
      (try simp only[↓jr,jw,seval,ht3.next])
      refine JDRAW.oc (by (try simp only[↓jr,jw,seval,jq,qe2,qe3,ht.next,ht3.next,ext_next,ext_tnext,List.length_cons,List.length_nil]) <;> (have h1 := ht.next; have h2 := ht3.next; have h4 := @pushTok_next jx 1; have h3 := @pushTok_tnext jx 1; repeat' (first | exact trivial | refine And.intro ?_ ?_ | exact Nat.le_refl _ | omega | (unfold pid; omega) | (simp only [h1, h2, h4]; done)))) ?_
      (try simp only[↓jr,jw,seval,ht3.next])
      refine wc.intro (R64_add hlt hc3) ?_
      (try simp only[↓jr,jw,seval,ht3.next])
      have e1 : nnfs (l.take (k + 1)) true = nnfs (l.take k) true ++ [nnf x true] := by rw [htk, nnfs_append]; rfl
      have e2 : (nnfs (l.take (k + 1)) true).length = (nnfs (l.take k) true).length + 1 := by rw [e1]; simp
      have e3 : encs Con.enc (nnfs (l.take k) true) ++ (nnf x true).enc = encs Con.enc (nnfs (l.take (k + 1)) true) := by rw [e1, encs_append]; simp [encs]
      refine JNEXT.of (k + 1, tok1, j1) ⟨by simp only; omega, ht3, by simp only [e2]; exact hcan⟩ (by simp only; omega) ?_ (JDropH.nextT ht ht3 (TokExt.refl _) hle' ⟨.inl ⟨rfl, rfl⟩, .inl ⟨rfl, rfl⟩, .inr ⟨rfl, ?_⟩, True.intro⟩)
      · (try simp only[↓jr,jw,seval,DL])
        exact ⟨SubB.v, SubB.v, SubB.sl rfl (SubBs.pure (encs_pur Con.pur _)), SubB.v, SubB.ptr (by have := ht3.next; unfold pid; omega), SubB.ptr (by have := ht3.next; unfold pid; omega)⟩
      · simp only [oC, e2, ← e3]
        exact ⟨SubB.v, SubB.v, SubB.can hcan (by rw [pures_append, encs_pur Con.pur, Con.pur]; rfl), True.intro⟩
    · (try simp only[↓jr,jw,seval,ht.next])
      have ek : k = l.length := by omega
      subst ek
      rw [List.take_length]
      refine JFIN.ret ((JDropH.back ht).of_ext) ?_
      rw [nnf_mk g1o g3o]
      exact SubB.agg oC_enc
  · subst hno
    (try simp only[↓jr,jw,seval])
    refine JLOOP.of (σ := Nat × Tok × JH) (fun s => s.1 ≤ l.length ∧ TokExt j s.2.2 ∧ CanApp j s.2.2 s.2.1 3 (nnfs (l.take s.1) false).length) (fun s => l.length - s.1)
      (fun s => [(43, I64 s.1), (42, I64 l.length), (41, .sl .none l.length (encs Con.enc l)), (1, BOO false), (4, .ptr (pid j.next 1) 0), (6, .ptr (pid j.next 2) 0)])
      (fun s => ext s.2.2 [.cells 27 (Con.mk o n l).enc, .cells 27 zC, .cells 27 (oC (o) n s.2.1 (nnfs (l.take s.1) false))]) (0, .nil, j) ⟨Nat.zero_le _, TokExt.refl _, CanApp.nil⟩ ?_ (JDropH.refl _) ?_
    · ((try simp only[↓jr,jw,seval,DL]) <;> exact sbq)
    rintro ⟨k, tk, jx⟩ ⟨hk, ht, hc⟩
    simp only at hk ht hc
    (try simp only[↓jr,jw,seval,ht.next])
    refine wq.intro (fun g1 => ?_) (fun g1 => ?_)
    · have hlt : k < (l).length := by omega
      obtain ⟨x, r, hd⟩ : ∃ c_ l_, List.drop k (l) = c_ :: l_ := ⟨_, _, List.drop_eq_getElem_cons hlt⟩
      have hd1 : List.drop (k + 1) (l) = r := by rw [← List.drop_drop, hd]; rfl
      have hmem : x ∈ l := List.mem_of_mem_drop (hd ▸ List.mem_cons_self)
      have hcn := Con.nodesL_mem hmem
      have htk := take_one hd
      have hlk : (nnfs (l.take k) false).length = k := by rw [nnfs_len, List.length_take]; omega
      (try simp only[↓jr,jw,seval,ht.next,hd])
      refine wc.intro (by omega) ?_
      (try simp only[↓jr,jw,seval,ht.next,hd])
      refine JDC.use (ih x hmem false _ (Con.oks_mem hc4 hmem) (shapedL_mem hs2 hmem) (by omega)) ?_
      (try simp only[↓jr,jw,seval,ht.next])
      refine JAPP.can' hc.push (ht.push 1) (by rw [encs_length Con.len]) (by rw [Con.len]) d_con9 (by omega) (by omega) ?_
      intro tok1 j1 hcan ht3 hle
      have hle' : jx.tnext ≤ j1.tnext := Nat.le_trans (Nat.le_succ _) hle
      (try simp only[↓jr,jw,seval,ht3.next])
      refine JDRAW.oc (by (try simp only[↓jr,jw,seval,jq,qe2,qe3,ht.next,ht3.next,ext_next,ext_tnext,List.length_cons,List.length_nil]) <;> (have h1 := ht.next; have h2 := ht3.next; have h4 := @pushTok_next jx 1; have h3 := @pushTok_tnext jx 1; repeat' (first | exact trivial | refine And.intro ?_ ?_ | exact Nat.le_refl _ | omega | (unfold pid; omega) | (simp only [h1, h2, h4]; done)))) ?_
      (try simp only[↓jr,jw,seval,ht3.next])
      refine wc.intro (R64_add hlt hc3) ?_
      (try simp only[↓jr,jw,seval,ht3.next])
      have e1 : nnfs (l.take (k + 1)) false = nnfs (l.take k) false ++ [nnf x false] := by rw [htk, nnfs_append]; rfl
      have e2 : (nnfs (l.take (k + 1)) false).length = (nnfs (l.take k) false).length + 1 := by rw [e1]; simp
      have e3 : encs Con.enc (nnfs (l.take k) false) ++ (nnf x false).enc = encs Con.enc (nnfs (l.take (k + 1)) false) := by rw [e1, encs_append]; simp [encs]
      refine JNEXT.of (k + 1, tok1, j1) ⟨by simp only; omega, ht3, by simp only [e2]; exact hcan⟩ (by simp only; omega) ?_ (JDropH.nextT ht ht3 (TokExt.refl _) hle' ⟨.inl ⟨rfl, rfl⟩, .inl ⟨rfl, rfl⟩, .inr ⟨rfl, ?_⟩, True.intro⟩)
      · (try simp only[↓jr,jw,seval,DL])
        exact ⟨SubB.v, SubB.v, SubB.sl rfl (SubBs.pure (encs_pur Con.pur _)), SubB.v, SubB.ptr (by have := ht3.next; unfold pid; omega), SubB.ptr (by have := ht3.next; unfold pid; omega)⟩
      · simp only [oC, e2, ← e3]
        exact ⟨SubB.v, SubB.v, SubB.can hcan (by rw [pures_append, encs_pur Con.pur, Con.pur]; rfl), True.intro⟩
    · (try simp only[↓jr,jw,seval,ht.next])
      have ek : k = l.length := by omega
      subst ek
      rw [List.take_length]
      refine JFIN.ret ((JDropH.back ht).of_ext) ?_
      rw [nnf_mk g1o g3o]
      exact SubB.agg oC_enc
end
end Go.Proofs.YtcajjicdbphkpaaDoor.Pg
