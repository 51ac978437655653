/-
  Normal forms of concepts: concept.Nnf, concept.Normal, concept.Not. Under: what concept.duals reads as.
-/
import Derived.Test.YtnkkeenclhncmaaDoorLg
set_option linter.unusedVariables false
set_option linter.unusedSimpArgs false
set_option maxRecDepth 100000
set_option maxHeartbeats 8000000
namespace Go.Proofs.YtnkkeenclhncmaaDoor.Pg
open Go
theorem Con.nodesL_len : ∀ l : List Con, l.length ≤ Con.nodesL l
  | [] => by simp
  | .mk o n k :: l => by simp only [List.length_cons, Con.nodesL, Con.nodes]; have := Con.nodesL_len l; omega
abbrev zC : List AV := [I64 0, I64 0, .sl .nil 0 []]
abbrev oC (o n : Int) (t : Tok) (l : List Con) : List AV := [I64 o, I64 n, .sl t l.length (encs Con.enc l)]
theorem oC_enc {no nt : Nat} {o n : Int} {t : Tok} {l : List Con} : SubBs no nt (oC o n t l) (Con.mk o n l).enc := by
  rw [Con.enc_eq, Con.encs_eq]
  exact ⟨SubB.v, SubB.v, SubB.sl rfl (SubBs.pure (encs_pur Con.pur _)), True.intro⟩
theorem take_one {l : List Con} {k : Nat} {c : Con} {r : List Con} (h : l.drop k = c :: r) : l.take (k + 1) = l.take k ++ [c] := by
  have : l[k]? = some c := by rw [← List.head?_drop, h]; rfl
  rw [List.take_add_one, this]; rfl
def faultE (n : Nms) (c : Con) : Int := if namesOK n = false then 20 else if conOK n c then 0 else 10
theorem faultE_eq (n : Nms) (c : Con) : fineE n [c] = faultE n c := by simp [fineE, faultE]
def dualI (o : Int) : Int := if o = 1 then 2 else if o = 2 then 1 else if o = 4 then 5 else if o = 5 then 4 else if o = 6 then 7 else if o = 7 then 6 else 0
mutual
def nnf : Con → Bool → Con
  | .mk o n l, no => if o = 0 then (if no then .mk 3 0 [.mk 0 n []] else .mk 0 n []) else if o = 3 then nnfH l (!no) else .mk (if no then dualI o else o) n (nnfs l no)
def nnfH : List Con → Bool → Con
  | [], _ => .mk 0 0 []
  | c :: _, no => nnf c no
def nnfs : List Con → Bool → List Con
  | [], _ => []
  | c :: l, no => nnf c no :: nnfs l no
end
theorem nnf_mk {o n : Int} {l : List Con} {no : Bool} (h : ¬ o = 0) (h' : ¬ o = 3) : nnf (.mk o n l) no = .mk (if no then dualI o else o) n (nnfs l no) := by simp only [nnf, if_neg h, if_neg h']
theorem nnfs_append {no : Bool} : ∀ {l r : List Con}, nnfs (l ++ r) no = nnfs l no ++ nnfs r no
  | [], r => rfl
  | c :: l, r => by simp only [List.cons_append, nnfs, nnfs_append]
theorem nnfs_len {no : Bool} : ∀ {l : List Con}, (nnfs l no).length = l.length
  | [] => rfl
  | c :: l => by simp only [nnfs, List.length_cons, nnfs_len]
theorem shapedL_mem {nc nr : Nat} : ∀ {l : List Con}, shapedL nc nr l = true → ∀ {c : Con}, c ∈ l → shaped nc nr c = true
  | d :: l, h, c, m => by
    simp only [shapedL, Bool.and_eq_true] at h
    rcases List.mem_cons.1 m with rfl | m
    · exact h.1
    · exact shapedL_mem h.2 m
theorem arity_in {o : Int} {k : Nat} (h : arity o = k) : 0 ≤ o ∧ o ≤ 7 := by
  by_cases q : o < 0 ∨ 7 < o
  · rw [arity_ne q] at h; omega
  · omega
abbrev DUALS : List AV := [I64 0, I64 2, I64 1, I64 0, I64 5, I64 4, I64 7, I64 6]
section
variable {m : GM} {G : Nat → Option (List AV)}
theorem duals_at {op : Int} (h0 : 0 ≤ op) (h1 : op ≤ 7) : icut none [I64 0, I64 2, I64 1, I64 0, I64 5, I64 4, I64 7, I64 6] op.toNat = some (I64 (dualI op)) := by
  have : op = 0 ∨ op = 1 ∨ op = 2 ∨ op = 3 ∨ op = 4 ∨ op = 5 ∨ op = 6 ∨ op = 7 := by omega
  rcases this with rfl | rfl | rfl | rfl | rfl | rfl | rfl | rfl <;> rfl
def ir75 : IFn := ⟨58, [⟨4, (some (some 3))⟩], (.seq (.reg [oA 2 (.box 44 (.r 0)), oA 4 (.alloc 44 [.v (.int .i64 0), .v (.int .i64 0), .sl .nil 0 []])]) (.seq (.seq (.reg [oA 8 (.fadr 0 (.r 2)), oL 9 8 none]) (.block 0 (.seq (.reg [oA 11 (.bin .eql (.r 9) (kI 0)), oA 10 (kM 11)]) (.cond (.r 10) (.seq (.seq (.reg [oA 12 (kM 1)]) (.cond (.r 12) (.seq (.reg [oA 13 (.fadr 1 (.r 2)), oL 14 13 none, oA 15 (.build [.v (.int .i64 0), .v (.int .i64 0), .sl .nil 0 []] [(0, (1, .k (.v (.int .i64 0)))), (1, (1, .r 14))]), oA 16 (.bsl 1 3 [.v (.int .i64 0), .v (.int .i64 0), .sl .nil 0 []] [(0, (3, .r 15))]), oA 17 (.build [.v (.int .i64 0), .v (.int .i64 0), .sl .nil 0 []] [(0, (1, .k (.v (.int .i64 3)))), (2, (1, .r 16))]), oN (.store 3 (.r 4) (.r 17))]) .ret) .skip)) (.seq (.reg [oA 18 (.fadr 1 (.r 2)), oL 19 18 none, oA 20 (.build [.v (.int .i64 0), .v (.int .i64 0), .sl .nil 0 []] [(0, (1, .k (.v (.int .i64 0)))), (1, (1, .r 19))]), oN (.store 3 (.r 4) (.r 20))]) .ret)) (.seq (.reg [oA 22 (.bin .eql (.r 9) (kI 3)), oA 21 (kM 22)]) (.cond (.r 21) (.seq (.reg [oA 23 (.fadr 2 (.r 2)), oL 24 23 none, oA 25 (.iasl 3 (.r 24) (kI 0)), oL 26 25 (some 3), oA 27 (kM 1), oA 28 (.not (.r 27)), oA 29 (.call 75 [.r 26, .r 28]), oN (.store 3 (.r 4) (.r 29))]) .ret) .skip)))))) (.seq (.reg [oA 30 (.fadr 0 (.r 2)), oL 31 30 none, oA 32 (.fadr 1 (.r 2)), oL 33 32 none, oA 34 (.build [.v (.int .i64 0), .v (.int .i64 0), .sl .nil 0 []] [(0, (1, .r 31)), (1, (1, .r 33))]), oA 5 (.alloc 44 [.v (.int .i64 0), .v (.int .i64 0), .sl .nil 0 []]), oN (.store 3 (.r 5) (.r 34))]) (.seq (.seq (.reg [oA 35 (kM 1)]) (.cond (.r 35) (.reg [oA 36 (.fadr 0 (.r 2)), oL 37 36 none, oA 38 (.iaar 8 1 (.g 0) (.r 37)), oL 39 38 none, oA 40 (.fadr 0 (.r 5)), oN (.store 1 (.r 40) (.r 39))]) .skip)) (.seq (.seq (.reg [oA 41 (.fadr 2 (.r 2)), oL 42 41 none, oT 43 42 (.lenl (.r 42)), oA 44 (.mov (kI 0))]) (.block 1 (.loop (.seq (.reg [oA 45 (.bin .lss (.r 44) (.r 43))]) (.seq (.cond (.r 45) .skip (.exit 1)) (.seq (.block 2 (.seq (.reg [oA 46 (.iasl 3 (.r 42) (.r 44)), oL 47 46 (some 3), oA 7 (.alloc 44 [.v (.int .i64 0), .v (.int .i64 0), .sl .nil 0 []]), oN (.store 3 (.r 7) (.r 47))]) (.draw [oA 48 (.fadr 2 (.r 5)), oL 49 48 none, oL 50 7 (some 3), oA 51 (kM 1), oA 52 (.call 75 [.r 50, .r 51]), oA 53 (.bsl 1 3 [.v (.int .i64 0), .v (.int .i64 0), .sl .nil 0 []] [(0, (3, .r 52))]), oA 54 (.app 3 40 (.r 49) (.r 53)), oA 55 (.fadr 2 (.r 5)), oN (.store 1 (.r 55) (.r 54))] [(1, 4)]))) (.reg [oA 56 (.bin .add (.r 44) (kI 1)), oA 44 (kM 56)]))))))) (.seq (.reg [oL 57 5 (some 3), oN (.store 3 (.r 4) (.r 57))]) .ret))))))⟩
theorem c75 : cfunc Tryd.prog 75 = some ir75 := by kernel_rfl
theorem k75 : okIR (max 2 ir75.n) ir75.ir = true := by decide +kernel
theorem s_Nnf (hdu : GG m 0 = some DUALS) (nc nr : Nat) : ∀ (c : Con) (no : Bool) (j : JH), c.ok → shaped nc nr c = true → c.nodes ≤ 1000000 → JC Tryd.prog (GG m) 75 [.agg c.enc, BOO no] j (RET (.agg (nnf c no).enc) j) := by
  intro c
  induction c using Con.ind with
  | h o n l ih =>
  intro no j hc hs hm
  simp only [Con.ok] at hc
  obtain ⟨hc1, hc2, hc3, hc4⟩ := hc
  simp only [Con.nodes] at hm
  have hll : l.length ≤ Con.nodesL l := Con.nodesL_len l
  obtain ⟨⟨hs1, hs3, hs4, hs5, hs6⟩, hs2⟩ : SH nc nr o n l.length ∧ shapedL nc nr l = true := by rw [← shaped_mk]; exact hs
  have har := arity_in hs1
  refine JC.run hmix c75 (by exact k75) ?_
  (try simp only[↓jr,jw,seval,hdu,ir75])
  refine wq.intro (fun g1o => ?_) (fun g1o => ?_)
  · (try simp only[↓jr,jw,seval,hdu])
    refine ww.intro (fun hno => ?_) (fun hno => ?_)
    · (try simp only[↓jr,jw,seval,hdu])
      refine JFIN.rb ?_
      subst hno; subst g1o
      exact SubB.agg ⟨SubB.v, SubB.v, SubB.sl rfl ⟨SubB.v, SubB.v, SubB.sl rfl True.intro, True.intro⟩, True.intro⟩
    · (try simp only[↓jr,jw,seval,hdu])
      refine JFIN.rb ?_
      subst hno; subst g1o
      exact SubB.agg ⟨SubB.v, SubB.v, SubB.sl rfl True.intro, True.intro⟩
  (try simp only[↓jr,jw,seval,hdu])
  refine wq.intro (fun g3o => ?_) (fun g3o => ?_)
  · have hl1 : l.length = 1 := by subst g3o; simp [arity] at hs1; omega
    obtain ⟨c, rfl⟩ : ∃ c, l = [c] := by
      cases l with
      | nil => simp at hl1
      | cons c r => cases r with | nil => exact ⟨c, rfl⟩ | cons _ _ => simp at hl1
    (try simp only[↓jr,jw,seval,hdu,List.drop_zero])
    refine JCs.ret (ih c (by simp) (!no) _ (Con.oks_mem hc4 (by simp)) (shapedL_mem hs2 (by simp)) (by simp only [Con.nodesL] at hm; omega)) ?_
    (try simp only[↓jr,jw,seval,hdu])
    refine JFIN.rb ?_
    subst g3o
    exact SubB.pure (by simp only [AV.pure]; exact Con.pur _)
  (try simp only[↓jr,jw,seval,hdu])
  refine ww.intro (fun hno => ?_) (fun hno => ?_)
  · subst hno
    (try simp only[↓jr,jw,seval,hdu])
    refine wc.intro (by omega) ?_
    (try simp only[↓jr,jw,seval,hdu,duals_at har.1 har.2])
    refine JLOOP.of (σ := Nat × Tok × JH) (fun s => s.1 ≤ l.length ∧ TokExt j s.2.2 ∧ CanApp j s.2.2 s.2.1 3 (nnfs (l.take s.1) true).length) (fun s => l.length - s.1)
      (fun s => [(44, I64 s.1), (43, I64 l.length), (42, .sl .none l.length (encs Con.enc l)), (1, BOO true), (4, .ptr (pid j.next 1) 0), (5, .ptr (pid j.next 2) 0)])
      (fun s => ext s.2.2 [.cells 44 (Con.mk o n l).enc, .cells 44 zC, .cells 44 (oC (dualI o) n s.2.1 (nnfs (l.take s.1) true))]) (0, .nil, j) ⟨Nat.zero_le _, TokExt.refl _, CanApp.nil⟩ ?_ (JDropH.refl _) ?_
    · ((try simp only[↓jr,jw,seval,hdu,DL]) <;> exact sbq)
    rintro ⟨k, tk, jx⟩ ⟨hk, ht, hc⟩
    simp only at hk ht hc
    (try simp only[↓jr,jw,seval,hdu,ht.next])
    refine wq.intro (fun g1 => ?_) (fun g1 => ?_)
    · have hlt : k < (l).length := by omega
      obtain ⟨x, r, hd⟩ : ∃ c_ l_, List.drop k (l) = c_ :: l_ := ⟨_, _, List.drop_eq_getElem_cons hlt⟩
      have hd1 : List.drop (k + 1) (l) = r := by rw [← List.drop_drop, hd]; rfl
      have hmem : x ∈ l := List.mem_of_mem_drop (hd ▸ List.mem_cons_self)
      have hcn := Con.nodesL_mem hmem
      have htk := take_one hd
      have hlk : (nnfs (l.take k) true).length = k := by rw [nnfs_len, List.length_take]; omega
      (try simp only[↓jr,jw,seval,hdu,ht.next,hd])
      refine wc.intro (by omega) ?_
      (try simp only[↓jr,jw,seval,hdu,ht.next,hd])
      refine JDC.use (ih x hmem true _ (Con.oks_mem hc4 hmem) (shapedL_mem hs2 hmem) (by omega)) ?_
      (try simp only[↓jr,jw,seval,hdu,ht.next])
      refine JAPP.can' hc.push (ht.push 1) (by rw [encs_length Con.len]) (by rw [Con.len]) d_con9 (by omega) (by omega) ?_
      intro tok1 j1 hcan ht3 hle
      have hle' : jx.tnext ≤ j1.tnext := Nat.le_trans (Nat.le_succ _) hle
      (try simp only[↓jr,jw,seval,hdu,ht3.next])
      refine JDRAW.oc (by (try simp only[↓jr,jw,seval,hdu,jq,qe2,qe3,ht.next,ht3.next,ext_next,ext_tnext,List.length_cons,List.length_nil]) <;> (have h1 := ht.next; have h2 := ht3.next; have h4 := @pushTok_next jx 1; have h3 := @pushTok_tnext jx 1; repeat' (first | exact trivial | refine And.intro ?_ ?_ | exact Nat.le_refl _ | omega | (unfold pid; omega) | (simp only [h1, h2, h4]; done)))) ?_
      (try simp only[↓jr,jw,seval,hdu,ht3.next])
      refine wc.intro (R64_add hlt hc3) ?_
      (try simp only[↓jr,jw,seval,hdu,ht3.next])
      have e1 : nnfs (l.take (k + 1)) true = nnfs (l.take k) true ++ [nnf x true] := by rw [htk, nnfs_append]; rfl
      have e2 : (nnfs (l.take (k + 1)) true).length = (nnfs (l.take k) true).length + 1 := by rw [e1]; simp
      have e3 : encs Con.enc (nnfs (l.take k) true) ++ (nnf x true).enc = encs Con.enc (nnfs (l.take (k + 1)) true) := by rw [e1, encs_append]; simp [encs]
      refine JNEXT.of (k + 1, tok1, j1) ⟨by simp only; omega, ht3, by simp only [e2]; exact hcan⟩ (by simp only; omega) ?_ (JDropH.nextT ht ht3 (TokExt.refl _) hle' ⟨.inl ⟨rfl, rfl⟩, .inl ⟨rfl, rfl⟩, .inr ⟨rfl, ?_⟩, True.intro⟩)
      · (try simp only[↓jr,jw,seval,hdu,DL])
        exact ⟨SubB.v, SubB.v, SubB.sl rfl (SubBs.pure (encs_pur Con.pur _)), SubB.v, SubB.ptr (by have := ht3.next; unfold pid; omega), SubB.ptr (by have := ht3.next; unfold pid; omega)⟩
      · simp only [oC, e2, ← e3]
        exact ⟨SubB.v, SubB.v, SubB.can hcan (by rw [pures_append, encs_pur Con.pur, Con.pur]; rfl), True.intro⟩
    · (try simp only[↓jr,jw,seval,hdu,ht.next])
      have ek : k = l.length := by omega
      subst ek
      rw [List.take_length]
      refine JFIN.ret ((JDropH.back ht).of_ext) ?_
      rw [nnf_mk g1o g3o]
      exact SubB.agg oC_enc
  · subst hno
    (try simp only[↓jr,jw,seval,hdu])
    refine JLOOP.of (σ := Nat × Tok × JH) (fun s => s.1 ≤ l.length ∧ TokExt j s.2.2 ∧ CanApp j s.2.2 s.2.1 3 (nnfs (l.take s.1) false).length) (fun s => l.length - s.1)
      (fun s => [(44, I64 s.1), (43, I64 l.length), (42, .sl .none l.length (encs Con.enc l)), (1, BOO false), (4, .ptr (pid j.next 1) 0), (5, .ptr (pid j.next 2) 0)])
      (fun s => ext s.2.2 [.cells 44 (Con.mk o n l).enc, .cells 44 zC, .cells 44 (oC (o) n s.2.1 (nnfs (l.take s.1) false))]) (0, .nil, j) ⟨Nat.zero_le _, TokExt.refl _, CanApp.nil⟩ ?_ (JDropH.refl _) ?_
    · ((try simp only[↓jr,jw,seval,hdu,DL]) <;> exact sbq)
    rintro ⟨k, tk, jx⟩ ⟨hk, ht, hc⟩
    simp only at hk ht hc
    (try simp only[↓jr,jw,seval,hdu,ht.next])
    refine wq.intro (fun g1 => ?_) (fun g1 => ?_)
    · have hlt : k < (l).length := by omega
      obtain ⟨x, r, hd⟩ : ∃ c_ l_, List.drop k (l) = c_ :: l_ := ⟨_, _, List.drop_eq_getElem_cons hlt⟩
      have hd1 : List.drop (k + 1) (l) = r := by rw [← List.drop_drop, hd]; rfl
      have hmem : x ∈ l := List.mem_of_mem_drop (hd ▸ List.mem_cons_self)
      have hcn := Con.nodesL_mem hmem
      have htk := take_one hd
      have hlk : (nnfs (l.take k) false).length = k := by rw [nnfs_len, List.length_take]; omega
      (try simp only[↓jr,jw,seval,hdu,ht.next,hd])
      refine wc.intro (by omega) ?_
      (try simp only[↓jr,jw,seval,hdu,ht.next,hd])
      refine JDC.use (ih x hmem false _ (Con.oks_mem hc4 hmem) (shapedL_mem hs2 hmem) (by omega)) ?_
      (try simp only[↓jr,jw,seval,hdu,ht.next])
      refine JAPP.can' hc.push (ht.push 1) (by rw [encs_length Con.len]) (by rw [Con.len]) d_con9 (by omega) (by omega) ?_
      intro tok1 j1 hcan ht3 hle
      have hle' : jx.tnext ≤ j1.tnext := Nat.le_trans (Nat.le_succ _) hle
      (try simp only[↓jr,jw,seval,hdu,ht3.next])
      refine JDRAW.oc (by (try simp only[↓jr,jw,seval,hdu,jq,qe2,qe3,ht.next,ht3.next,ext_next,ext_tnext,List.length_cons,List.length_nil]) <;> (have h1 := ht.next; have h2 := ht3.next; have h4 := @pushTok_next jx 1; have h3 := @pushTok_tnext jx 1; repeat' (first | exact trivial | refine And.intro ?_ ?_ | exact Nat.le_refl _ | omega | (unfold pid; omega) | (simp only [h1, h2, h4]; done)))) ?_
      (try simp only[↓jr,jw,seval,hdu,ht3.next])
      refine wc.intro (R64_add hlt hc3) ?_
      (try simp only[↓jr,jw,seval,hdu,ht3.next])
      have e1 : nnfs (l.take (k + 1)) false = nnfs (l.take k) false ++ [nnf x false] := by rw [htk, nnfs_append]; rfl
      have e2 : (nnfs (l.take (k + 1)) false).length = (nnfs (l.take k) false).length + 1 := by rw [e1]; simp
      have e3 : encs Con.enc (nnfs (l.take k) false) ++ (nnf x false).enc = encs Con.enc (nnfs (l.take (k + 1)) false) := by rw [e1, encs_append]; simp [encs]
      refine JNEXT.of (k + 1, tok1, j1) ⟨by simp only; omega, ht3, by simp only [e2]; exact hcan⟩ (by simp only; omega) ?_ (JDropH.nextT ht ht3 (TokExt.refl _) hle' ⟨.inl ⟨rfl, rfl⟩, .inl ⟨rfl, rfl⟩, .inr ⟨rfl, ?_⟩, True.intro⟩)
      · (try simp only[↓jr,jw,seval,hdu,DL])
        exact ⟨SubB.v, SubB.v, SubB.sl rfl (SubBs.pure (encs_pur Con.pur _)), SubB.v, SubB.ptr (by have := ht3.next; unfold pid; omega), SubB.ptr (by have := ht3.next; unfold pid; omega)⟩
      · simp only [oC, e2, ← e3]
        exact ⟨SubB.v, SubB.v, SubB.can hcan (by rw [pures_append, encs_pur Con.pur, Con.pur]; rfl), True.intro⟩
    · (try simp only[↓jr,jw,seval,hdu,ht.next])
      have ek : k = l.length := by omega
      subst ek
      rw [List.take_length]
      refine JFIN.ret ((JDropH.back ht).of_ext) ?_
      rw [nnf_mk g1o g3o]
      exact SubB.agg oC_enc
end
theorem R64_dual (o : Int) : R64 (dualI o) := by
  unfold dualI R64
  repeat' split
  all_goals omega
theorem nnf_ok : ∀ (c : Con) (no : Bool), c.ok → (nnf c no).ok ∧ (nnf c no).nodes ≤ 2 * c.nodes := by
  intro c
  induction c using Con.ind with
  | h o n l ih =>
  intro no h
  simp only [Con.ok] at h
  obtain ⟨h1, h2, h3, h4⟩ := h
  have hz : R64 0 := by unfold R64; omega
  by_cases g1 : o = 0
  · subst g1
    cases no
    · simp only [nnf, if_true, Bool.false_eq_true, if_false, Con.ok, Con.nodes, Con.nodesL, Con.oks, List.length_nil]; exact ⟨⟨hz, h2, by omega, trivial⟩, by omega⟩
    · have h3' : R64 3 := by unfold R64; omega
      simp only [nnf, if_true, Con.ok, Con.nodes, Con.nodesL, Con.oks, List.length_nil, List.length_cons]; exact ⟨⟨h3', hz, by omega, ⟨hz, h2, by omega, trivial⟩, trivial⟩, by omega⟩
  by_cases g3 : o = 3
  · subst g3
    simp only [nnf, if_neg g1, if_true]
    cases l with
    | nil => simp only [nnfH, Con.ok, Con.nodes, Con.nodesL, Con.oks, List.length_nil]; exact ⟨⟨hz, hz, by omega, trivial⟩, by omega⟩
    | cons c r =>
      obtain ⟨i1, i2⟩ := ih c (by simp) (!no) (Con.oks_mem h4 (by simp))
      simp only [nnfH, Con.nodes, Con.nodesL]
      exact ⟨i1, by omega⟩
  rw [nnf_mk g1 g3]
  have aux : ∀ r : List Con, (∀ c ∈ r, c ∈ l) → Con.oks r → Con.oks (nnfs r no) ∧ Con.nodesL (nnfs r no) ≤ 2 * Con.nodesL r := by
    intro r
    induction r with
    | nil => intro _ _; simp [nnfs, Con.oks, Con.nodesL]
    | cons c r ihr =>
      intro hm hk
      simp only [Con.oks] at hk
      obtain ⟨a1, a2⟩ := ihr (fun d hd => hm d (by simp [hd])) hk.2
      obtain ⟨b1, b2⟩ := ih c (hm c (by simp)) no hk.1
      simp only [nnfs, Con.oks, Con.nodesL]
      exact ⟨⟨b1, a1⟩, by omega⟩
  obtain ⟨a1, a2⟩ := aux l (fun _ h => h) h4
  simp only [Con.ok, Con.nodes]
  refine ⟨⟨?_, h2, by rw [nnfs_len]; exact h3, a1⟩, by omega⟩
  split
  · exact R64_dual o
  · exact h1
theorem arity_dual {o : Int} (h0 : 0 ≤ o) (h7 : o ≤ 7) (g1 : ¬ o = 0) (g3 : ¬ o = 3) : arity (dualI o) = arity o ∧ quant (dualI o) = quant o ∧ dualI o ≠ 0 := by
  have e : o = 1 ∨ o = 2 ∨ o = 4 ∨ o = 5 ∨ o = 6 ∨ o = 7 := by omega
  rcases e with rfl | rfl | rfl | rfl | rfl | rfl <;> decide
theorem shaped_nnf {nc nr : Nat} : ∀ (c : Con) (no : Bool), shaped nc nr c = true → shaped nc nr (nnf c no) = true := by
  intro c
  induction c using Con.ind with
  | h o n l ih =>
  intro no h
  obtain ⟨⟨h1, h2, h3, h4, h5⟩, h6⟩ : SH nc nr o n l.length ∧ shapedL nc nr l = true := by rw [← shaped_mk]; exact h
  have har := arity_in h1
  by_cases g1 : o = 0
  · subst g1
    have h0 : shaped nc nr (.mk 0 n []) = true := by
      rw [shaped_mk]
      exact ⟨⟨rfl, h2, h3, fun q => absurd rfl q, fun q => absurd rfl q⟩, rfl⟩
    cases no
    · simpa only [nnf, if_true, Bool.false_eq_true, if_false] using h0
    · simp only [nnf, if_true]
      rw [shaped_mk]
      exact ⟨⟨rfl, by omega, fun q => by omega, fun _ q => by simp [quant] at q, fun _ _ => rfl⟩, by simp only [shapedL, h0, Bool.and_self]⟩
  by_cases g3 : o = 3
  · subst g3
    simp only [nnf, if_neg g1, if_true]
    cases l with
    | nil => simp [arity] at h1
    | cons c r =>
      simp only [nnfH]
      exact ih c (by simp) (!no) (shapedL_mem h6 (by simp))
  rw [nnf_mk g1 g3, shaped_mk]
  have aux : ∀ r : List Con, (∀ c ∈ r, c ∈ l) → shapedL nc nr r = true → shapedL nc nr (nnfs r no) = true := by
    intro r
    induction r with
    | nil => intro _ _; rfl
    | cons c r ihr =>
      intro hm hk
      simp only [shapedL, Bool.and_eq_true] at hk
      simp only [nnfs, shapedL, Bool.and_eq_true]
      exact ⟨ih c (hm c (by simp)) no hk.1, ihr (fun d hd => hm d (by simp [hd])) hk.2⟩
  refine ⟨?_, aux l (fun _ h => h) h6⟩
  obtain ⟨d1, d2, d3⟩ := arity_dual har.1 har.2 g1 g3
  rw [nnfs_len]
  cases no
  · exact ⟨h1, h2, h3, h4, h5⟩
  · exact ⟨d1.trans h1, h2, fun q => absurd q d3, fun _ q => h4 g1 (d2 ▸ q), fun _ q => h5 g1 (d2 ▸ q)⟩
theorem conOK_shaped {n : Nms} {c : Con} (h : conOK n c = true) : shaped n.cs.length n.rs.length c = true ∧ c.nodes ≤ 400 := by
  unfold conOK at h
  simp only [Bool.and_eq_true, decide_eq_true_eq] at h
  exact ⟨h.2, h.1.1⟩
theorem conOK_nnf {n : Nms} {c : Con} {no : Bool} (h : conOK n c = true) : conOK n (nnf c no) = (decide ((nnf c no).nodes ≤ 400) && decide ((nnf c no).depth ≤ 20)) := by
  unfold conOK
  rw [shaped_nnf c no (conOK_shaped h).1, Bool.and_true]
abbrev nilC : Con := .mk 0 0 []
theorem nilC_ok : nilC.ok := by
  have hz : R64 0 := by unfold R64; omega
  exact ⟨hz, hz, by simp, trivial⟩
theorem nilC_sub {no nt : Nat} : SubBs no nt zC nilC.enc := ⟨SubB.v, SubB.v, SubB.sl rfl True.intro, True.intro⟩
def smC (n : Nms) (c : Con) : Con := if conOK n c then c else nilC
def smE (n : Nms) (c : Con) : Int := if conOK n c then 0 else 2
def norC (n : Nms) (c : Con) (no : Bool) : Con := if faultE n c = 0 then smC n (nnf c no) else nilC
def norE (n : Nms) (c : Con) (no : Bool) : Int := if faultE n c = 0 then smE n (nnf c no) else faultE n c
theorem faultE_zero {n : Nms} {c : Con} (h : faultE n c = 0) : conOK n c = true := by
  unfold faultE at h
  repeat' split at h
  all_goals first | assumption | omega
section
variable {m : GM} {G : Nat → Option (List AV)}
def ir74 : IFn := ⟨13, [⟨4, (some (some 3))⟩, ⟨5, none⟩], (.seq (.reg [oA 2 (.box 24 (.r 0)), oA 3 (.box 44 (.r 1)), oA 4 (.alloc 44 [.v (.int .i64 0), .v (.int .i64 0), .sl .nil 0 []]), oA 5 (.mov (kI 0))]) (.seq (.reg [oA 6 (.alloc 3 [.v (.int .i64 0)]), oN (.store 1 (.r 6) (kI 400))]) (.seq (.seq (.reg [oL 7 2 (some 3), oL 8 3 (some 3), oA 9 (.call 58 [.r 7, .r 8, .r 6]), oA 10 (.not (.r 9))]) (.cond (.r 10) (.seq (.reg [oA 11 (.build [.v (.int .i64 0), .v (.int .i64 0), .sl .nil 0 []] []), oN (.store 3 (.r 4) (.r 11)), oA 5 (.mov (kI 2))]) .ret) .skip)) (.seq (.reg [oL 12 3 (some 3), oN (.store 3 (.r 4) (.r 12)), oA 5 (.mov (kI 0))]) .ret))))⟩
theorem c74 : cfunc Tryd.prog 74 = some ir74 := by kernel_rfl
theorem k74 : okIR (max 2 ir74.n) ir74.ir = true := by decide +kernel
theorem s_small (n : Nms) (hn : n.ok) (c : Con) (hc : c.ok) (hb : c.nodes ≤ 4000000000) (j : JH) : JC Tryd.prog (GG m) 74 [.agg n.enc, .agg c.enc] j (RET (.tup [.agg (smC n c).enc, I64 (smE n c)]) j) := by
  refine JC.run hmix c74 (by exact k74) ?_
  (try simp only[↓jr,jw,seval,ir74])
  refine JCs.ret (s_Valid n hn 3 c (pid j.next 3) 400 (ext j [.cells 24 n.enc, .cells 44 c.enc, .cells 44 zC, .cells 3 [I64 400]]) hc (by rw [ext_next]; unfold pid; simp) (by (try simp only[↓jr,jw,seval])) (consOK_bound hb) (by omega)) ?_
  (try simp only[↓jr,jw,seval])
  rw [vld_conOK]
  refine ww.intro (fun h => ?_) (fun h => ?_)
  · (try simp only[↓jr,jw,seval])
    refine JFIN.rb ?_
    unfold smC smE; rw [h]
    exact SubB.tup ⟨SubB.agg (SubBs.pure (Con.pur _)), SubB.v, True.intro⟩
  · (try simp only[↓jr,jw,seval])
    refine JFIN.rb ?_
    unfold smC smE; rw [h]
    exact SubB.tup ⟨SubB.agg nilC_sub, SubB.v, True.intro⟩
def ir50 : IFn := ⟨21, [⟨4, (some (some 3))⟩, ⟨5, none⟩], (.seq (.reg [oA 2 (.box 24 (.r 0)), oA 3 (.box 44 (.r 1)), oA 4 (.alloc 44 [.v (.int .i64 0), .v (.int .i64 0), .sl .nil 0 []]), oA 5 (.mov (kI 0))]) (.seq (.seq (.reg [oL 7 2 (some 3), oL 8 3 (some 3), oA 9 (.bsl 1 3 [.v (.int .i64 0), .v (.int .i64 0), .sl .nil 0 []] [(0, (3, .r 8))]), oA 10 (.call 73 [.r 7, .r 9]), oA 6 (kM 10)]) (.seq (.reg [oA 11 (kM 6), oA 12 (.bin .neq (.r 11) (kI 0))]) (.cond (.r 12) (.seq (.reg [oA 13 (.build [.v (.int .i64 0), .v (.int .i64 0), .sl .nil 0 []] []), oA 14 (kM 6), oN (.store 3 (.r 4) (.r 13)), oA 5 (kM 14)]) .ret) .skip))) (.seq (.draw [oL 15 2 (some 3), oL 16 3 (some 3), oA 17 (.call 75 [.r 16, .k (.v (.bool false))]), oA 18 (.call 74 [.r 15, .r 17]), oA 19 (.ext (.r 18) 0), oA 20 (.ext (.r 18) 1), oN (.store 3 (.r 4) (.r 19)), oA 5 (kM 20)] [(0, 2)]) .ret)))⟩
theorem c50 : cfunc Tryd.prog 50 = some ir50 := by kernel_rfl
theorem k50 : okIR (max 2 ir50.n) ir50.ir = true := by decide +kernel
theorem s_Normal (hdu : GG m 0 = some DUALS) (n : Nms) (hn : n.ok) (hs : n.short) (c : Con) (hc : c.ok) (hb : c.nodes ≤ 1000000) (j : JH) : JC Tryd.prog (GG m) 50 [.agg n.enc, .agg c.enc] j (RET (.tup [.agg (norC n c false).enc, I64 (norE n c false)]) j) := by
  refine JC.run hmix c50 (by exact k50) ?_
  (try simp only[↓jr,jw,seval,ir50])
  have hf := s_fine (m := m) n hn hs [c] (.own j.tnext 0 3) ⟨hc, trivial⟩ (by simp) (fun d hd => by rw [List.mem_singleton.1 hd]; omega) (ext (j.pushTok 1) [.cells 24 n.enc, .cells 44 c.enc, .cells 44 zC])
  rw [encs_cons, encs_nil, List.append_nil] at hf
  refine JCs.ret hf ?_
  rw [faultE_eq]
  (try simp only[↓jr,jw,seval])
  refine wq.intro (fun h => ?_) (fun h => ?_)
  · (try simp only[↓jr,jw,seval])
    have hk := faultE_zero h
    have hk1 := conOK_shaped hk
    have hk2 := nnf_ok c false hc
    refine JDC.use (s_Nnf hdu n.cs.length n.rs.length c false _ hc hk1.1 hb) ?_
    (try simp only[↓jr,jw,seval])
    refine JDC.use (s_small n hn (nnf c false) hk2.1 (by omega) _) ?_
    (try simp only[↓jr,jw,seval])
    refine JDRAW.oc (by (try simp only[↓jr,jw,seval,jq,qe2,qe3,ext_next,ext_tnext,pushTok_next,List.length_cons,List.length_nil]) <;> (repeat' (first | exact trivial | refine And.intro ?_ ?_ | exact Nat.le_refl _ | omega | (unfold pid; omega)))) ?_
    (try simp only[↓jr,jw,seval])
    refine JFIN.rb ?_
    unfold norC norE; rw [if_pos h, if_pos h]
    exact SubB.tup ⟨SubB.agg (SubBs.pure (Con.pur _)), SubB.v, True.intro⟩
  · (try simp only[↓jr,jw,seval])
    refine JFIN.rb ?_
    unfold norC norE; rw [if_neg h, if_neg h]
    exact SubB.tup ⟨SubB.agg nilC_sub, SubB.v, True.intro⟩
def ir51 : IFn := ⟨21, [⟨4, (some (some 3))⟩, ⟨5, none⟩], (.seq (.reg [oA 2 (.box 24 (.r 0)), oA 3 (.box 44 (.r 1)), oA 4 (.alloc 44 [.v (.int .i64 0), .v (.int .i64 0), .sl .nil 0 []]), oA 5 (.mov (kI 0))]) (.seq (.seq (.reg [oL 7 2 (some 3), oL 8 3 (some 3), oA 9 (.bsl 1 3 [.v (.int .i64 0), .v (.int .i64 0), .sl .nil 0 []] [(0, (3, .r 8))]), oA 10 (.call 73 [.r 7, .r 9]), oA 6 (kM 10)]) (.seq (.reg [oA 11 (kM 6), oA 12 (.bin .neq (.r 11) (kI 0))]) (.cond (.r 12) (.seq (.reg [oA 13 (.build [.v (.int .i64 0), .v (.int .i64 0), .sl .nil 0 []] []), oA 14 (kM 6), oN (.store 3 (.r 4) (.r 13)), oA 5 (kM 14)]) .ret) .skip))) (.seq (.draw [oL 15 2 (some 3), oL 16 3 (some 3), oA 17 (.call 75 [.r 16, .k (.v (.bool true))]), oA 18 (.call 74 [.r 15, .r 17]), oA 19 (.ext (.r 18) 0), oA 20 (.ext (.r 18) 1), oN (.store 3 (.r 4) (.r 19)), oA 5 (kM 20)] [(0, 2)]) .ret)))⟩
theorem c51 : cfunc Tryd.prog 51 = some ir51 := by kernel_rfl
theorem k51 : okIR (max 2 ir51.n) ir51.ir = true := by decide +kernel
theorem s_Not (hdu : GG m 0 = some DUALS) (n : Nms) (hn : n.ok) (hs : n.short) (c : Con) (hc : c.ok) (hb : c.nodes ≤ 1000000) (j : JH) : JC Tryd.prog (GG m) 51 [.agg n.enc, .agg c.enc] j (RET (.tup [.agg (norC n c true).enc, I64 (norE n c true)]) j) := by
  refine JC.run hmix c51 (by exact k51) ?_
  (try simp only[↓jr,jw,seval,ir51])
  have hf := s_fine (m := m) n hn hs [c] (.own j.tnext 0 3) ⟨hc, trivial⟩ (by simp) (fun d hd => by rw [List.mem_singleton.1 hd]; omega) (ext (j.pushTok 1) [.cells 24 n.enc, .cells 44 c.enc, .cells 44 zC])
  rw [encs_cons, encs_nil, List.append_nil] at hf
  refine JCs.ret hf ?_
  rw [faultE_eq]
  (try simp only[↓jr,jw,seval])
  refine wq.intro (fun h => ?_) (fun h => ?_)
  · (try simp only[↓jr,jw,seval])
    have hk := faultE_zero h
    have hk1 := conOK_shaped hk
    have hk2 := nnf_ok c true hc
    refine JDC.use (s_Nnf hdu n.cs.length n.rs.length c true _ hc hk1.1 hb) ?_
    (try simp only[↓jr,jw,seval])
    refine JDC.use (s_small n hn (nnf c true) hk2.1 (by omega) _) ?_
    (try simp only[↓jr,jw,seval])
    refine JDRAW.oc (by (try simp only[↓jr,jw,seval,jq,qe2,qe3,ext_next,ext_tnext,pushTok_next,List.length_cons,List.length_nil]) <;> (repeat' (first | exact trivial | refine And.intro ?_ ?_ | exact Nat.le_refl _ | omega | (unfold pid; omega)))) ?_
    (try simp only[↓jr,jw,seval])
    refine JFIN.rb ?_
    unfold norC norE; rw [if_pos h, if_pos h]
    exact SubB.tup ⟨SubB.agg (SubBs.pure (Con.pur _)), SubB.v, True.intro⟩
  · (try simp only[↓jr,jw,seval])
    refine JFIN.rb ?_
    unfold norC norE; rw [if_neg h, if_neg h]
    exact SubB.tup ⟨SubB.agg nilC_sub, SubB.v, True.intro⟩
end
end Go.Proofs.YtnkkeenclhncmaaDoor.Pg
