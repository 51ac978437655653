/-
  Copies of names, concepts, interpretations.
-/
import Derived.Test.YtnkkeenclhncmaaDoorKb
set_option linter.unusedVariables false
set_option linter.unusedSimpArgs false
set_option maxRecDepth 100000
set_option maxHeartbeats 8000000
namespace Go.Proofs.YtnkkeenclhncmaaDoor.Pg
open Go
theorem CanApp.ext {j0 j j1 : JH} {tok : Tok} {es n : Nat} (h : CanApp j0 j tok es n) (e : TokExt j j1) : CanApp j0 j1 tok es n := by
  rcases h with h | ⟨t, h1, h2, h3, h4⟩
  · exact .inl h
  · exact .inr ⟨t, h1, Nat.lt_of_lt_of_le h2 e.tnext, h3, by rw [e.tok t h2]; exact h4⟩
theorem SubB.canS {j0 j : JH} {tok : Tok} {es n no : Nat} {cs ds : List AV} (h : CanApp j0 j tok es n) (hn : n ≠ 0) (p : SubBs no j.tnext cs ds) : SubB no j.tnext (.sl tok n cs) (.sl tok n ds) := by
  rcases h with ⟨rfl, e⟩ | ⟨t, h1, h2, rfl, h4⟩
  · exact absurd e hn
  · exact SubB.own2 h2 p
theorem nodesL_len2 : ∀ l : List Con, l.length ≤ Con.nodesL l
  | [] => by simp
  | .mk o n k :: l => by simp only [List.length_cons, Con.nodesL, Con.nodes]; have := nodesL_len2 l; omega
abbrev ZC : List AV := [I64 0, I64 0, .sl .nil 0 []]
abbrev OC (o n : Int) (t : Tok) (l : List Con) : List AV := [I64 o, I64 n, .sl t l.length (encs Con.enc l)]
theorem OC_enc {no nt : Nat} {o n : Int} {t : Tok} {l : List Con} : SubBs no nt (OC o n t l) (Con.mk o n l).enc := by
  rw [Con.enc_eq, Con.encs_eq]
  exact ⟨SubB.v, SubB.v, SubB.sl rfl (SubBs.pure (encs_pur Con.pur _)), True.intro⟩
theorem one_ints (l : List Int) : (ints l).all AV.one = true := by unfold ints; rw [List.all_map]; exact List.all_eq_true.2 fun _ _ => rfl
theorem one_strs (l : List ByteArray) : (strs l).all AV.one = true := by unfold strs; rw [List.all_map]; exact List.all_eq_true.2 fun _ _ => rfl
theorem one_prs (l : List (Int × Int)) : (encs PR l).all AV.one = true := by unfold encs; rw [List.all_flatMap]; exact List.all_eq_true.2 fun _ _ => rfl
theorem ext_get_tok {j j0 : JH} {l : List AObj} (ht : TokExt j j0) (o : Nat) : (Pg.ext j l).get o = (Pg.ext j0 l).get o := by
  have hn := ht.next
  unfold Pg.ext
  simp only [hn]
  split
  · exact (ht.get o ‹_›).symm
  · rfl
theorem pr_tokx {x y : Bool} {t u : Option Nat} {h h' j j0 : JH} {l : List AObj} (ht : TokExt j j0) (e : h'.tnext = h.tnext) : pair2 ⟨x, t, h, h'⟩ ⟨y, u, Pg.ext j l, Pg.ext j0 l⟩ :=
  fun _ _ => ⟨fun ob _ => ext_get_tok ht ob, fun _ => ext_get_tok ht _, fun q => absurd e q⟩
section
variable {m : GM} {G : Nat → Option (List AV)}
def ir27 : IFn := ⟨27, [⟨2, (some (some 3))⟩], (.seq (.reg [oA 1 (.box 44 (.r 0)), oA 2 (.alloc 44 [.v (.int .i64 0), .v (.int .i64 0), .sl .nil 0 []])]) (.seq (.reg [oA 6 (.fadr 0 (.r 1)), oL 7 6 none, oA 8 (.fadr 1 (.r 1)), oL 9 8 none, oA 10 (.build [.v (.int .i64 0), .v (.int .i64 0), .sl .nil 0 []] [(0, (1, .r 7)), (1, (1, .r 9))]), oA 3 (.alloc 44 [.v (.int .i64 0), .v (.int .i64 0), .sl .nil 0 []]), oN (.store 3 (.r 3) (.r 10))]) (.seq (.seq (.reg [oA 11 (.fadr 2 (.r 1)), oL 12 11 none, oT 13 12 (.lenl (.r 12)), oA 14 (.mov (kI 0))]) (.block 0 (.loop (.seq (.reg [oA 15 (.bin .lss (.r 14) (.r 13))]) (.seq (.cond (.r 15) .skip (.exit 0)) (.seq (.block 1 (.seq (.reg [oA 16 (.iasl 3 (.r 12) (.r 14)), oL 17 16 (some 3), oA 5 (.alloc 44 [.v (.int .i64 0), .v (.int .i64 0), .sl .nil 0 []]), oN (.store 3 (.r 5) (.r 17))]) (.draw [oA 18 (.fadr 2 (.r 3)), oL 19 18 none, oL 20 5 (some 3), oT 21 20 (.call 27 [.r 20]), oA 22 (.bsl 1 3 [.v (.int .i64 0), .v (.int .i64 0), .sl .nil 0 []] [(0, (3, .r 21))]), oA 23 (.app 3 40 (.r 19) (.r 22)), oA 24 (.fadr 2 (.r 3)), oN (.store 1 (.r 24) (.r 23))] [(1, 3)]))) (.reg [oA 25 (.bin .add (.r 14) (kI 1)), oA 14 (kM 25)]))))))) (.seq (.reg [oL 26 3 (some 3), oN (.store 3 (.r 2) (.r 26))]) .ret))))⟩
theorem c27 : cfunc Tryd.prog 27 = some ir27 := by kernel_rfl
theorem k27 : okIR (max 1 ir27.n) ir27.ir = true := by decide +kernel
theorem s_rCopy : ∀ (c : Con) (j : JH), c.ok → c.nodes ≤ 1000000 → JC Tryd.prog G 27 [.agg c.enc] j (RET (.agg c.enc) j) := by
  intro c
  induction c using Con.ind with
  | h o n l ih =>
  intro j hc hm
  simp only [Con.ok] at hc
  obtain ⟨hc1, hc2, hc3, hc4⟩ := hc
  simp only [Con.nodes] at hm
  have hll : l.length ≤ Con.nodesL l := nodesL_len2 l
  refine JC.run hmix c27 (by exact k27) ?_
  (try simp only[↓jr,jw,seval,ir27])
  refine JLOOP.of (σ := Nat × Tok × JH) (fun s => s.1 ≤ l.length ∧ TokExt j s.2.2 ∧ CanApp j s.2.2 s.2.1 3 (l.take s.1).length) (fun s => l.length - s.1)
    (fun s => [(14, I64 s.1), (13, I64 l.length), (12, .sl .none l.length (encs Con.enc l)), (2, .ptr (pid j.next 1) 0), (3, .ptr (pid j.next 2) 0)])
    (fun s => ext s.2.2 [.cells 44 (Con.mk o n l).enc, .cells 44 ZC, .cells 44 (OC o n s.2.1 (l.take s.1))]) (0, .nil, j) ⟨Nat.zero_le _, TokExt.refl _, CanApp.nil⟩ ?_ (JDropH.refl _) ?_
  · ((try simp only[↓jr,jw,seval,DL]) <;> exact sbq)
  rintro ⟨k, tk, jx⟩ ⟨hk, ht, hc⟩
  simp only at hk ht hc
  (try simp only[↓jr,jw,seval,ht.next])
  refine wq.intro (fun g1 => ?_) (fun g1 => ?_)
  · have hlt : k < (l).length := by omega
    obtain ⟨x, r, hd⟩ : ∃ c_ l_, List.drop k (l) = c_ :: l_ := ⟨_, _, List.drop_eq_getElem_cons hlt⟩
    have hd1 : List.drop (k + 1) (l) = r := by rw [← List.drop_drop, hd]; rfl
    have hmem : x ∈ l := List.mem_of_mem_drop (hd ▸ List.mem_cons_self)
    have hcn := Con.nodesL_mem hmem
    have htk := take_snoc hd
    have hlk : (l.take k).length = k := by rw [List.length_take]; omega
    (try simp only[↓jr,jw,seval,ht.next,hd])
    refine wc.intro (by omega) ?_
    (try simp only[↓jr,jw,seval,ht.next,hd])
    refine JDC.use (ih x hmem _ (Con.oks_mem hc4 hmem) (by omega)) ?_
    (try simp only[↓jr,jw,seval,ht.next])
    refine JAPP.can' hc.push (ht.push 1) (by rw [encs_length Con.len]) (by rw [Con.len]) d_con9 (by omega) (by omega) ?_
    intro tok1 j1 hcan ht3 hle
    have hle' : jx.tnext ≤ j1.tnext := Nat.le_trans (Nat.le_succ _) hle
    (try simp only[↓jr,jw,seval,ht3.next])
    refine JDRAW.oc (by (try simp only[↓jr,jw,seval,jq,qe2,qe3,ht.next,ht3.next,ext_next,ext_tnext,List.length_cons,List.length_nil]) <;> (have h1 := ht.next; have h2 := ht3.next; have h4 := @pushTok_next jx 1; have h3 := @pushTok_tnext jx 1; repeat' (first | exact trivial | refine And.intro ?_ ?_ | exact Nat.le_refl _ | omega | (unfold pid; omega) | (simp only [h1, h2, h4]; done)))) ?_
    (try simp only[↓jr,jw,seval,ht3.next])
    refine wc.intro (R64_add hlt hc3) ?_
    (try simp only[↓jr,jw,seval,ht3.next])
    have e2 : (l.take (k + 1)).length = (l.take k).length + 1 := by rw [htk]; simp
    have e3 : encs Con.enc (l.take k) ++ x.enc = encs Con.enc (l.take (k + 1)) := by rw [htk, encs_append]; simp [encs]
    refine JNEXT.of (k + 1, tok1, j1) ⟨by simp only; omega, ht3, by simp only [e2]; exact hcan⟩ (by simp only; omega) ?_ (JDropH.nextT ht ht3 (TokExt.refl _) hle' ⟨.inl ⟨rfl, rfl⟩, .inl ⟨rfl, rfl⟩, .inr ⟨rfl, ?_⟩, True.intro⟩)
    · (try simp only[↓jr,jw,seval,DL])
      exact ⟨SubB.v, SubB.v, SubB.sl rfl (SubBs.pure (encs_pur Con.pur _)), SubB.ptr (by have := ht3.next; unfold pid; omega), SubB.ptr (by have := ht3.next; unfold pid; omega)⟩
    · simp only [OC, e2, ← e3]
      exact ⟨SubB.v, SubB.v, SubB.can hcan (by rw [pures_append, encs_pur Con.pur, Con.pur]; rfl), True.intro⟩
  · (try simp only[↓jr,jw,seval,ht.next])
    have ek : k = l.length := by omega
    subst ek
    rw [List.take_length]
    refine JFIN.ret ((JDropH.back ht).of_ext) ?_
    exact SubB.agg OC_enc
def ir28 : IFn := ⟨45, [⟨2, (some (some 4))⟩], (.seq (.reg [oA 1 (.box 29 (.r 0)), oA 2 (.alloc 29 [.v (.int .i64 0), .sl .nil 0 [], .sl .nil 0 [], .sl .nil 0 []])]) (.seq (.draw [oA 8 (.fadr 0 (.r 1)), oL 9 8 none, oA 10 (.fadr 3 (.r 1)), oL 11 10 none, oA 3 (.alloc 29 [.v (.int .i64 0), .sl .nil 0 [], .sl .nil 0 [], .sl .nil 0 []]), oA 12 (.app 1 8 (.k (.sl .nil 0 [])) (.r 11)), oA 13 (.build [.v (.int .i64 0), .sl .nil 0 [], .sl .nil 0 [], .sl .nil 0 []] [(0, (1, .r 9)), (3, (1, .r 12))]), oN (.store 4 (.r 3) (.r 13))] [(1, 5), (4, 5)]) (.seq (.seq (.reg [oA 14 (.fadr 1 (.r 1)), oL 15 14 none, oT 16 15 (.lenl (.r 15)), oA 17 (.mov (kI 0))]) (.block 0 (.loop (.seq (.reg [oA 18 (.bin .lss (.r 17) (.r 16))]) (.seq (.cond (.r 18) .skip (.exit 0)) (.seq (.block 1 (.seq (.reg [oA 19 (.iasl 1 (.r 15) (.r 17)), oL 20 19 none, oA 5 (kM 20)]) (.draw [oA 21 (.fadr 1 (.r 3)), oL 22 21 none, oA 23 (kM 5), oA 24 (.app 1 8 (.k (.sl .nil 0 [])) (.r 23)), oA 25 (.bsl 1 1 [.sl .nil 0 []] [(0, (1, .r 24))]), oA 26 (.app 1 24 (.r 22) (.r 25)), oA 27 (.fadr 1 (.r 3)), oN (.store 1 (.r 27) (.r 26))] [(1, 3)]))) (.reg [oA 28 (.bin .add (.r 17) (kI 1)), oA 17 (kM 28)]))))))) (.seq (.seq (.reg [oA 29 (.fadr 2 (.r 1)), oL 30 29 none, oT 31 30 (.lenl (.r 30)), oA 32 (.mov (kI 0))]) (.block 2 (.loop (.seq (.reg [oA 33 (.bin .lss (.r 32) (.r 31))]) (.seq (.cond (.r 33) .skip (.exit 2)) (.seq (.block 3 (.seq (.reg [oA 34 (.iasl 1 (.r 30) (.r 32)), oL 35 34 none, oA 7 (kM 35)]) (.draw [oA 36 (.fadr 2 (.r 3)), oL 37 36 none, oA 38 (kM 7), oA 39 (.app 2 16 (.k (.sl .nil 0 [])) (.r 38)), oA 40 (.bsl 1 1 [.sl .nil 0 []] [(0, (1, .r 39))]), oA 41 (.app 1 24 (.r 37) (.r 40)), oA 42 (.fadr 2 (.r 3)), oN (.store 1 (.r 42) (.r 41))] [(1, 3)]))) (.reg [oA 43 (.bin .add (.r 32) (kI 1)), oA 32 (kM 43)]))))))) (.seq (.reg [oL 44 3 (some 4), oN (.store 4 (.r 2) (.r 44))]) .ret)))))⟩
theorem c28 : cfunc Tryd.prog 28 = some ir28 := by kernel_rfl
theorem k28 : okIR (max 1 ir28.n) ir28.ir = true := by decide +kernel
theorem s_iCopy (i : Itp) (hok : i.ok) (b1 : i.cons.length ≤ 100000) (b2 : i.rols.length ≤ 100000) (b3 : i.inds.length ≤ 100000) (j : JH) : JC Tryd.prog G 28 [.agg i.enc] j (RET (.agg i.enc) j) := by
  refine JC.run hmix c28 (by exact k28) ?_
  (try simp only[↓jr,jw,seval,ji,ext_ext,pid_pid,ir28])
  refine JAPP.can0 CanApp.nil (TokExt.refl j) rfl (by simp [ints]) (one_ints _) (by omega) (by omega) ?_
  intro tk0 j0 hc0 ht0 hl0
  rw [Nat.zero_add, List.nil_append]
  (try simp only[↓jr,jw,seval,ji,ext_ext,pid_pid,ht0.next])
  refine JDRAW.oc (by (try simp only[↓jr,jw,seval,ji,ext_ext,pid_pid,jq,qe2,qe3,ext_next,ext_tnext,pushTok_next,List.length_cons,List.length_nil,ht0.next]) <;> (repeat' (first | exact trivial | refine And.intro ?_ ?_ | exact Nat.le_refl _ | (refine pr_tokx ?_ rfl <;> assumption) | omega | (unfold pid; omega) ))) ?_
  (try simp only[↓jr,jw,seval,ji,ext_ext,pid_pid,ht0.next])
  refine JLOOP.of (σ := Nat × Tok × JH) (fun s => s.1 ≤ i.cons.length ∧ TokExt j s.2.2 ∧ CanApp j s.2.2 s.2.1 1 s.1) (fun s => i.cons.length - s.1)
    (fun s => [(17, I64 s.1), (16, I64 i.cons.length), (15, .sl .none i.cons.length (encs IL i.cons)), (1, .ptr (pid j.next 0) 0), (2, .ptr (pid j.next 1) 0), (3, .ptr (pid j.next 2) 0)])
    (fun s => ext s.2.2 [.cells 29 i.enc, .cells 29 ZI, .cells 29 [I64 i.size, .sl s.2.1 s.1 (encs IL (i.cons.take s.1)), .sl .nil 0 [], .sl .none i.inds.length (ints i.inds)]]) (0, .nil, j0) ⟨Nat.zero_le _, ht0, CanApp.nil⟩ ?_ (JDropH.nextT ht0 ht0 (TokExt.refl _) (Nat.le_refl _) ⟨.inl ⟨rfl, rfl⟩, .inl ⟨rfl, rfl⟩, .inr ⟨rfl, SubB.v, SubB.pure rfl, SubB.pure rfl, SubB.sl rfl (SubBs.pure (ints_pur _)), True.intro⟩, True.intro⟩) ?_
  · have hn0 := ht0.next
    (try simp only[↓jr,jw,seval,ji,ext_ext,pid_pid,DL,ht0.next])
    exact ⟨SubB.v, SubB.v, SubB.sl rfl (SubBs.pure (IL.pur _)), SubB.ptr (by unfold pid; omega), SubB.ptr (by unfold pid; omega), SubB.ptr (by unfold pid; omega)⟩
  rintro ⟨k, tk, jx⟩ ⟨hkk, ht, hc⟩
  simp only at hkk ht hc
  have hnx := ht.next
  (try simp only[↓jr,jw,seval,ji,ext_ext,pid_pid,ht.next])
  refine wq.intro (fun g1 => ?_) (fun g1 => ?_)
  · have hlt : k < (i.cons).length := by omega
    obtain ⟨x, r, hd⟩ : ∃ c_ l_, List.drop k (i.cons) = c_ :: l_ := ⟨_, _, List.drop_eq_getElem_cons hlt⟩
    have hd1 : List.drop (k + 1) (i.cons) = r := by rw [← List.drop_drop, hd]; rfl
    have hmem : x ∈ i.cons := List.mem_of_mem_drop (hd ▸ List.mem_cons_self)
    have hxl := (hok.c2 x hmem).1
    (try simp only[↓jr,jw,seval,ji,ext_ext,pid_pid,hd,ht.next])
    refine wc.intro (by omega) ?_
    (try simp only[↓jr,jw,seval,ji,ext_ext,pid_pid,hd,ht.next])
    refine JAPP.can' CanApp.nil (TokExt.refl jx) rfl (by simp [ints]) (one_ints _) (by omega) (by omega) ?_
    intro tk1 j1 hc1 ht1 hl1
    have ht01 := ht.trans ht1
    (try simp only[↓jr,jw,seval,ji,ext_ext,pid_pid,ht01.next])
    refine JAPP.can' (hc.ext ht1).push (ht01.push 1) (by rw [d_ill, List.length_take]; omega) rfl rfl (by omega) (by omega) ?_
    intro tk2 j2 hc2 ht2 hl2
    have hle' : jx.tnext ≤ j2.tnext := Nat.le_trans hl1 (Nat.le_trans (Nat.le_succ _) hl2)
    have hl3 : j1.tnext + 1 ≤ j2.tnext := hl2
    have hn2 := ht2.next
    (try simp only[↓jr,jw,seval,ji,ext_ext,pid_pid,ht2.next])
    refine JDRAW.oc (by (try simp only[↓jr,jw,seval,ji,ext_ext,pid_pid,jq,qe2,qe3,ext_next,ext_tnext,pushTok_next,List.length_cons,List.length_nil,ht.next,ht01.next,ht2.next]) <;> (repeat' (first | exact trivial | refine And.intro ?_ ?_ | exact Nat.le_refl _ | (refine pr_tokx ?_ rfl <;> assumption) | omega | (unfold pid; omega) ))) ?_
    (try simp only[↓jr,jw,seval,ji,ext_ext,pid_pid,ht2.next])
    refine wc.intro (by unfold R64; omega) ?_
    (try simp only[↓jr,jw,seval,ji,ext_ext,pid_pid,ht2.next])
    have ee : encs IL (i.cons.take (k + 1)) = encs IL (i.cons.take k) ++ [.sl .none x.length (ints x)] := by
      rw [take_snoc hd, encs_append]; rfl
    refine JNEXT.of (k + 1, tk2, j2) ⟨by simp only; omega, ht2, hc2⟩ (by simp only; omega) ?_ (JDropH.nextT ht ht2 (TokExt.refl _) hle' ⟨.inl ⟨rfl, rfl⟩, .inl ⟨rfl, rfl⟩, .inr ⟨rfl, SubB.v, ?_, SubB.pure rfl, SubB.sl rfl (SubBs.pure (ints_pur _)), True.intro⟩, True.intro⟩)
    · (try simp only[↓jr,jw,seval,ji,ext_ext,pid_pid,DL,ht2.next])
      exact ⟨SubB.v, SubB.v, SubB.sl rfl (SubBs.pure (IL.pur _)), SubB.ptr (by unfold pid; omega), SubB.ptr (by unfold pid; omega), SubB.ptr (by unfold pid; omega)⟩
    · rw [ee]
      exact SubB.canS hc2 (by omega) (SubBs.append (SubBs.pure (IL.pur _)) ⟨SubB.sl rfl (SubBs.pure (ints_pur _)), True.intro⟩)
  have ek : k = i.cons.length := by omega
  subst ek
  rw [List.take_length]
  (try simp only[↓jr,jw,seval,ji,ext_ext,pid_pid,ht.next])
  refine JLOOP.of (σ := Nat × Tok × JH) (fun s => s.1 ≤ i.rols.length ∧ TokExt j s.2.2 ∧ CanApp j s.2.2 s.2.1 1 s.1) (fun s => i.rols.length - s.1)
    (fun s => [(32, I64 s.1), (31, I64 i.rols.length), (30, .sl .none i.rols.length (encs PL i.rols)), (1, .ptr (pid j.next 0) 0), (2, .ptr (pid j.next 1) 0), (3, .ptr (pid j.next 2) 0)])
    (fun s => ext s.2.2 [.cells 29 i.enc, .cells 29 ZI, .cells 29 [I64 i.size, .sl .none i.cons.length (encs IL i.cons), .sl s.2.1 s.1 (encs PL (i.rols.take s.1)), .sl .none i.inds.length (ints i.inds)]]) (0, .nil, jx) ⟨Nat.zero_le _, ht, CanApp.nil⟩ ?_ (JDropH.nextT ht ht (TokExt.refl _) (Nat.le_refl _) ⟨.inl ⟨rfl, rfl⟩, .inl ⟨rfl, rfl⟩, .inr ⟨rfl, SubB.v, SubB.sl rfl (SubBs.pure (IL.pur _)), SubB.pure rfl, SubB.sl rfl (SubBs.pure (ints_pur _)), True.intro⟩, True.intro⟩) ?_
  · (try simp only[↓jr,jw,seval,ji,ext_ext,pid_pid,DL,ht.next])
    exact ⟨SubB.v, SubB.v, SubB.sl rfl (SubBs.pure (PL.pur _)), SubB.ptr (by unfold pid; omega), SubB.ptr (by unfold pid; omega), SubB.ptr (by unfold pid; omega)⟩
  clear hc g1 hkk
  clear hnx ht
  clear jx tk
  rintro ⟨k, tk, jx⟩ ⟨hkk, ht, hc⟩
  simp only at hkk ht hc
  have hnx := ht.next
  (try simp only[↓jr,jw,seval,ji,ext_ext,pid_pid,ht.next])
  refine wq.intro (fun g1 => ?_) (fun g1 => ?_)
  · have hlt : k < (i.rols).length := by omega
    obtain ⟨x, r, hd⟩ : ∃ c_ l_, List.drop k (i.rols) = c_ :: l_ := ⟨_, _, List.drop_eq_getElem_cons hlt⟩
    have hd1 : List.drop (k + 1) (i.rols) = r := by rw [← List.drop_drop, hd]; rfl
    have hmem : x ∈ i.rols := List.mem_of_mem_drop (hd ▸ List.mem_cons_self)
    have hxl := (hok.r2 x hmem).1
    (try simp only[↓jr,jw,seval,ji,ext_ext,pid_pid,hd,ht.next])
    refine wc.intro (by omega) ?_
    (try simp only[↓jr,jw,seval,ji,ext_ext,pid_pid,hd,ht.next])
    refine JAPP.can' CanApp.nil (TokExt.refl jx) rfl d_prl (one_prs _) (by omega) (by omega) ?_
    intro tk1 j1 hc1 ht1 hl1
    have ht01 := ht.trans ht1
    (try simp only[↓jr,jw,seval,ji,ext_ext,pid_pid,ht01.next])
    refine JAPP.can' (hc.ext ht1).push (ht01.push 1) (by rw [d_pll, List.length_take]; omega) rfl rfl (by omega) (by omega) ?_
    intro tk2 j2 hc2 ht2 hl2
    have hle' : jx.tnext ≤ j2.tnext := Nat.le_trans hl1 (Nat.le_trans (Nat.le_succ _) hl2)
    have hl3 : j1.tnext + 1 ≤ j2.tnext := hl2
    have hn2 := ht2.next
    (try simp only[↓jr,jw,seval,ji,ext_ext,pid_pid,ht2.next])
    refine JDRAW.oc (by (try simp only[↓jr,jw,seval,ji,ext_ext,pid_pid,jq,qe2,qe3,ext_next,ext_tnext,pushTok_next,List.length_cons,List.length_nil,ht.next,ht01.next,ht2.next]) <;> (repeat' (first | exact trivial | refine And.intro ?_ ?_ | exact Nat.le_refl _ | (refine pr_tokx ?_ rfl <;> assumption) | omega | (unfold pid; omega) ))) ?_
    (try simp only[↓jr,jw,seval,ji,ext_ext,pid_pid,ht2.next])
    refine wc.intro (by unfold R64; omega) ?_
    (try simp only[↓jr,jw,seval,ji,ext_ext,pid_pid,ht2.next])
    have ee : encs PL (i.rols.take (k + 1)) = encs PL (i.rols.take k) ++ [.sl .none x.length (encs PR x)] := by
      rw [take_snoc hd, encs_append]; rfl
    refine JNEXT.of (k + 1, tk2, j2) ⟨by simp only; omega, ht2, hc2⟩ (by simp only; omega) ?_ (JDropH.nextT ht ht2 (TokExt.refl _) hle' ⟨.inl ⟨rfl, rfl⟩, .inl ⟨rfl, rfl⟩, .inr ⟨rfl, SubB.v, SubB.sl rfl (SubBs.pure (IL.pur _)), ?_, SubB.sl rfl (SubBs.pure (ints_pur _)), True.intro⟩, True.intro⟩)
    · (try simp only[↓jr,jw,seval,ji,ext_ext,pid_pid,DL,ht2.next])
      exact ⟨SubB.v, SubB.v, SubB.sl rfl (SubBs.pure (PL.pur _)), SubB.ptr (by unfold pid; omega), SubB.ptr (by unfold pid; omega), SubB.ptr (by unfold pid; omega)⟩
    · rw [ee]
      exact SubB.canS hc2 (by omega) (SubBs.append (SubBs.pure (PL.pur _)) ⟨SubB.sl rfl (SubBs.pure (PR.pur _)), True.intro⟩)
  have ek : k = i.rols.length := by omega
  subst ek
  rw [List.take_length]
  (try simp only[↓jr,jw,seval,ji,ext_ext,pid_pid,ht.next])
  exact JFIN.ret (JDropH.back ht).of_ext (SubB.agg ⟨SubB.v, SubB.sl rfl (SubBs.pure (IL.pur _)), SubB.sl rfl (SubBs.pure (PL.pur _)), SubB.sl rfl (SubBs.pure (ints_pur _)), True.intro⟩)
def ir53 : IFn := ⟨13, [⟨2, (some (some 3))⟩], (.seq (.reg [oA 1 (.box 24 (.r 0)), oA 2 (.alloc 24 [.sl .nil 0 [], .sl .nil 0 [], .sl .nil 0 []])]) (.seq (.draw [oA 3 (.fadr 0 (.r 1)), oL 4 3 none, oA 5 (.app 1 16 (.k (.sl .nil 0 [])) (.r 4)), oA 6 (.fadr 1 (.r 1)), oL 7 6 none, oA 8 (.app 1 16 (.k (.sl .nil 0 [])) (.r 7)), oA 9 (.fadr 2 (.r 1)), oL 10 9 none, oA 11 (.app 1 16 (.k (.sl .nil 0 [])) (.r 10)), oA 12 (.build [.sl .nil 0 [], .sl .nil 0 [], .sl .nil 0 []] [(0, (1, .r 5)), (1, (1, .r 8)), (2, (1, .r 11))]), oN (.store 3 (.r 2) (.r 12))] [(4, 2), (7, 2), (7, 5)]) .ret))⟩
theorem c53 : cfunc Tryd.prog 53 = some ir53 := by kernel_rfl
theorem k53 : okIR (max 1 ir53.n) ir53.ir = true := by decide +kernel
theorem s_nCopy (n : Nms) (b1 : n.cs.length ≤ 100000) (b2 : n.rs.length ≤ 100000) (b3 : n.is.length ≤ 100000) (j : JH) : JC Tryd.prog G 53 [.agg n.enc] j (RET (.agg n.enc) j) := by
  refine JC.run hmix c53 (by exact k53) ?_
  (try simp only[↓jr,jw,seval,ji,ext_ext,pid_pid,ir53])
  refine JAPP.can0 CanApp.nil (TokExt.refl j) rfl (by simp [strs]) (one_strs _) (by omega) (by omega) ?_
  intro tk1 j1 hc1 ht1 hl1
  (try simp only[↓jr,jw,seval,ji,ext_ext,pid_pid,ht1.next])
  refine JAPP.can' CanApp.nil (TokExt.refl j1) rfl (by simp [strs]) (one_strs _) (by omega) (by omega) ?_
  intro tk2 j2 hc2 ht2 hl2
  have ht12 := ht1.trans ht2
  (try simp only[↓jr,jw,seval,ji,ext_ext,pid_pid,ht12.next])
  refine JAPP.can' CanApp.nil (TokExt.refl j2) rfl (by simp [strs]) (one_strs _) (by omega) (by omega) ?_
  intro tk3 j3 hc3 ht3 hl3
  have ht13 := ht12.trans ht3
  (try simp only[↓jr,jw,seval,ji,ext_ext,pid_pid,ht13.next])
  refine JDRAW.oc (by (try simp only[↓jr,jw,seval,ji,ext_ext,pid_pid,jq,qe2,qe3,ext_next,ext_tnext,pushTok_next,List.length_cons,List.length_nil,ht1.next,ht12.next,ht13.next]) <;> (repeat' (first | exact trivial | refine And.intro ?_ ?_ | exact Nat.le_refl _ | (refine pr_tokx ?_ rfl <;> assumption) | omega | (unfold pid; omega) ))) ?_
  (try simp only[↓jr,jw,seval,ji,ext_ext,pid_pid,ht13.next])
  refine JFIN.ret (JDropH.back ht13).of_ext ?_
  exact SubB.agg ⟨SubB.sl rfl (SubBs.pure (strs_pur _)), SubB.sl rfl (SubBs.pure (strs_pur _)), SubB.sl rfl (SubBs.pure (strs_pur _)), True.intro⟩
end
end Go.Proofs.YtnkkeenclhncmaaDoor.Pg
