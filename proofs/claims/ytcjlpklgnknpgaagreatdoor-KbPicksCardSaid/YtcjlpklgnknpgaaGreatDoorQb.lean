/-
  Concepts: sizes, likeness, copies.
-/
import Derived.Test.YtcjlpklgnknpgaaGreatDoorQaa
set_option linter.unusedVariables false
set_option linter.unusedSimpArgs false
set_option maxRecDepth 100000
set_option maxHeartbeats 8000000
namespace Go.Proofs.YtcjlpklgnknpgaaGreatDoor.Pg
open Go
section
variable {m : GM} {G : Nat → Option (List AV)}
mutual
def ceq : Con → Con → Bool
 | .mk o n l, .mk o' n' l' => decide (o = o') && decide (n = n') && ceqL l l'
def ceqL : List Con → List Con → Bool
 | [], [] => true
 | c :: l, d :: l' => ceq c d && ceqL l l'
 | _, _ => false
end
theorem ceqL_len : ∀ {l l' : List Con}, ceqL l l' = true → l.length = l'.length
 | [], [], _ => rfl
 | c :: l, d :: l', h => by simp only [ceqL, Bool.and_eq_true] at h; simp only [List.length_cons]; rw [ceqL_len h.2]
 | [], _ :: _, h => by simp [ceqL] at h
 | _ :: _, [], h => by simp [ceqL] at h
mutual
theorem ceq_refl : ∀ c : Con, ceq c c = true
 | .mk o n l => by simp only [ceq, decide_true, Bool.true_and]; exact ceqL_refl l
theorem ceqL_refl : ∀ l : List Con, ceqL l l = true
 | [] => rfl
 | c :: l => by simp only [ceqL, ceq_refl c, ceqL_refl l, Bool.and_self]
end
noncomputable def ir53 : IFn := ⟨46, [⟨4, none⟩], (.seq (.reg [oA 2 (.box 71 (.r 0)), oA 3 (.box 71 (.r 1)), oA 4 (.mov (kB false))]) (.seq (.seq (.reg [oA 6 (.fadr 0 (.r 2)), oL 7 6 none, oA 8 (.fadr 0 (.r 3)), oL 9 8 none, oA 10 (.bin .neq (.r 7) (.r 9)), oA 11 (kM 10), ⟨(some 12), (some ((11, false))), none, (.fadr 1 (.r 2))⟩, ⟨(some 13), (some ((11, false))), (some (.r 12)), (.load none (.r 12))⟩, ⟨(some 14), (some ((11, false))), none, (.fadr 1 (.r 3))⟩, ⟨(some 15), (some ((11, false))), (some (.r 14)), (.load none (.r 14))⟩, ⟨(some 16), (some ((11, false))), none, (.bin .neq (.r 13) (.r 15))⟩, oA 17 (.pick (.r 11) (kB true) (.r 16)), oA 18 (kM 17), ⟨(some 19), (some ((18, false))), none, (.fadr 2 (.r 2))⟩, ⟨(some 20), (some ((18, false))), (some (.r 19)), (.load none (.r 19))⟩, ⟨(some 21), (some ((18, false))), (some (.r 20)), (.lenl (.r 20))⟩, ⟨(some 22), (some ((18, false))), none, (.fadr 2 (.r 3))⟩, ⟨(some 23), (some ((18, false))), (some (.r 22)), (.load none (.r 22))⟩, ⟨(some 24), (some ((18, false))), (some (.r 23)), (.lenl (.r 23))⟩, ⟨(some 25), (some ((18, false))), none, (.bin .neq (.r 21) (.r 24))⟩, oA 26 (.pick (.r 18) (kB true) (.r 25))]) (.cond (.r 26) (.seq (.reg [oA 4 (.mov (kB false))]) .ret) .skip)) (.seq (.seq (.reg [oA 27 (.fadr 2 (.r 2)), oL 28 27 none, oT 29 28 (.lenl (.r 28)), oA 30 (.mov (kI 0))]) (.block 0 (.loop (.seq (.reg [oA 31 (.bin .lss (.r 30) (.r 29))]) (.seq (.cond (.r 31) .skip (.exit 0)) (.seq (.block 1 (.seq (.reg [oA 32 (kM 30), oA 5 (kM 32)]) (.seq (.draw [oA 33 (.fadr 2 (.r 2)), oL 34 33 none, oA 35 (kM 5), oA 36 (.iasl 3 (.r 34) (.r 35)), oL 37 36 (some 3), oA 38 (.fadr 2 (.r 3)), oL 39 38 none, oA 40 (kM 5), oA 41 (.iasl 3 (.r 39) (.r 40)), oL 42 41 (some 3), oA 43 (.call 53 [.r 37, .r 42]), oA 44 (.not (.r 43))] []) (.cond (.r 44) (.seq (.reg [oA 4 (.mov (kB false))]) .ret) .skip)))) (.reg [oA 45 (.bin .add (.r 30) (kI 1)), oA 30 (kM 45)]))))))) (.seq (.reg [oA 4 (.mov (kB true))]) .ret))))⟩
theorem c53 : cfunc Tryz.prog 53 = some ir53 := by kernel_rfl
theorem k53 : okIR (max 2 ir53.n) ir53.ir = true := by decide +kernel
theorem s_rSame : ∀ (c d : Con) (j : JH), c.ok → d.ok → JC Tryz.prog G 53 [.agg c.enc, .agg d.enc] j (RET (BOO (ceq c d)) j) := by
 intro c
 induction c using Con.ind with
 | h o n l ih =>
 rintro ⟨o', n', l'⟩ j hc hd
 simp only [Con.ok] at hc hd
 obtain ⟨hc1, hc2, hc3, hc4⟩ := hc
 obtain ⟨hd1, hd2, hd3, hd4⟩ := hd
 refine JC.run hmix c53 (by exact k53) ?_
 (try simp only[↓jr,jw,seval,ir53])
 refine wq.intro (fun q1 => ?_) (fun q1 => ?_)
 ·(try simp only[↓jr,jw,seval])
  refine wq.intro (fun q2 => ?_) (fun q2 => ?_)
  ·(try simp only[↓jr,jw,seval])
   refine wq.intro (fun q3 => ?_) (fun q3 => ?_)
   ·(try simp only[↓jr,jw,seval])
    have q3' : l.length = l'.length := by omega
    have hE : ceq (.mk o n l) (.mk o' n' l') = ceqL l l' := by simp only [ceq, decide_eq_true q1, decide_eq_true q2, Bool.true_and]
    refine JLOOP.of (σ := Nat) (fun k => k ≤ l.length ∧ ceqL (l.drop k) (l'.drop k) = ceqL l l') (fun k => l.length - k)
     (fun k => [(30, I64 k), (29, I64 l.length), (2, .ptr (pid j.next 0) 0), (3, .ptr (pid j.next 1) 0)]) (fun k => ext j [.cells 71 (Con.mk o n l).enc, .cells 71 (Con.mk o' n' l').enc]) 0 ⟨by omega, rfl⟩ ?_ (JDropH.refl _) ?_
    ·((try simp only[↓jr,jw,seval,DL]) <;> exact sbq)
    ·rintro k ⟨hk, hI⟩
     (try simp only[↓jr,jw,seval])
     refine wq.intro (fun h1 => ?_) (fun h1 => ?_)
     ·have hlt : k < (l).length := by omega
      obtain ⟨c, r, hd⟩ : ∃ c_ l_, List.drop k (l) = c_ :: l_ := ⟨_, _, List.drop_eq_getElem_cons hlt⟩
      have hd1 : List.drop (k + 1) (l) = r := by rw [← List.drop_drop, hd]; rfl
      have hmem : c ∈ l := List.mem_of_mem_drop (hd ▸ List.mem_cons_self)
      have hlt' : k < l'.length := by omega
      obtain ⟨d, r', hd'⟩ : ∃ c_ l_, List.drop k l' = c_ :: l_ := ⟨_, _, List.drop_eq_getElem_cons hlt'⟩
      have hd1' : List.drop (k + 1) l' = r' := by rw [← List.drop_drop, hd']; rfl
      have hmem' : d ∈ l' := List.mem_of_mem_drop (hd' ▸ List.mem_cons_self)
      rw [hd, hd'] at hI
      simp only [ceqL] at hI
      (try simp only[↓jr,jw,seval,hd,hd'])
      refine wc.intro (by omega) ?_
      (try simp only[↓jr,jw,seval,hd,hd'])
      refine wc.intro (by omega) ?_
      (try simp only[↓jr,jw,seval,hd,hd'])
      refine JDC.use (ih c hmem d _ (Con.oks_mem hc4 hmem) (Con.oks_mem hd4 hmem')) ?_
      (try simp only[↓jr,jw,seval])
      refine JDRAW.oc (by (try simp only[↓jr,jw,seval,jq]) <;> exact orq) ?_; (try simp only[↓jr,jw,seval])
      refine ww.intro (fun h2 => ?_) (fun h2 => ?_)
      ·(try simp only[↓jr,jw,seval])
       refine wc.intro (R64_add hlt hc3) ?_
       (try simp only[↓jr,jw,seval])
       rw [h2, Bool.true_and] at hI
       refine JNEXT.of (k + 1) ⟨by omega, by rw [hd1, hd1', hI]⟩ (by omega) ?_ JDropH.nx
       ((try simp only[↓jr,jw,seval,DL]) <;> exact sbq)
      ·(try simp only[↓jr,jw,seval])
       rw [h2, Bool.false_and] at hI
       refine JFIN.rb ?_
       rw [hE, ← hI]; exact SubB.v
     ·(try simp only[↓jr,jw,seval])
      rw [List.drop_eq_nil_of_le (by omega), List.drop_eq_nil_of_le (by omega)] at hI
      simp only [ceqL] at hI
      refine JFIN.rb ?_
      rw [hE, ← hI]; exact SubB.v
   ·(try simp only[↓jr,jw,seval])
    refine JFIN.rb ?_
    have : ceqL l l' = false := by
     cases h : ceqL l l' with
     | false => rfl
     | true => have := ceqL_len h; omega
    simp only [ceq, this, Bool.and_false]; exact SubB.v
  ·(try simp only[↓jr,jw,seval])
   refine JFIN.rb ?_
   simp only [ceq, decide_eq_false q2, Bool.and_false, Bool.false_and]; exact SubB.v
 ·(try simp only[↓jr,jw,seval])
  refine JFIN.rb ?_
  simp only [ceq, decide_eq_false q1, Bool.false_and]; exact SubB.v
theorem Con.nodesL_len : ∀ l : List Con, l.length ≤ Con.nodesL l
 | [] => by simp
 | .mk o n k :: l => by simp only [List.length_cons, Con.nodesL, Con.nodes]; have := Con.nodesL_len l; omega
abbrev zC : List AV := [I64 0, I64 0, .sl .nil 0 []]
abbrev oC (o n : Int) (t : Tok) (l : List Con) : List AV := [I64 o, I64 n, .sl t l.length (encs Con.enc l)]
theorem oC_enc {no nt : Nat} {o n : Int} {t : Tok} {l : List Con} : SubBs no nt (oC o n t l) (Con.mk o n l).enc := by
 rw [Con.enc_eq, Con.encs_eq]
 exact ⟨SubB.v, SubB.v, SubB.sl rfl (SubBs.pure (encs_pur Con.pur _)), True.intro⟩
theorem take_one {l : List Con} {k : Nat} {c : Con} {r : List Con} (h : l.drop k = c :: r) : l.take (k + 1) = l.take k ++ [c] := by
 have : l[k]? = some c := by rw [← List.head?_drop, h]; rfl
 rw [List.take_add_one, this]; rfl
noncomputable def ir68 : IFn := ⟨27, [⟨2, (some (some 3))⟩], (.seq (.reg [oA 1 (.box 71 (.r 0)), oA 2 (.alloc 71 [.v (.int .i64 0), .v (.int .i64 0), .sl .nil 0 []])]) (.seq (.reg [oA 6 (.fadr 0 (.r 1)), oL 7 6 none, oA 8 (.fadr 1 (.r 1)), oL 9 8 none, oA 10 (.build [.v (.int .i64 0), .v (.int .i64 0), .sl .nil 0 []] [(0, (1, .r 7)), (1, (1, .r 9))]), oA 3 (.alloc 71 [.v (.int .i64 0), .v (.int .i64 0), .sl .nil 0 []]), oN (.store 3 (.r 3) (.r 10))]) (.seq (.seq (.reg [oA 11 (.fadr 2 (.r 1)), oL 12 11 none, oT 13 12 (.lenl (.r 12)), oA 14 (.mov (kI 0))]) (.block 0 (.loop (.seq (.reg [oA 15 (.bin .lss (.r 14) (.r 13))]) (.seq (.cond (.r 15) .skip (.exit 0)) (.seq (.block 1 (.seq (.reg [oA 16 (.iasl 3 (.r 12) (.r 14)), oL 17 16 (some 3), oA 5 (.alloc 71 [.v (.int .i64 0), .v (.int .i64 0), .sl .nil 0 []]), oN (.store 3 (.r 5) (.r 17))]) (.draw [oA 18 (.fadr 2 (.r 3)), oL 19 18 none, oL 20 5 (some 3), oT 21 20 (.call 68 [.r 20]), oA 22 (.bsl 1 3 [.v (.int .i64 0), .v (.int .i64 0), .sl .nil 0 []] [(0, (3, .r 21))]), oA 23 (.app 3 40 (.r 19) (.r 22)), oA 24 (.fadr 2 (.r 3)), oN (.store 1 (.r 24) (.r 23))] [(1, 3)]))) (.reg [oA 25 (.bin .add (.r 14) (kI 1)), oA 14 (kM 25)]))))))) (.seq (.reg [oL 26 3 (some 3), oN (.store 3 (.r 2) (.r 26))]) .ret))))⟩
theorem c68 : cfunc Tryz.prog 68 = some ir68 := by kernel_rfl
theorem k68 : okIR (max 1 ir68.n) ir68.ir = true := by decide +kernel
theorem s_rCopy : ∀ (c : Con) (j : JH), c.ok → c.nodes ≤ 1000000 → JC Tryz.prog G 68 [.agg c.enc] j (RET (.agg c.enc) j) := by
 intro c
 induction c using Con.ind with
 | h o n l ih =>
 intro j hc hm
 simp only [Con.ok] at hc
 obtain ⟨hc1, hc2, hc3, hc4⟩ := hc
 simp only [Con.nodes] at hm
 have hll : l.length ≤ Con.nodesL l := Con.nodesL_len l
 refine JC.run hmix c68 (by exact k68) ?_
 (try simp only[↓jr,jw,seval,ir68])
 refine JLOOP.of (σ := Nat × Tok × JH) (fun s => s.1 ≤ l.length ∧ TokExt j s.2.2 ∧ CanApp j s.2.2 s.2.1 3 (l.take s.1).length) (fun s => l.length - s.1)
  (fun s => [(14, I64 s.1), (13, I64 l.length), (12, .sl .none l.length (encs Con.enc l)), (2, .ptr (pid j.next 1) 0), (3, .ptr (pid j.next 2) 0)])
  (fun s => ext s.2.2 [.cells 71 (Con.mk o n l).enc, .cells 71 zC, .cells 71 (oC o n s.2.1 (l.take s.1))]) (0, .nil, j) ⟨Nat.zero_le _, TokExt.refl _, CanApp.nil⟩ ?_ (JDropH.refl _) ?_
 ·((try simp only[↓jr,jw,seval,DL]) <;> exact sbq)
 rintro ⟨k, tk, jx⟩ ⟨hk, ht, hc⟩
 simp only at hk ht hc
 (try simp only[↓jr,jw,seval,ht.next])
 refine wq.intro (fun g1 => ?_) (fun g1 => ?_)
 ·have hlt : k < (l).length := by omega
  obtain ⟨x, r, hd⟩ : ∃ c_ l_, List.drop k (l) = c_ :: l_ := ⟨_, _, List.drop_eq_getElem_cons hlt⟩
  have hd1 : List.drop (k + 1) (l) = r := by rw [← List.drop_drop, hd]; rfl
  have hmem : x ∈ l := List.mem_of_mem_drop (hd ▸ List.mem_cons_self)
  have hcn := Con.nodesL_mem hmem
  have htk := take_one hd
  have hlk : (l.take k).length = k := by rw [List.length_take]; omega
  (try simp only[↓jr,jw,seval,ht.next,hd])
  refine wc.intro (by omega) ?_
  (try simp only[↓jr,jw,seval,ht.next,hd])
  refine JDC.use (ih x hmem _ (Con.oks_mem hc4 hmem) (by omega)) ?_
  (try simp only[↓jr,jw,seval,ht.next])
  refine JAPP.can' hc.push (ht.push 1) (by rw [encs_length Con.len]) (by rw [Con.len]) d_con9 (by omega) (by omega) ?_
  intro tok1 j1 hcan ht3 hle
  have hle' : jx.tnext ≤ j1.tnext := Nat.le_trans (Nat.le_succ _) hle
  (try simp only[↓jr,jw,seval,ht3.next])
  refine JDRAW.oc (by (try simp only[↓jr,jw,seval,jq,qe2,qe3,ht.next,ht3.next,ext_next,ext_tnext,List.length_cons,List.length_nil]) <;> (have h1 := ht.next; have h2 := ht3.next; have h4 := @pushTok_next jx 1; have h3 := @pushTok_tnext jx 1; repeat' (first | exact trivial | refine And.intro ?_ ?_ | exact Nat.le_refl _ | omega | (unfold pid; omega) | (simp only [h1, h2, h4]; done)))) ?_
  (try simp only[↓jr,jw,seval,ht3.next])
  refine wc.intro (R64_add hlt hc3) ?_
  (try simp only[↓jr,jw,seval,ht3.next])
  have e2 : (l.take (k + 1)).length = (l.take k).length + 1 := by rw [htk]; simp
  have e3 : encs Con.enc (l.take k) ++ x.enc = encs Con.enc (l.take (k + 1)) := by rw [htk, encs_append]; simp [encs]
  refine JNEXT.of (k + 1, tok1, j1) ⟨by simp only; omega, ht3, by simp only [e2]; exact hcan⟩ (by simp only; omega) ?_ (JDropH.nextT ht ht3 (TokExt.refl _) hle' ⟨.inl ⟨rfl, rfl⟩, .inl ⟨rfl, rfl⟩, .inr ⟨rfl, ?_⟩, True.intro⟩)
  ·(try simp only[↓jr,jw,seval,DL])
   exact ⟨SubB.v, SubB.v, SubB.sl rfl (SubBs.pure (encs_pur Con.pur _)), SubB.ptr (by have := ht3.next; unfold pid; omega), SubB.ptr (by have := ht3.next; unfold pid; omega)⟩
  ·simp only [oC, e2, ← e3]
   exact ⟨SubB.v, SubB.v, SubB.can hcan (by rw [pures_append, encs_pur Con.pur, Con.pur]; rfl), True.intro⟩
 ·(try simp only[↓jr,jw,seval,ht.next])
  have ek : k = l.length := by omega
  subst ek
  rw [List.take_length]
  refine JFIN.ret ((JDropH.back ht).of_ext) ?_
  exact SubB.agg oC_enc
end
end Go.Proofs.YtcjlpklgnknpgaaGreatDoor.Pg
