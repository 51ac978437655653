/-
  Normal forms.
-/
import Derived.Test.YtcajjicdbphkpaaGreatDoorQb
set_option linter.unusedVariables false
set_option linter.unusedSimpArgs false
set_option maxRecDepth 100000
set_option maxHeartbeats 8000000
namespace Go.Proofs.YtcajjicdbphkpaaGreatDoor.Pg
open Go
def dualI (o : Int) : Int := if o = 1 then 2 else if o = 2 then 1 else if o = 4 then 5 else if o = 5 then 4 else if o = 6 then 7 else if o = 7 then 6 else 0
mutual
def nnf : Con → Bool → Con
  | .mk o n l, no => if o = 0 then (if no then .mk 3 0 [.mk 0 n []] else .mk 0 n []) else if o = 3 then nnfH l (!no) else .mk (if no then dualI o else o) n (nnfs l no)
def nnfH : List Con → Bool → Con
  | [], _ => .mk 0 0 []
  | c :: _, no => nnf c no
def nnfs : List Con → Bool → List Con
  | [], _ => []
  | c :: l, no => nnf c no :: nnfs l no
end
theorem nnf_mk {o n : Int} {l : List Con} {no : Bool} (h : ¬ o = 0) (h' : ¬ o = 3) : nnf (.mk o n l) no = .mk (if no then dualI o else o) n (nnfs l no) := by simp only [nnf, if_neg h, if_neg h']
theorem nnfs_append {no : Bool} : ∀ {l r : List Con}, nnfs (l ++ r) no = nnfs l no ++ nnfs r no
  | [], r => rfl
  | c :: l, r => by simp only [List.cons_append, nnfs, nnfs_append]
theorem nnfs_len {no : Bool} : ∀ {l : List Con}, (nnfs l no).length = l.length
  | [] => rfl
  | c :: l => by simp only [nnfs, List.length_cons, nnfs_len]
theorem shapedL_mem {nc nr : Nat} : ∀ {l : List Con}, shapedL nc nr l = true → ∀ {c : Con}, c ∈ l → shaped nc nr c = true
  | d :: l, h, c, m => by
    simp only [shapedL, Bool.and_eq_true] at h
    rcases List.mem_cons.1 m with rfl | m
    · exact h.1
    · exact shapedL_mem h.2 m
theorem arity_in {o : Int} {k : Nat} (h : arity o = k) : 0 ≤ o ∧ o ≤ 7 := by
  by_cases q : o < 0 ∨ 7 < o
  · rw [arity_ne q] at h; omega
  · omega
section
variable {m : Int} {G : Nat → Option (List AV)}
theorem GGd : GG (GM1 m) 0 = some [I64 0, I64 2, I64 1, I64 0, I64 5, I64 4, I64 7, I64 6] := rfl
theorem duals_at {op : Int} (h0 : 0 ≤ op) (h1 : op ≤ 7) : icut none [I64 0, I64 2, I64 1, I64 0, I64 5, I64 4, I64 7, I64 6] op.toNat = some (I64 (dualI op)) := by
  have : op = 0 ∨ op = 1 ∨ op = 2 ∨ op = 3 ∨ op = 4 ∨ op = 5 ∨ op = 6 ∨ op = 7 := by omega
  rcases this with rfl | rfl | rfl | rfl | rfl | rfl | rfl | rfl <;> rfl
theorem s_Nnf (nc nr : Nat) : ∀ (c : Con) (no : Bool) (j : JH), c.ok → shaped nc nr c = true → c.nodes ≤ 1000000 → JC Tryz.prog (GG (GM1 m)) 41 [.agg c.enc, BOO no] j (RET (.agg (nnf c no).enc) j) := by
  intro c
  induction c using Con.ind with
  | h o n l ih =>
  intro no j hc hs hm
  simp only [Con.ok] at hc
  obtain ⟨hc1, hc2, hc3, hc4⟩ := hc
  simp only [Con.nodes] at hm
  have hll : l.length ≤ Con.nodesL l := Con.nodesL_len l
  obtain ⟨⟨hs1, hs3, hs4, hs5, hs6⟩, hs2⟩ : SH nc nr o n l.length ∧ shapedL nc nr l = true := by rw [← shaped_mk]; exact hs
  have har := arity_in hs1
  refine JC.run hmix c41 (by exact k41) ?_
  (try simp only[↓jr,jw,seval,GGd,ir41])
  refine wq.intro (fun g1o => ?_) (fun g1o => ?_)
  · (try simp only[↓jr,jw,seval,GGd])
    refine ww.intro (fun hno => ?_) (fun hno => ?_)
    · (try simp only[↓jr,jw,seval,GGd])
      refine JFIN.rb ?_
      subst hno; subst g1o
      exact SubB.agg ⟨SubB.v, SubB.v, SubB.sl rfl ⟨SubB.v, SubB.v, SubB.sl rfl True.intro, True.intro⟩, True.intro⟩
    · (try simp only[↓jr,jw,seval,GGd])
      refine JFIN.rb ?_
      subst hno; subst g1o
      exact SubB.agg ⟨SubB.v, SubB.v, SubB.sl rfl True.intro, True.intro⟩
  (try simp only[↓jr,jw,seval,GGd])
  refine wq.intro (fun g3o => ?_) (fun g3o => ?_)
  · have hl1 : l.length = 1 := by subst g3o; simp [arity] at hs1; omega
    obtain ⟨c, rfl⟩ : ∃ c, l = [c] := by
      cases l with
      | nil => simp at hl1
      | cons c r => cases r with | nil => exact ⟨c, rfl⟩ | cons _ _ => simp at hl1
    (try simp only[↓jr,jw,seval,GGd,List.drop_zero])
    refine JCs.ret (ih c (by simp) (!no) _ (Con.oks_mem hc4 (by simp)) (shapedL_mem hs2 (by simp)) (by simp only [Con.nodesL] at hm; omega)) ?_
    (try simp only[↓jr,jw,seval,GGd])
    refine JFIN.rb ?_
    subst g3o
    exact SubB.pure (by simp only [AV.pure]; exact Con.pur _)
  (try simp only[↓jr,jw,seval,GGd])
  refine ww.intro (fun hno => ?_) (fun hno => ?_)
  · subst hno
    (try simp only[↓jr,jw,seval,GGd])
    refine wc.intro (by omega) ?_
    (try simp only[↓jr,jw,seval,GGd,duals_at har.1 har.2])
    refine JLOOP.of (σ := Nat × Tok × JH) (fun s => s.1 ≤ l.length ∧ TokExt j s.2.2 ∧ CanApp j s.2.2 s.2.1 3 (nnfs (l.take s.1) true).length) (fun s => l.length - s.1)
      (fun s => [(44, I64 s.1), (43, I64 l.length), (42, .sl .none l.length (encs Con.enc l)), (1, BOO true), (4, .ptr (pid j.next 1) 0), (5, .ptr (pid j.next 2) 0)])
      (fun s => ext s.2.2 [.cells 27 (Con.mk o n l).enc, .cells 27 zC, .cells 27 (oC (dualI o) n s.2.1 (nnfs (l.take s.1) true))]) (0, .nil, j) ⟨Nat.zero_le _, TokExt.refl _, CanApp.nil⟩ ?_ (JDropH.refl _) ?_
    · ((try simp only[↓jr,jw,seval,GGd,DL]) <;> exact sbq)
    rintro ⟨k, tk, jx⟩ ⟨hk, ht, hc⟩
    simp only at hk ht hc
    (try simp only[↓jr,jw,seval,GGd,ht.next])
    refine wq.intro (fun g1 => ?_) (fun g1 => ?_)
    · have hlt : k < (l).length := by omega
      obtain ⟨x, r, hd⟩ : ∃ c_ l_, List.drop k (l) = c_ :: l_ := ⟨_, _, List.drop_eq_getElem_cons hlt⟩
      have hd1 : List.drop (k + 1) (l) = r := by rw [← List.drop_drop, hd]; rfl
      have hmem : x ∈ l := List.mem_of_mem_drop (hd ▸ List.mem_cons_self)
      have hcn := Con.nodesL_mem hmem
      have htk := take_one hd
      have hlk : (nnfs (l.take k) true).length = k := by rw [nnfs_len, List.length_take]; omega
      (try simp only[↓jr,jw,seval,GGd,ht.next,hd])
      refine wc.intro (by omega) ?_
      (try simp only[↓jr,jw,seval,GGd,ht.next,hd])
      refine JDC.use (ih x hmem true _ (Con.oks_mem hc4 hmem) (shapedL_mem hs2 hmem) (by omega)) ?_
      (try simp only[↓jr,jw,seval,GGd,ht.next])
      refine JAPP.can' hc.push (ht.push 1) (by rw [encs_length Con.len]) (by rw [Con.len]) d_con9 (by omega) (by omega) ?_
      intro tok1 j1 hcan ht3 hle
      have hle' : jx.tnext ≤ j1.tnext := Nat.le_trans (Nat.le_succ _) hle
      (try simp only[↓jr,jw,seval,GGd,ht3.next])
      refine JDRAW.oc (by (try simp only[↓jr,jw,seval,GGd,jq,qe2,qe3,ht.next,ht3.next,ext_next,ext_tnext,List.length_cons,List.length_nil]) <;> (have h1 := ht.next; have h2 := ht3.next; have h4 := @pushTok_next jx 1; have h3 := @pushTok_tnext jx 1; repeat' (first | exact trivial | refine And.intro ?_ ?_ | exact Nat.le_refl _ | omega | (unfold pid; omega) | (simp only [h1, h2, h4]; done)))) ?_
      (try simp only[↓jr,jw,seval,GGd,ht3.next])
      refine wc.intro (R64_add hlt hc3) ?_
      (try simp only[↓jr,jw,seval,GGd,ht3.next])
      have e1 : nnfs (l.take (k + 1)) true = nnfs (l.take k) true ++ [nnf x true] := by rw [htk, nnfs_append]; rfl
      have e2 : (nnfs (l.take (k + 1)) true).length = (nnfs (l.take k) true).length + 1 := by rw [e1]; simp
      have e3 : encs Con.enc (nnfs (l.take k) true) ++ (nnf x true).enc = encs Con.enc (nnfs (l.take (k + 1)) true) := by rw [e1, encs_append]; simp [encs]
      refine JNEXT.of (k + 1, tok1, j1) ⟨by simp only; omega, ht3, by simp only [e2]; exact hcan⟩ (by simp only; omega) ?_ (JDropH.nextT ht ht3 (TokExt.refl _) hle' ⟨.inl ⟨rfl, rfl⟩, .inl ⟨rfl, rfl⟩, .inr ⟨rfl, ?_⟩, True.intro⟩)
      · (try simp only[↓jr,jw,seval,GGd,DL])
        exact ⟨SubB.v, SubB.v, SubB.sl rfl (SubBs.pure (encs_pur Con.pur _)), SubB.v, SubB.ptr (by have := ht3.next; unfold pid; omega), SubB.ptr (by have := ht3.next; unfold pid; omega)⟩
      · simp only [oC, e2, ← e3]
        exact ⟨SubB.v, SubB.v, SubB.can hcan (by rw [pures_append, encs_pur Con.pur, Con.pur]; rfl), True.intro⟩
    · (try simp only[↓jr,jw,seval,GGd,ht.next])
      have ek : k = l.length := by omega
      subst ek
      rw [List.take_length]
      refine JFIN.ret ((JDropH.back ht).of_ext) ?_
      rw [nnf_mk g1o g3o]
      exact SubB.agg oC_enc
  · subst hno
    (try simp only[↓jr,jw,seval,GGd])
    refine JLOOP.of (σ := Nat × Tok × JH) (fun s => s.1 ≤ l.length ∧ TokExt j s.2.2 ∧ CanApp j s.2.2 s.2.1 3 (nnfs (l.take s.1) false).length) (fun s => l.length - s.1)
      (fun s => [(44, I64 s.1), (43, I64 l.length), (42, .sl .none l.length (encs Con.enc l)), (1, BOO false), (4, .ptr (pid j.next 1) 0), (5, .ptr (pid j.next 2) 0)])
      (fun s => ext s.2.2 [.cells 27 (Con.mk o n l).enc, .cells 27 zC, .cells 27 (oC (o) n s.2.1 (nnfs (l.take s.1) false))]) (0, .nil, j) ⟨Nat.zero_le _, TokExt.refl _, CanApp.nil⟩ ?_ (JDropH.refl _) ?_
    · ((try simp only[↓jr,jw,seval,GGd,DL]) <;> exact sbq)
    rintro ⟨k, tk, jx⟩ ⟨hk, ht, hc⟩
    simp only at hk ht hc
    (try simp only[↓jr,jw,seval,GGd,ht.next])
    refine wq.intro (fun g1 => ?_) (fun g1 => ?_)
    · have hlt : k < (l).length := by omega
      obtain ⟨x, r, hd⟩ : ∃ c_ l_, List.drop k (l) = c_ :: l_ := ⟨_, _, List.drop_eq_getElem_cons hlt⟩
      have hd1 : List.drop (k + 1) (l) = r := by rw [← List.drop_drop, hd]; rfl
      have hmem : x ∈ l := List.mem_of_mem_drop (hd ▸ List.mem_cons_self)
      have hcn := Con.nodesL_mem hmem
      have htk := take_one hd
      have hlk : (nnfs (l.take k) false).length = k := by rw [nnfs_len, List.length_take]; omega
      (try simp only[↓jr,jw,seval,GGd,ht.next,hd])
      refine wc.intro (by omega) ?_
      (try simp only[↓jr,jw,seval,GGd,ht.next,hd])
      refine JDC.use (ih x hmem false _ (Con.oks_mem hc4 hmem) (shapedL_mem hs2 hmem) (by omega)) ?_
      (try simp only[↓jr,jw,seval,GGd,ht.next])
      refine JAPP.can' hc.push (ht.push 1) (by rw [encs_length Con.len]) (by rw [Con.len]) d_con9 (by omega) (by omega) ?_
      intro tok1 j1 hcan ht3 hle
      have hle' : jx.tnext ≤ j1.tnext := Nat.le_trans (Nat.le_succ _) hle
      (try simp only[↓jr,jw,seval,GGd,ht3.next])
      refine JDRAW.oc (by (try simp only[↓jr,jw,seval,GGd,jq,qe2,qe3,ht.next,ht3.next,ext_next,ext_tnext,List.length_cons,List.length_nil]) <;> (have h1 := ht.next; have h2 := ht3.next; have h4 := @pushTok_next jx 1; have h3 := @pushTok_tnext jx 1; repeat' (first | exact trivial | refine And.intro ?_ ?_ | exact Nat.le_refl _ | omega | (unfold pid; omega) | (simp only [h1, h2, h4]; done)))) ?_
      (try simp only[↓jr,jw,seval,GGd,ht3.next])
      refine wc.intro (R64_add hlt hc3) ?_
      (try simp only[↓jr,jw,seval,GGd,ht3.next])
      have e1 : nnfs (l.take (k + 1)) false = nnfs (l.take k) false ++ [nnf x false] := by rw [htk, nnfs_append]; rfl
      have e2 : (nnfs (l.take (k + 1)) false).length = (nnfs (l.take k) false).length + 1 := by rw [e1]; simp
      have e3 : encs Con.enc (nnfs (l.take k) false) ++ (nnf x false).enc = encs Con.enc (nnfs (l.take (k + 1)) false) := by rw [e1, encs_append]; simp [encs]
      refine JNEXT.of (k + 1, tok1, j1) ⟨by simp only; omega, ht3, by simp only [e2]; exact hcan⟩ (by simp only; omega) ?_ (JDropH.nextT ht ht3 (TokExt.refl _) hle' ⟨.inl ⟨rfl, rfl⟩, .inl ⟨rfl, rfl⟩, .inr ⟨rfl, ?_⟩, True.intro⟩)
      · (try simp only[↓jr,jw,seval,GGd,DL])
        exact ⟨SubB.v, SubB.v, SubB.sl rfl (SubBs.pure (encs_pur Con.pur _)), SubB.v, SubB.ptr (by have := ht3.next; unfold pid; omega), SubB.ptr (by have := ht3.next; unfold pid; omega)⟩
      · simp only [oC, e2, ← e3]
        exact ⟨SubB.v, SubB.v, SubB.can hcan (by rw [pures_append, encs_pur Con.pur, Con.pur]; rfl), True.intro⟩
    · (try simp only[↓jr,jw,seval,GGd,ht.next])
      have ek : k = l.length := by omega
      subst ek
      rw [List.take_length]
      refine JFIN.ret ((JDropH.back ht).of_ext) ?_
      rw [nnf_mk g1o g3o]
      exact SubB.agg oC_enc
end
end Go.Proofs.YtcajjicdbphkpaaGreatDoor.Pg
