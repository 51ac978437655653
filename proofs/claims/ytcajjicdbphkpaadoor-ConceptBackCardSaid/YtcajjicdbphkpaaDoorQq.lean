/-
  The program's reader: the concept of a tree.
-/
import Derived.Test.YtcajjicdbphkpaaDoorQp
set_option linter.unusedVariables false
set_option linter.unusedSimpArgs false
set_option maxRecDepth 100000
set_option maxHeartbeats 8000000
namespace Go.Proofs.YtcajjicdbphkpaaDoor.Pg
open Go
mutual
def IT.con (v : Nat → Int) : IT → Con
  | .mk i op _ l => .mk op (v i) (IT.cons v l)
def IT.cons (v : Nat → Int) : List IT → List Con
  | [] => []
  | t :: l => t.con v :: IT.cons v l
end
theorem IT.cons_append {v : Nat → Int} : ∀ {l r : List IT}, IT.cons v (l ++ r) = IT.cons v l ++ IT.cons v r
  | [], r => rfl
  | t :: l, r => by simp only [List.cons_append, IT.cons, IT.cons_append]
theorem IT.cons_len {v : Nat → Int} : ∀ {l : List IT}, (IT.cons v l).length = l.length
  | [] => rfl
  | t :: l => by simp only [IT.cons, List.length_cons, IT.cons_len]
theorem IT.ind {p : IT → Prop} (h : ∀ i op ref args, (∀ c ∈ args, p c) → p (.mk i op ref args)) (c : IT) : p c := by
  have aux : ∀ (n : Nat) (c : IT), SizeOf.sizeOf c < n → p c := by
    intro n
    induction n with
    | zero => intro c hc; omega
    | succ n ih =>
      intro c hc
      cases c with
      | mk i op ref args =>
        refine h i op ref args fun d hd => ih d ?_
        have := List.sizeOf_lt_of_mem hd
        simp only [IT.mk.sizeOf_spec] at hc
        omega
  exact aux (SizeOf.sizeOf c + 1) c (Nat.lt_succ_self _)
theorem TReps.mem {v : Nat → Int} {j : JH} {ro : Nat} : ∀ {l : List IT}, TReps v j ro l → ∀ {t : IT}, t ∈ l → TRep v j ro t
  | x :: l, h, t, m => by
    simp only [TReps] at h
    rcases List.mem_cons.1 m with rfl | m
    · exact h.1
    · exact TReps.mem h.2 m
theorem ptrs_sub {no nt : Nat} : ∀ {l : List IT}, (∀ t ∈ l, t.id < no) → SubBs no nt (l.map fun t => AV.ptr t.id 0) (l.map fun t => AV.ptr t.id 0)
  | [], _ => True.intro
  | t :: l, h => ⟨SubB.ptr (h t (by simp)), ptrs_sub fun x hx => h x (by simp [hx])⟩
theorem IT.con_mem {v : Nat → Int} : ∀ {l : List IT} {t : IT}, t ∈ l → t.con v ∈ IT.cons v l
  | x :: l, t, m => by
    simp only [IT.cons, List.mem_cons]
    rcases List.mem_cons.1 m with rfl | m
    · exact .inl rfl
    · exact .inr (IT.con_mem m)
theorem dropmap {α β : Type} {f : α → β} {l : List α} {k : Nat} : List.drop k (l.map f) = (l.drop k).map f := by simp
theorem take_oneI {l : List IT} {k : Nat} {c : IT} {r : List IT} (h : l.drop k = c :: r) : l.take (k + 1) = l.take k ++ [c] := by
  have : l[k]? = some c := by rw [← List.head?_drop, h]; rfl
  rw [List.take_add_one, this]; rfl
section
variable {m : Int} {G : Nat → Option (List AV)}
theorem s_Done : ∀ (I : IT) (v : Nat → Int) (ro : Nat) (j : JH), TRep v j ro I → (I.con v).nodes ≤ 1000000 → JC Tryd.prog G 47 [.ptr I.id 0] j (RET (.agg (I.con v).enc) j) := by
  intro I
  induction I using IT.ind with
  | h i op ref l ih =>
  intro v ro j h hm
  simp only [TRep] at h
  obtain ⟨⟨tok, ⟨hi, hir, hg⟩, _⟩, hs⟩ := h
  simp only [IT.con, Con.nodes] at hm
  have hll := Con.nodesL_len (IT.cons v l)
  rw [IT.cons_len] at hll
  have hids : ∀ t ∈ l, t.id < j.next := fun t ht => (TReps.mem hs ht).id_lt
  simp only [IT.id]
  refine JC.run hmix c47 (by exact k47) ?_
  (try simp only[↓jr,jw,seval,ext_get_old,hi,hg,dropmap,List.map_cons,List.length_map,ir47])
  refine JLOOP.of (σ := Nat × Tok × JH) (fun s => s.1 ≤ l.length ∧ TokExt j s.2.2 ∧ CanApp j s.2.2 s.2.1 3 (IT.cons v (l.take s.1)).length) (fun s => l.length - s.1)
    (fun s => [(15, I64 s.1), (14, I64 l.length), (13, .sl .none l.length (l.map fun t => AV.ptr t.id 0)), (2, .ptr (pid j.next 0) 0), (3, .ptr (pid j.next 1) 0)])
    (fun s => ext s.2.2 [.cells 27 zC, .cells 27 (oC op (v i) s.2.1 (IT.cons v (l.take s.1)))]) (0, .nil, j) ⟨Nat.zero_le _, TokExt.refl _, CanApp.nil⟩ ?_ (JDropH.refl _) ?_
  · (try simp only[↓jr,jw,seval,ext_get_old,hi,hg,dropmap,List.map_cons,List.length_map,DL])
    exact ⟨SubB.v, SubB.v, SubB.sl rfl (ptrs_sub fun t ht => by have := hids t ht; unfold pid; omega), SubB.ptr (by unfold pid; omega), SubB.ptr (by unfold pid; omega)⟩
  rintro ⟨k, tk, jx⟩ ⟨hk, ht, hc⟩
  simp only at hk ht hc
  (try simp only[↓jr,jw,seval,ext_get_old,hi,hg,dropmap,List.map_cons,List.length_map,ht.next])
  refine wq.intro (fun g1 => ?_) (fun g1 => ?_)
  · have hlt : k < (l).length := by omega
    obtain ⟨x, r, hd⟩ : ∃ c_ l_, List.drop k (l) = c_ :: l_ := ⟨_, _, List.drop_eq_getElem_cons hlt⟩
    have hd1 : List.drop (k + 1) (l) = r := by rw [← List.drop_drop, hd]; rfl
    have hmem : x ∈ l := List.mem_of_mem_drop (hd ▸ List.mem_cons_self)
    have htk := take_oneI hd
    have hlk : (IT.cons v (l.take k)).length = k := by rw [IT.cons_len, List.length_take]; omega
    (try simp only[↓jr,jw,seval,ext_get_old,hi,hg,dropmap,List.map_cons,List.length_map,ht.next,hd])
    refine wc.intro (by omega) ?_
    (try simp only[↓jr,jw,seval,ext_get_old,hi,hg,dropmap,List.map_cons,List.length_map,ht.next,hd])
    have hxn := Con.nodesL_mem (IT.con_mem (v := v) hmem)
    have gx : ∀ objs, Grow ro 0 j (ext jx objs) := fun objs => ⟨by rw [ext_next, ht.next]; unfold pid; omega, ht.tnext, fun o ho _ => by rw [ext_get_old (by rw [ht.next]; exact ho)]; exact ht.get o ho, fun t ht => by omega⟩
    refine JDC.use (ih x hmem v ro _ (TRep.grow (gx _) x (TReps.mem hs hmem)) (by omega)) ?_
    (try simp only[↓jr,jw,seval,ext_get_old,hi,hg,dropmap,List.map_cons,List.length_map,ht.next])
    refine JAPP.can' hc.push (ht.push 1) (by rw [encs_length Con.len]) (by rw [Con.len]) d_con9 (by omega) (by omega) ?_
    intro tok1 j1 hcan ht3 hle
    have hle' : jx.tnext ≤ j1.tnext := Nat.le_trans (Nat.le_succ _) hle
    (try simp only[↓jr,jw,seval,ext_get_old,hi,hg,dropmap,List.map_cons,List.length_map,ht3.next])
    have hxid := hids x hmem
    refine JDRAW.oc (by (try simp only[↓jr,jw,seval,ext_get_old,hi,hg,dropmap,List.map_cons,List.length_map,jq,qe2,qe3,ht.next,ht3.next,ext_next,ext_tnext,List.length_cons,List.length_nil]) <;> (have h1 := ht.next; have h2 := ht3.next; have h4 := @pushTok_next jx 1; have h3 := @pushTok_tnext jx 1; repeat' (first | exact trivial | refine And.intro ?_ ?_ | exact Nat.le_refl _ | omega | (unfold pid; omega) | (simp only [h1, h2, h4]; done)))) ?_
    (try simp only[↓jr,jw,seval,ext_get_old,hi,hg,dropmap,List.map_cons,List.length_map,ht3.next])
    refine wc.intro (by unfold R64; omega) ?_
    (try simp only[↓jr,jw,seval,ext_get_old,hi,hg,dropmap,List.map_cons,List.length_map,ht3.next])
    have e1 : IT.cons v (l.take (k + 1)) = IT.cons v (l.take k) ++ [x.con v] := by rw [htk, IT.cons_append]; rfl
    have e2 : (IT.cons v (l.take (k + 1))).length = (IT.cons v (l.take k)).length + 1 := by rw [e1]; simp
    have e3 : encs Con.enc (IT.cons v (l.take k)) ++ (x.con v).enc = encs Con.enc (IT.cons v (l.take (k + 1))) := by rw [e1, encs_append]; simp [encs]
    refine JNEXT.of (k + 1, tok1, j1) ⟨by simp only; omega, ht3, by simp only [e2]; exact hcan⟩ (by simp only; omega) ?_ (JDropH.nextT ht ht3 (TokExt.refl _) hle' ⟨.inl ⟨rfl, rfl⟩, .inr ⟨rfl, ?_⟩, True.intro⟩)
    · (try simp only[↓jr,jw,seval,ext_get_old,hi,hg,dropmap,List.map_cons,List.length_map,DL])
      exact ⟨SubB.v, SubB.v, SubB.sl rfl (ptrs_sub fun t htt => by have := hids t htt; have := ht3.next; unfold pid; omega), SubB.ptr (by have := ht3.next; unfold pid; omega), SubB.ptr (by have := ht3.next; unfold pid; omega)⟩
    · simp only [oC, e2, ← e3]
      exact ⟨SubB.v, SubB.v, SubB.can hcan (by rw [pures_append, encs_pur Con.pur, Con.pur]; rfl), True.intro⟩
  · (try simp only[↓jr,jw,seval,ext_get_old,hi,hg,dropmap,List.map_cons,List.length_map,ht.next])
    have ek : k = l.length := by omega
    subst ek
    rw [List.take_length]
    refine JFIN.ret ((JDropH.back ht).of_ext) ?_
    simp only [IT.con]
    exact SubB.agg oC_enc
end
end Go.Proofs.YtcajjicdbphkpaaDoor.Pg
