/-
  The calls of the layer, with results that may be written.
-/
import Derived.Test.YtnkkeenclhncmaaDoorKa
set_option linter.unusedVariables false
set_option linter.unusedSimpArgs false
set_option maxRecDepth 100000
set_option maxHeartbeats 8000000
namespace Go.Proofs.YtnkkeenclhncmaaDoor.Pg
open Go
theorem SubB.own2 {no nt t k s n : Nat} {cs ds : List AV} (h : t < nt) (p : SubBs no nt cs ds) : SubB no nt (.sl (.own t k s) n cs) (.sl (.own t k s) n ds) := fun μ μ' w u hr hv => by
  simp only [V] at hv ⊢
  obtain ⟨b, off, c, i, e, hn, hc, ht, hrest⟩ := hv
  exact ⟨b, off, c, i, e, hn, p.Cells hr hc, by rw [hr.tok, if_pos h]; exact ht, hrest⟩
theorem JFIN.fr {j0 j' : JH} {x : AV} {y : Value} {n es : Nat} (s : SubB j'.next j'.tnext x x) (f : FreshR j' n es x) : @JFIN j0 j' (.tup [x, .v y]) ⟨fun z j' => (fun o j' => ∃ x, o = AOut.ret (.tup [x, .v y]) ∧ FreshR j' n es x) (.ret z) j'⟩ :=
  JFIN.same (Y := .tup [x, .v y]) (SubB.tup (xs := [x, .v y]) (ys := [x, .v y]) ⟨s, SubB.v, True.intro⟩) ⟨x, rfl, f⟩
section
variable {m : GM} {G : Nat → Option (List AV)}
theorem s_ListO (f : Nat → Bool) (len o n : Nat) (te : TypeId) (hx : n ≤ 64 * len) (hl : len ≤ 10000) (hne : (bitsL f n).length ≠ 0) (j : JH) (ho : o < j.next) (hg : j.get o = some (.cells te (wds f len))) : JC Tryd.prog G 71 [.arr o 0 len, I64 n] j (RET (.sl (.own j.tnext 0 1) (bitsL f n).length (ints (bitsL f n))) (j.pushTok (bitsL f n).length)) := by
  refine JC.own (ints_pur _) ?_
  refine JC.run hmix c71 (by exact k71) ?_
  (try simp only[↓jr,jw,seval,ext_get_old,ext_set_old,ho,hg,ir71])
  refine JLOOP.of (σ := Nat × Tok × JH) (fun x => x.1 ≤ n ∧ TokExt j x.2.2 ∧ CanApp j x.2.2 x.2.1 1 (bitsL f x.1).length) (fun x => n - x.1)
    (fun x => [(6, I64 x.1), (5, .sl x.2.1 (bitsL f x.1).length (ints (bitsL f x.1))), (0, .arr o 0 len), (1, I64 n)]) (fun x => ext x.2.2 []) (0, .nil, j) ⟨Nat.zero_le _, TokExt.refl _, CanApp.nil⟩ ?_ (JDropH.refl _) ?_
  · (try simp only[↓jr,jw,seval,ext_get_old,ext_set_old,ho,hg,DL])
    exact ⟨SubB.v, SubB.pure rfl, SubB.arr (by unfold pid; omega), SubB.v⟩
  rintro ⟨k, tk, jx⟩ ⟨hk, ht, hc⟩
  simp only at hk ht hc
  have hox : o < jx.next := by rw [ht.next]; exact ho
  have hgx : jx.get o = some (.cells te (wds f len)) := by rw [ht.get o ho]; exact hg
  (try simp only[↓jr,jw,seval,ext_get_old,ext_set_old,ho,hg,ht.next])
  refine wq.intro (fun g1 => ?_) (fun g1 => ?_)
  · (try simp only[↓jr,jw,seval,ext_get_old,ext_set_old,ho,hg])
    refine JCs.ret (s_Has f len o k te (by omega) (by omega) _ (by rw [ext_next]; unfold pid; omega) (by rw [ext_get_old hox]; exact hgx)) ?_
    (try simp only[↓jr,jw,seval,ext_get_old,ext_set_old,ho,hg])
    have hbl := @bitsL_len f k
    refine ww.intro (fun g2 => ?_) (fun g2 => ?_)
    · (try simp only[↓jr,jw,seval,ext_get_old,ext_set_old,ho,hg])
      refine JAPP.can' hc.push (ht.push 1) (by simp [d_len6]) rfl rfl (by omega) (by omega) ?_
      intro tok1 j1 hcan ht3 hle
      have hle' : jx.tnext ≤ j1.tnext := Nat.le_trans (Nat.le_succ _) hle
      (try simp only[↓jr,jw,seval,ext_get_old,ext_set_old,ho,hg])
      refine wc.intro (by unfold R64; omega) ?_
      (try simp only[↓jr,jw,seval,ext_get_old,ext_set_old,ho,hg])
      have e1 : bitsL f (k + 1) = bitsL f k ++ [(k : Int)] := by rw [bitsL_succ, g2]; rfl
      have e2 : (bitsL f (k + 1)).length = (bitsL f k).length + 1 := by rw [e1]; simp
      have e3 : ints (bitsL f k) ++ [I64 (k : Int)] = ints (bitsL f (k + 1)) := by rw [e1]; simp [ints]
      refine JNEXT.of (k + 1, tok1, j1) ⟨by simp only; omega, ht3, by simp only [e2]; exact hcan⟩ (by simp only; omega) ?_ (JDropH.nextT ht ht3 (TokExt.refl _) hle' True.intro)
      (try simp only[↓jr,jw,seval,ext_get_old,ext_set_old,ho,hg,DL,e2])
      rw [← e3]
      exact ⟨SubB.v, SubB.can hcan (by rw [pures_append, ints_pur]; rfl), SubB.arr (by rw [ht3.next]; unfold pid; omega), SubB.v⟩
    · (try simp only[↓jr,jw,seval,ext_get_old,ext_set_old,ho,hg])
      refine wc.intro (by unfold R64; omega) ?_
      (try simp only[↓jr,jw,seval,ext_get_old,ext_set_old,ho,hg])
      have e1 : bitsL f (k + 1) = bitsL f k := by rw [bitsL_succ, g2]; simp
      refine JNEXT.of (k + 1, tk, jx) ⟨by simp only; omega, ht, by simp only [e1]; exact hc⟩ (by simp only; omega) ?_ (JDropH.nextT ht ht (TokExt.refl _) (Nat.le_refl _) True.intro)
      (try simp only[↓jr,jw,seval,ext_get_old,ext_set_old,ho,hg,DL,e1])
      exact ⟨SubB.v, SubB.can hc (ints_pur _), SubB.arr (by rw [ht.next]; unfold pid; omega), SubB.v⟩
  · (try simp only[↓jr,jw,seval,ext_get_old,ext_set_old,ho,hg])
    have ek : k = n := by omega
    subst ek
    rcases hc with ⟨_, h0⟩ | ⟨t, q1, q2, rfl, q4⟩
    · exact absurd h0 hne
    exact JFIN.same (SubB.can (.inr ⟨t, q1, q2, rfl, q4⟩) (ints_pur _)) ⟨t, rfl, New.tok' ht, q1, q4⟩
theorem s_OfO (i : Itp) (hi : i.wf) (hk : i.ok) (c : Con) (hs : shaped i.cons.length i.rols.length c = true) (hne : (bitsL (semC i c) (sz i)).length ≠ 0) (j : JH) : JC Tryd.prog G 44 [.agg c.enc, .agg i.enc] j (fun o j' => ∃ t, o = .ret (.sl (.own t 0 1) (bitsL (semC i c) (sz i)).length (ints (bitsL (semC i c) (sz i)))) ∧ t < j'.tnext ∧ j'.tok t = some (bitsL (semC i c) (sz i)).length) := by
  obtain ⟨e1, e2, e3⟩ := sz_size hi
  obtain ⟨w1, w2⟩ := nw_le hi
  refine JC.run hmix c44 (by exact k44) ?_
  (try simp only[↓jr,jw,seval,ji,ext_ext,pid_pid,e1,ir44])
  refine JDC.use (s_eof i hi hk c hs _) ?_
  (try simp only[↓jr,jw,seval,ji,ext_ext,pid_pid,e1])
  refine JDC.use (s_ListO (semC i c) (nw (sz i)) _ (sz i) UE w2 (by omega) hne _ (by rw [ext_next, pid_lt]; simp) (ext_get_new rfl)) ?_
  (try simp only[↓jr,jw,seval,ji,ext_ext,pid_pid,e1])
  refine JDRAW.oc (by (try simp only[↓jr,jw,seval,ji,ext_ext,pid_pid,e1,jq,qe2,qe3,ext_next,ext_tnext,pushTok_next,List.length_cons,List.length_nil]) <;> (repeat' (first | exact trivial | refine And.intro ?_ ?_ | exact Nat.le_refl _ | (refine pr_extp ⟨_, rfl⟩ (some_lt ?_)) | (refine pr_extp ⟨_, rfl⟩ (fun _ q => by cases q)) | omega | (unfold pid; omega) | (simp only [pushTok_next, List.length_cons, List.length_nil]; unfold pid; omega)))) ?_; (try simp only[↓jr,jw,seval,ji,ext_ext,pid_pid,e1])
  exact JFIN.same (SubB.own2 (Nat.lt_succ_self _) (SubBs.pure (ints_pur _))) ⟨_, rfl, Nat.lt_succ_self _, by simp [ext_tok, JH.pushTok]⟩
theorem s_ElementsO (n : Nms) (hn : n.ok) (hs : n.short) (i : Itp) (hok : i.ok) (c : Con) (hc : c.ok) (hb : c.nodes ≤ 4000000000) (h1 : fineI n i [c] = 0) (hne : (bitsL (semC i c) (sz i)).length ≠ 0) (j : JH) : JC Tryd.prog (GG m) 15 [.agg n.enc, .agg c.enc, .agg i.enc] j (fun o j' => ∃ x, o = .ret (.tup [x, I64 0]) ∧ FreshR j' (bitsL (semC i c) (sz i)).length 1 x) := by
  refine JC.run hmix c15 (by exact k15) ?_
  (try simp only[↓jr,jw,seval,ji,ir15])
  have hf := s_ifine (m := m) i hok n hn hs [c] (.own j.tnext 0 3) ⟨hc, trivial⟩ (by simp) (by simpa using hb) (ext (j.pushTok 1) [.cells 24 n.enc, .cells 44 c.enc, .cells 29 i.enc])
  rw [encs_cons, encs_nil, List.append_nil, h1] at hf
  refine JCs.ret hf ?_
  (try simp only[↓jr,jw,seval,ji])
  obtain ⟨_, h2, h3⟩ := fineI_zero h1
  have h4 : conOK n c = true := by simpa using h2
  refine JCs.use (s_OfO i (Itp.wf_of h3).1 hok c (shaped_of h3 h4) hne _) ?_
  rintro o1 j1 ⟨t, rfl, q1, q2⟩
  (try simp only[↓jr,jw,seval,ji])
  exact JFIN.fr (SubB.own2 q1 (SubBs.pure (ints_pur _))) (.inl ⟨t, _, rfl, q2⟩)
theorem s_WrongO (b : Bas) (hb : b.ok) (hf : b.few) (i : Itp) (hok : i.ok) (h1 : basV b = true) (h2 : itpOK b.nms i = true) (hne : (bitsL (fun k => !trueI b i k) b.count).length ≠ 0) (j : JH) : JC Tryd.prog (GG m) 29 [.agg b.enc, .agg i.enc] j (fun o j' => ∃ x, o = .ret (.tup [x, I64 0]) ∧ FreshR j' (bitsL (fun k => !trueI b i k) b.count).length 1 x) := by
  refine JC.run hmix c29 (by exact k29) ?_
  (try simp only[↓jr,jw,seval,ji,ext_ext,pid_pid,ir29])
  refine JCs.ret (s_kbValid b hb hf _) ?_
  (try simp only[↓jr,jw,seval,ji,ext_ext,pid_pid])
  rw [h1]
  (try simp only[↓jr,jw,seval,ji,ext_ext,pid_pid])
  · skip
    refine JCs.ret (s_iValid b.nms hb.nms i hok _) ?_
    (try simp only[↓jr,jw,seval,ji,ext_ext,pid_pid])
    rw [h2]
    (try simp only[↓jr,jw,seval,ji,ext_ext,pid_pid])
    · have hE : modE b i = 0 := by unfold modE; rw [h1, h2]; rfl
      have hW : wrongL b i = bitsL (fun k => !trueI b i k) b.count := if_pos hE
      have hcnt := (basV_iff h1).c
      refine JCs.ret (s_Count b hb _) ?_
      (try simp only[↓jr,jw,seval,ji,ext_ext,pid_pid])
      refine JLOOP.of (σ := Nat × Tok × JH) (fun x => x.1 ≤ b.count ∧ TokExt j x.2.2 ∧ CanApp j x.2.2 x.2.1 1 (bitsL (fun k => !trueI b i k) x.1).length) (fun x => b.count - x.1)
        (fun x => [(18, I64 x.1), (17, I64 b.count), (6, .sl x.2.1 (bitsL (fun k => !trueI b i k) x.1).length (ints (bitsL (fun k => !trueI b i k) x.1))), (2, .ptr (pid j.next 0) 0), (3, .ptr (pid j.next 1) 0)]) (fun x => ext x.2.2 [.cells 66 b.enc, .cells 29 i.enc]) (0, .nil, j) ⟨Nat.zero_le _, TokExt.refl _, CanApp.nil⟩ ?_ (JDropH.refl _) ?_
      · (try simp only[↓jr,jw,seval,ji,ext_ext,pid_pid,DL])
        exact ⟨SubB.v, SubB.v, SubB.pure rfl, SubB.ptr (by unfold pid; omega), SubB.ptr (by unfold pid; omega)⟩
      rintro ⟨k, tk, jx⟩ ⟨hkk, ht, hc⟩
      simp only at hkk ht hc
      have hnx := ht.next
      (try simp only[↓jr,jw,seval,ji,ext_ext,pid_pid,ht.next])
      refine wq.intro (fun g1 => ?_) (fun g1 => ?_)
      · have hlt : k < b.count := by omega
        have hbl := @bitsL_len (fun k => !trueI b i k) k
        (try simp only[↓jr,jw,seval,ji,ext_ext,pid_pid,ht.next])
        refine JCs.ret (s_iholds b hb h1 i hok h2 k hlt _) ?_
        (try simp only[↓jr,jw,seval,ji,ext_ext,pid_pid,ht.next])
        refine ww.intro (fun g2 => ?_) (fun g2 => ?_)
        · (try simp only[↓jr,jw,seval,ji,ext_ext,pid_pid,ht.next])
          refine wc.intro (by unfold R64; omega) ?_
          (try simp only[↓jr,jw,seval,ji,ext_ext,pid_pid,ht.next])
          have e1 : bitsL (fun k => !trueI b i k) (k + 1) = bitsL (fun k => !trueI b i k) k := by rw [bitsL_succ, g2]; simp
          refine JNEXT.of (k + 1, tk, jx) ⟨by simp only; omega, ht, by simp only [e1]; exact hc⟩ (by simp only; omega) ?_ (JDropH.nextT ht ht (TokExt.refl _) (Nat.le_refl _) ⟨.inl ⟨rfl, rfl⟩, .inl ⟨rfl, rfl⟩, True.intro⟩)
          (try simp only[↓jr,jw,seval,ji,ext_ext,pid_pid,DL,e1,ht.next])
          exact ⟨SubB.v, SubB.v, SubB.can hc (ints_pur _), SubB.ptr (by unfold pid; omega), SubB.ptr (by unfold pid; omega)⟩
        · (try simp only[↓jr,jw,seval,ji,ext_ext,pid_pid,ht.next])
          refine JAPP.can' hc.push (ht.push 1) (by simp [d_len6]) rfl rfl (by omega) (by omega) ?_
          intro tok1 j1 hcan ht3 hle
          have hle' : jx.tnext ≤ j1.tnext := Nat.le_trans (Nat.le_succ _) hle
          (try simp only[↓jr,jw,seval,ji,ext_ext,pid_pid,ht3.next])
          refine wc.intro (by unfold R64; omega) ?_
          (try simp only[↓jr,jw,seval,ji,ext_ext,pid_pid,ht3.next])
          have e1 : bitsL (fun k => !trueI b i k) (k + 1) = bitsL (fun k => !trueI b i k) k ++ [(k : Int)] := by rw [bitsL_succ, g2]; rfl
          have e2 : (bitsL (fun k => !trueI b i k) (k + 1)).length = (bitsL (fun k => !trueI b i k) k).length + 1 := by rw [e1]; simp
          have e3 : ints (bitsL (fun k => !trueI b i k) k) ++ [I64 (k : Int)] = ints (bitsL (fun k => !trueI b i k) (k + 1)) := by rw [e1]; simp [ints]
          refine JNEXT.of (k + 1, tok1, j1) ⟨by simp only; omega, ht3, by simp only [e2]; exact hcan⟩ (by simp only; omega) ?_ (JDropH.nextT ht ht3 (TokExt.refl _) hle' ⟨.inl ⟨rfl, rfl⟩, .inl ⟨rfl, rfl⟩, True.intro⟩)
          (try simp only[↓jr,jw,seval,ji,ext_ext,pid_pid,DL,e2,ht3.next])
          rw [← e3]
          exact ⟨SubB.v, SubB.v, SubB.can hcan (by rw [pures_append, ints_pur]; rfl), SubB.ptr (by unfold pid; omega), SubB.ptr (by unfold pid; omega)⟩
      · (try simp only[↓jr,jw,seval,ji,ext_ext,pid_pid,ht.next])
        have ek : k = b.count := by omega
        subst ek
        rcases hc with ⟨_, h0⟩ | ⟨t, q1, q2, rfl, q4⟩
        · exact absurd h0 hne
        exact JFIN.fr (SubB.can (.inr ⟨t, q1, q2, rfl, q4⟩) (ints_pur _)) (.inl ⟨t, _, rfl, q4⟩)
theorem s_RelatedO (i : Itp) (hi : i.wf) (hk : i.ok) (n : Int) (h0 : 0 ≤ n) (h1 : n < 2 * i.rols.length) (hne : rolI i n ≠ []) (j : JH) :
    JC Tryd.prog G 38 [.agg i.enc, I64 n] j (fun o j' => ∃ ob ty cs, o = .ret (.arr ob 0 (rolI i n).length) ∧ ob < j'.next ∧ j'.get ob = some (.cells ty cs) ∧ (rolI i n).length * 2 ≤ cs.length) := by
  by_cases hm : n.tmod 2 = 1
  · refine JC.mono (s_Related1 (G := G) i hi hk n h0 h1 hm hne j) ?_
    rintro o j' ⟨l', ex, hp, _, _, rfl, rfl⟩
    refine ⟨_, _, _, rfl, by rw [ext_next, pid_lt]; simp, ext_get_new rfl, ?_⟩
    have hl := hp.length_eq
    rw [List.length_append, encs_length (e := PR8) (n := 2) (fun _ => rfl) l', hl, List.length_map, List.length_map]
    omega
  · obtain ⟨e1, e2, e3⟩ := sz_size hi
    have hk1 := hk.r1
    have hq : n.tdiv 2 = n / 2 := Int.tdiv_eq_ediv_of_nonneg h0
    have hq2 : n.tmod 2 = n % 2 := Int.tmod_eq_emod_of_nonneg h0
    have hlt0 : (n.tdiv 2).toNat < i.rols.length := by rw [hq]; omega
    obtain ⟨ps, rr, hd⟩ : ∃ c_ l_, List.drop (n.tdiv 2).toNat i.rols = c_ :: l_ := ⟨_, _, List.drop_eq_getElem_cons hlt0⟩
    have hps : rolI i n = ps := by unfold rolI; rw [← List.head?_drop, hd]; rfl
    have hmp : ps ∈ i.rols := List.mem_of_mem_drop (hd ▸ List.mem_cons_self)
    have hpl := (hk.r2 ps hmp).1
    have hpr := hi.r ps hmp
    have h8 : encs PR8 (ps.map toP8) = encs PR ps := encs_toP8 fun p hp => by have := hpr p hp; omega
    rw [hps] at hne ⊢
    have hLl : (ps.map toP8).length = ps.length := by simp
    refine JC.run hmix c38 (by exact k38) ?_
    (try simp only[↓jr,jw,seval,ji,ext_ext,pid_pid,hd,ir38])
    refine wc.intro (by rw [hq]; unfold R64; omega) ?_
    (try simp only[↓jr,jw,seval,ji,ext_ext,pid_pid,hd])
    refine wc.intro ⟨by rw [hq]; omega, by rw [hq]; omega, by omega⟩ ?_
    (try simp only[↓jr,jw,seval,ji,ext_ext,pid_pid,hd])
    rw [← h8, ← hLl]
    refine JCs.use (s_Clone (ps.map toP8) (by intro e; rw [e] at hLl; exact hne (List.length_eq_zero_iff.1 hLl.symm)) (by omega) _) ?_
    rintro o1 j1 ⟨ex, hex, rfl, rfl⟩
    rw [ext_push]
    (try simp only[↓jr,jw,seval,ji,ext_ext,pid_pid,hd])
    refine wq.intro (fun q => by omega) (fun _ => ?_)
    (try simp only[↓jr,jw,seval,ji,ext_ext,pid_pid,hd])
    refine JFIN.same (SubB.arr (by rw [ext_next, pid_lt]; simp)) ⟨_, _, _, by rw [hLl], by rw [ext_next, pid_lt]; simp, ext_get_new rfl, ?_⟩
    rw [List.length_append, encs_length (e := PR8) (n := 2) (fun _ => rfl), List.length_map]
    omega
theorem s_PairsO (n : Nms) (hn : n.ok) (hs : n.short) (i : Itp) (hok : i.ok) (r : Int) (hf : fineI n i [] = 0) (h0 : 0 ≤ r) (h1 : r < 2 * i.rols.length) (hne : rolI i r ≠ []) (j : JH) :
    JC Tryd.prog (GG m) 9 [.agg n.enc, .agg i.enc, I64 r] j (fun o j' => ∃ x, o = .ret (.tup [x, I64 0]) ∧ FreshR j' (rolI i r).length 2 x) := by
  have hk1 := hok.r1
  obtain ⟨_, _, h3⟩ := fineI_zero hf
  have hrl := (Itp.wf_of h3).2.2.1
  have hrs : n.rs.length < 4611686018427387904 := by omega
  refine JC.run hmix c9 (by exact k9) ?_
  (try simp only[↓jr,jw,seval,ji,ext_ext,pid_pid,ir9])
  have hf0 := s_ifine (m := m) i hok n hn hs [] .nil trivial (by simp) (by simp) (ext j [.cells 24 n.enc, .cells 29 i.enc])
  rw [encs_nil, hf] at hf0
  refine JCs.ret hf0 ?_
  (try simp only[↓jr,jw,seval,ji,ext_ext,pid_pid])
  refine wq.intro (fun q => by omega) (fun q => ?_)
  (try simp only[↓jr,jw,seval,ji,ext_ext,pid_pid])
  refine wr.in (by unfold R64; omega) ?_
  (try simp only[↓jr,jw,seval,ji,ext_ext,pid_pid])
  refine wq.intro (fun q => by omega) (fun q => ?_)
  (try simp only[↓jr,jw,seval,ji,ext_ext,pid_pid])
  refine JCs.use (s_RelatedO i (Itp.wf_of h3).1 hok r (by omega) (by omega) hne _) ?_
  rintro o1 j1 ⟨ob, ty, cs, rfl, q1, q2, q3⟩
  (try simp only[↓jr,jw,seval,ji,ext_ext,pid_pid])
  exact JFIN.fr (SubB.arr q1) (.inr ⟨ob, 0, ty, cs, rfl, q2, by omega⟩)
end
end Go.Proofs.YtnkkeenclhncmaaDoor.Pg
