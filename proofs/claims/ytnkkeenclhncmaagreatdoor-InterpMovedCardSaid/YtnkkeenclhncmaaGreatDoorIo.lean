/-
  interp.Check, the reference's roles and pairs.
-/
import Derived.Test.YtnkkeenclhncmaaGreatDoorIj
import Derived.Test.YtnkkeenclhncmaaGreatDoorLk
set_option linter.unusedVariables false
set_option linter.unusedSimpArgs false
set_option maxRecDepth 100000
set_option maxHeartbeats 8000000
namespace Go.Proofs.YtnkkeenclhncmaaGreatDoor.Pg
open Go
/-- The pairs of the inverse of a role, element by element. -/
def invI (ps : List (Int × Int)) (n : Nat) : List (Int × Int) := (List.range n).flatMap fun (x : Nat) => (ps.filter fun p => decide (p.2 = (x : Int))).map fun p => (p.2, p.1)
theorem invI_succ {ps : List (Int × Int)} {n : Nat} : invI ps (n + 1) = invI ps n ++ (ps.filter fun p => decide (p.2 = (n : Int))).map fun p => (p.2, p.1) := by
  unfold invI
  rw [List.range_succ, List.flatMap_append]
  simp
theorem invI_mem {ps : List (Int × Int)} {n : Nat} (hp : ∀ p ∈ ps, 0 ≤ p.2 ∧ p.2 < n) {q : Int × Int} : q ∈ invI ps n ↔ ∃ p ∈ ps, q = (p.2, p.1) := by
  unfold invI
  simp only [List.mem_flatMap, List.mem_range, List.mem_map, List.mem_filter, decide_eq_true_eq]
  constructor
  · rintro ⟨x, _, p, ⟨h1, _⟩, rfl⟩; exact ⟨p, h1, rfl⟩
  · rintro ⟨p, h1, rfl⟩
    have := hp p h1
    exact ⟨p.2.toNat, by omega, p, ⟨h1, by omega⟩, rfl⟩
theorem invI_len {ps : List (Int × Int)} : ∀ {n : Nat}, (invI ps n).length ≤ n * ps.length
  | 0 => by simp [invI]
  | n + 1 => by
    rw [invI_succ, List.length_append, List.length_map, Nat.add_mul]
    have := List.length_filter_le (fun p : Int × Int => decide (p.2 = (n : Int))) ps
    have := @invI_len ps n
    omega
/-- The pairs of a role. -/
def relL (i : Itp) (r : Int) : List (Int × Int) := if r.tmod 2 = 0 then rolI i r else invI (rolI i r) (sz i)
def roleOK (n : Nms) (r : Int) : Bool := decide (0 ≤ r) && decide (r < 2 * (n.rs.length : Int))
theorem roleOK_iff {n : Nms} {r : Int} : roleOK n r = true ↔ 0 ≤ r ∧ r < 2 * (n.rs.length : Int) := by
  unfold roleOK; rw [Bool.and_eq_true, decide_eq_true_eq, decide_eq_true_eq]
section
variable {m : GM} {G : Nat → Option (List AV)}
theorem s_rRole (n : Nms) (hn : n.ok) (r : Int) (j : JH) : JC Tryz.prog G 28 [.agg n.enc, I64 r] j (RET (BOO (roleOK n r)) j) := s_Role n hn r j
def ir62 : IFn := ⟨48, [⟨4, none⟩], (.seq (.reg [oA 2 (.box 38 (.r 0)), oA 4 (.mov (.k (.sl .nil 0 [])))]) (.seq (.seq (.reg [oA 9 (kM 1), oA 10 (.bin .rem (.r 9) (kI 2)), oA 11 (.bin .eql (.r 10) (kI 0))]) (.cond (.r 11) (.seq (.reg [oA 12 (.fadr 2 (.r 2)), oL 13 12 none, oA 14 (kM 1), oA 15 (.bin .quo (.r 14) (kI 2)), oA 16 (.iasl 1 (.r 13) (.r 15)), oL 17 16 none, oA 4 (kM 17)]) .ret) .skip)) (.seq (.reg [oA 5 (.mov (.k (.sl .nil 0 [])))]) (.seq (.seq (.reg [oA 18 (.fadr 0 (.r 2)), oL 19 18 none, oA 20 (.mov (kI 0))]) (.block 0 (.loop (.seq (.reg [oA 21 (.bin .lss (.r 20) (.r 19))]) (.seq (.cond (.r 21) .skip (.exit 0)) (.seq (.block 1 (.seq (.reg [oA 22 (kM 20), oA 6 (kM 22)]) (.seq (.reg [oA 23 (.fadr 2 (.r 2)), oL 24 23 none, oA 25 (kM 1), oA 26 (.bin .quo (.r 25) (kI 2)), oA 27 (.iasl 1 (.r 24) (.r 26)), oL 28 27 none, oT 29 28 (.lenl (.r 28)), oA 30 (.mov (kI 0))]) (.block 2 (.loop (.seq (.reg [oA 31 (.bin .lss (.r 30) (.r 29))]) (.seq (.cond (.r 31) .skip (.exit 2)) (.seq (.block 3 (.seq (.reg [oA 32 (.iasl 2 (.r 28) (.r 30)), oL 33 32 (some 2), oA 8 (.alloc 75 [.v (.int .i64 0), .v (.int .i64 0)]), oN (.store 2 (.r 8) (.r 33))]) (.seq (.reg [oA 34 (.iaar 2 1 (.r 8) (kI 1)), oL 35 34 none, oA 36 (kM 6), oA 37 (.bin .eql (.r 35) (.r 36))]) (.cond (.r 37) (.reg [oA 38 (kM 5), oA 39 (kM 6), oA 40 (.iaar 2 1 (.r 8) (kI 0)), oL 41 40 none, oA 42 (.build [.v (.int .i64 0), .v (.int .i64 0)] [(0, (1, .r 39)), (1, (1, .r 41))]), oA 43 (.bsl 1 2 [.v (.int .i64 0), .v (.int .i64 0)] [(0, (2, .r 42))]), oA 44 (.app 2 16 (.r 38) (.r 43)), oA 5 (kM 44)]) .skip)))) (.reg [oA 45 (.bin .add (.r 30) (kI 1)), oA 30 (kM 45)]))))))))) (.reg [oA 46 (.bin .add (.r 20) (kI 1)), oA 20 (kM 46)]))))))) (.seq (.reg [oA 47 (kM 5), oA 4 (kM 47)]) .ret)))))⟩
theorem c62 : cfunc Tryz.prog 62 = some ir62 := by kernel_rfl
theorem k62 : okIR (max 2 ir62.n) ir62.ir = true := by decide +kernel
theorem s_rPairs (i : Itp) (hi : i.wf) (hk : i.ok) (n : Int) (h0 : 0 ≤ n) (h1 : n < 2 * i.rols.length) (hL : ∀ l ∈ i.rols, l.length ≤ 65536) (j : JH) : JC Tryz.prog G 62 [.agg i.enc, I64 n] j (RET (.sl .none (relL i n).length (encs PR (relL i n))) j) := by
  obtain ⟨e1, e2, e3⟩ := sz_size hi
  have hk1 := hk.r1
  have hq : n.tdiv 2 = n / 2 := Int.tdiv_eq_ediv_of_nonneg h0
  have hlt0 : (n.tdiv 2).toNat < i.rols.length := by rw [hq]; omega
  obtain ⟨ps, rr, hr⟩ : ∃ c_ l_, List.drop (n.tdiv 2).toNat i.rols = c_ :: l_ := ⟨_, _, List.drop_eq_getElem_cons hlt0⟩
  have hps : rolI i n = ps := by unfold rolI; rw [← List.head?_drop, hr]; rfl
  have hmp : ps ∈ i.rols := List.mem_of_mem_drop (hr ▸ List.mem_cons_self)
  have hpl := hL ps hmp
  have hpr := hi.r ps hmp
  refine JC.run hmix c62 (by exact k62) ?_
  (try simp only[↓jr,jw,seval,ji,ext_ext,pid_pid,hr,ir62])
  refine wq.intro (fun hm => ?_) (fun hm => ?_)
  · (try simp only[↓jr,jw,seval,ji,ext_ext,pid_pid,hr])
    refine wc.intro (by rw [hq]; unfold R64; omega) ?_
    (try simp only[↓jr,jw,seval,ji,ext_ext,pid_pid,hr])
    refine wc.intro ⟨by rw [hq]; omega, by rw [hq]; omega, by omega⟩ ?_
    (try simp only[↓jr,jw,seval,ji,ext_ext,pid_pid,hr])
    refine JFIN.rb ?_
    unfold relL; rw [if_pos hm, hps]; exact SubB.sl rfl (SubBs.pure (PR.pur _))
  · (try simp only[↓jr,jw,seval,ji,ext_ext,pid_pid,hr,e1])
    have eR : relL i n = invI ps (sz i) := by unfold relL; rw [if_neg hm, hps]
    rw [eR]
    refine JLOOP.of (σ := Nat × Tok × JH) (fun x => x.1 ≤ sz i ∧ TokExt j x.2.2 ∧ CanApp j x.2.2 x.2.1 2 (invI ps x.1).length) (fun x => sz i - x.1)
      (fun x => [(20, I64 x.1), (19, I64 (sz i)), (5, .sl x.2.1 (invI ps x.1).length (encs PR (invI ps x.1))), (2, .ptr (pid j.next 0) 0), (1, I64 n)]) (fun x => ext x.2.2 [.cells 38 i.enc]) (0, .nil, j) ⟨Nat.zero_le _, TokExt.refl _, CanApp.nil⟩ ?_ (JDropH.refl _) ?_
    · (try simp only[↓jr,jw,seval,ji,ext_ext,pid_pid,hr,DL])
      exact ⟨SubB.v, SubB.v, SubB.pure rfl, SubB.ptr (by unfold pid; omega), SubB.v⟩
    rintro ⟨k, tk, jx⟩ ⟨hkk, ht, hc⟩
    simp only at hkk ht hc
    (try simp only[↓jr,jw,seval,ji,ext_ext,pid_pid,hr,ht.next])
    refine wq.intro (fun g1 => ?_) (fun g1 => ?_)
    · have hlt : k < sz i := by omega
      (try simp only[↓jr,jw,seval,ji,ext_ext,pid_pid,hr,ht.next])
      refine wc.intro (by rw [hq]; unfold R64; omega) ?_
      (try simp only[↓jr,jw,seval,ji,ext_ext,pid_pid,hr,ht.next])
      refine wc.intro ⟨by rw [hq]; omega, by rw [hq]; omega, by omega⟩ ?_
      (try simp only[↓jr,jw,seval,ji,ext_ext,pid_pid,hr,ht.next])
      have hfl : ∀ q, (List.filter (fun p : Int × Int => decide (p.2 = (k : Int))) (ps.take q)).length ≤ q := fun q => Nat.le_trans (List.length_filter_le _ _) (by simp; omega)
      have hil := @invI_len ps k
      have hb : k * ps.length ≤ 256 * ps.length := Nat.mul_le_mul_right _ (by omega)
      let F : Nat → List (Int × Int) := fun q => invI ps k ++ ((ps.take q).filter fun p => decide (p.2 = (k : Int))).map fun p => (p.2, p.1)
      have hFl : ∀ q, (F q).length ≤ 256 * ps.length + q := fun q => by
        show (invI ps k ++ ((ps.take q).filter fun p => decide (p.2 = (k : Int))).map fun p => (p.2, p.1)).length ≤ _
        rw [List.length_append, List.length_map]; have := hfl q; omega
      have hF0 : F 0 = invI ps k := by show invI ps k ++ _ = _; simp
      have hFe : F ps.length = invI ps (k + 1) := by rw [invI_succ]; show invI ps k ++ _ = _; rw [List.take_length]
      rw [← hF0] at hc ⊢
      refine JLOOP.of (σ := Nat × Tok × JH) (fun x => x.1 ≤ ps.length ∧ TokExt j x.2.2 ∧ jx.tnext ≤ x.2.2.tnext ∧ CanApp j x.2.2 x.2.1 2 (F x.1).length) (fun x => ps.length - x.1)
        (fun x => [(30, I64 x.1), (29, I64 ps.length), (28, .sl .none ps.length (encs PR ps)), (6, I64 k), (20, I64 k), (19, I64 (sz i)), (5, .sl x.2.1 (F x.1).length (encs PR (F x.1))), (2, .ptr (pid j.next 0) 0), (1, I64 n)]) (fun x => ext x.2.2 [.cells 38 i.enc]) (0, tk, jx) ⟨Nat.zero_le _, ht, Nat.le_refl _, hc⟩ ?_ (JDropH.refl _) ?_
      · (try simp only[↓jr,jw,seval,ji,ext_ext,pid_pid,hr,DL])
        exact ⟨SubB.v, SubB.v, SubB.sl rfl (SubBs.pure (PR.pur _)), SubB.v, SubB.v, SubB.v, SubB.can hc (PR.pur _), SubB.ptr (by have := ht.next; unfold pid; omega), SubB.v⟩
      rintro ⟨q, tk1, jy⟩ ⟨hqq, ht1, hty, hc1⟩
      simp only at hqq ht1 hty hc1
      (try simp only[↓jr,jw,seval,ji,ext_ext,pid_pid,hr,ht1.next])
      refine wq.intro (fun g2 => ?_) (fun g2 => ?_)
      · have hltq : q < ps.length := by omega
        obtain ⟨p, pr, hpd⟩ : ∃ c_ l_, List.drop q ps = c_ :: l_ := ⟨_, _, List.drop_eq_getElem_cons hltq⟩
        have htk : ps.take (q + 1) = ps.take q ++ [p] := by
          have : ps[q]? = some p := by rw [← List.head?_drop, hpd]; rfl
          rw [List.take_add_one, this]; rfl
        have hF1 : F (q + 1) = F q ++ (if p.2 = (k : Int) then [(p.2, p.1)] else []) := by
          show invI ps k ++ _ = (invI ps k ++ _) ++ _
          rw [htk, List.filter_append, List.map_append, List.append_assoc]
          congr 2
          by_cases h : p.2 = (k : Int) <;> simp [h]
        have hFq := hFl q
        (try simp only[↓jr,jw,seval,ji,ext_ext,pid_pid,hr,hpd,ht1.next])
        refine wc.intro (by omega) ?_
        (try simp only[↓jr,jw,seval,ji,ext_ext,pid_pid,hr,hpd,ht1.next])
        refine wq.intro (fun g3 => ?_) (fun g3 => ?_)
        · (try simp only[↓jr,jw,seval,ji,ext_ext,pid_pid,hr,hpd,ht1.next])
          refine JAPP.can' hc1.push (ht1.push 1) (by rw [d_prl]) rfl rfl (by omega) (by omega) ?_
          intro tok1 j1 hcan ht3 hle
          have hle' : jy.tnext ≤ j1.tnext := Nat.le_trans (Nat.le_succ _) hle
          (try simp only[↓jr,jw,seval,ji,ext_ext,pid_pid,hr,ht3.next])
          refine wc.intro (by unfold R64; omega) ?_
          (try simp only[↓jr,jw,seval,ji,ext_ext,pid_pid,hr,ht3.next])
          have e4 : F (q + 1) = F q ++ [(p.2, p.1)] := by rw [hF1, if_pos g3]
          have e5 : (F (q + 1)).length = (F q).length + 1 := by rw [e4]; simp
          have e6 : encs PR (F (q + 1)) = encs PR (F q) ++ [I64 p.2, I64 p.1] := by rw [e4, encs_append]; rfl
          refine JNEXT.of (q + 1, tok1, j1) ⟨by simp only; omega, ht3, Nat.le_trans hty hle', by simp only [e5]; exact hcan⟩ (by simp only; omega) ?_ (JDropH.nextT ht1 ht3 (TokExt.refl _) hle' ⟨.inl ⟨rfl, rfl⟩, True.intro⟩)
          (try simp only[↓jr,jw,seval,ji,ext_ext,pid_pid,hr,DL,e5,ht3.next])
          rw [e6, g3]
          exact ⟨SubB.v, SubB.v, SubB.sl rfl (SubBs.pure (PR.pur _)), SubB.v, SubB.v, SubB.v, SubB.can hcan (by rw [pures_append, PR.pur]; rfl), SubB.ptr (by unfold pid; omega), SubB.v⟩
        · (try simp only[↓jr,jw,seval,ji,ext_ext,pid_pid,hr,hpd,ht1.next])
          refine wc.intro (by unfold R64; omega) ?_
          (try simp only[↓jr,jw,seval,ji,ext_ext,pid_pid,hr,ht1.next])
          have e4 : F (q + 1) = F q := by rw [hF1, if_neg g3, List.append_nil]
          refine JNEXT.of (q + 1, tk1, jy) ⟨by simp only; omega, ht1, hty, by simp only [e4]; exact hc1⟩ (by simp only; omega) ?_ (JDropH.nextT ht1 ht1 (TokExt.refl _) (Nat.le_refl _) ⟨.inl ⟨rfl, rfl⟩, True.intro⟩)
          (try simp only[↓jr,jw,seval,ji,ext_ext,pid_pid,hr,DL,e4,ht1.next])
          exact ⟨SubB.v, SubB.v, SubB.sl rfl (SubBs.pure (PR.pur _)), SubB.v, SubB.v, SubB.v, SubB.can hc1 (PR.pur _), SubB.ptr (by unfold pid; omega), SubB.v⟩
      · (try simp only[↓jr,jw,seval,ji,ext_ext,pid_pid,hr,ht1.next])
        have eq : q = ps.length := by omega
        subst eq
        rw [hFe] at hc1 ⊢
        refine wc.intro (by unfold R64; omega) ?_
        (try simp only[↓jr,jw,seval,ji,ext_ext,pid_pid,hr,ht1.next])
        refine JNEXT.of (k + 1, tk1, jy) ⟨by simp only; omega, ht1, hc1⟩ (by simp only; omega) ?_ (JDropH.nextT ht ht1 (TokExt.refl _) hty ⟨.inl ⟨rfl, rfl⟩, True.intro⟩)
        (try simp only[↓jr,jw,seval,ji,ext_ext,pid_pid,hr,DL,ht1.next])
        exact ⟨SubB.v, SubB.v, SubB.can hc1 (PR.pur _), SubB.ptr (by unfold pid; omega), SubB.v⟩
    · (try simp only[↓jr,jw,seval,ji,ext_ext,pid_pid,hr,ht.next])
      have ek : k = sz i := by omega
      subst ek
      exact JFIN.ret (JDropH.back ht).of_ext (SubB.sl rfl (SubBs.pure (PR.pur _)))
end
end Go.Proofs.YtnkkeenclhncmaaGreatDoor.Pg
