/-
  interp.Related, interp.Pairs.
-/
import Derived.Test.YtnkkeenclhncmaaDoorIk
set_option linter.unusedVariables false
set_option linter.unusedSimpArgs false
set_option maxRecDepth 100000
set_option maxHeartbeats 8000000
namespace Go.Proofs.YtnkkeenclhncmaaDoor.Pg
open Go
abbrev AE : TypeId := 58
def swap8 (x : P8) : P8 := (x.2, x.1)
def swp8 (l : List P8) (k : Nat) : List P8 := (l.take k).map swap8 ++ l.drop k
theorem swp8_len (l : List P8) (k : Nat) : (swp8 l k).length = l.length := by simp [swp8]; omega
theorem pr8_split {l : List P8} {k : Nat} {x : P8} (h : l[k]? = some x) : encs PR8 l = encs PR8 (l.take k) ++ (PR8 x ++ encs PR8 (l.drop (k + 1))) ∧ (encs PR8 (l.take k)).length = k * 2 := by
  refine ⟨?_, ?_⟩
  · rw [← encs_cons]
    conv => lhs; rw [← List.take_append_drop k l]
    rw [encs_append]
    congr 1
    rw [List.drop_eq_getElem_cons (List.getElem?_eq_some_iff.1 h).1, (List.getElem?_eq_some_iff.1 h).2]
  · have := encs_length (e := PR8) (n := 2) (fun _ => rfl) (l.take k)
    rw [this, List.length_take, Nat.min_eq_left (Nat.le_of_lt (List.getElem?_eq_some_iff.1 h).1)]
theorem pr8_cut {l : List P8} {k : Nat} {x : P8} {ex : List AV} (h : l[k]? = some x) : icut (some 2) (encs PR8 l ++ ex) (k * 2) = some (.agg (PR8 x)) := by
  obtain ⟨e, hlen⟩ := pr8_split h
  rw [e, List.append_assoc, List.append_assoc]
  have := icut_at (row := some 2) (cs := PR8 x ++ (encs PR8 (l.drop (k + 1)) ++ ex)) (k := 0) hlen
  exact this.trans (icut_pre rfl)
theorem pr8_set {l : List P8} {k : Nat} {x y : P8} {ex : List AV} (h : l[k]? = some y) : splice (encs PR8 l ++ ex) (k * 2) (PR8 x) = encs PR8 (l.set k x) ++ ex := by
  obtain ⟨e, hlen⟩ := pr8_split h
  have hk := (List.getElem?_eq_some_iff.1 h).1
  have e2 : encs PR8 (l.set k x) = encs PR8 (l.take k) ++ (PR8 x ++ encs PR8 (l.drop (k + 1))) := by
    rw [List.set_eq_take_append_cons_drop, if_pos hk, encs_append, encs_cons]
  rw [e, e2]
  unfold splice
  generalize encs PR8 (l.take k) = X at hlen ⊢
  generalize encs PR8 (l.drop (k + 1)) = Z
  have hx : (PR8 x).length = 2 := rfl
  have hy : PR8 y = [I64 (y.1.val : Int), I64 (y.2.val : Int)] := rfl
  rw [hx, ← hlen]
  simp only [List.append_assoc]
  rw [List.take_left' rfl, List.drop_append, List.drop_eq_nil_of_le (by omega), hy]
  have h3 : X.length + 2 - X.length = 2 := by omega
  rw [h3]
  rfl
def toP8 (p : Int × Int) : P8 := (_root_.Fin.ofNat 256 p.1.toNat, _root_.Fin.ofNat 256 p.2.toNat)
theorem encs_toP8 : ∀ {l : List (Int × Int)}, (∀ p ∈ l, 0 ≤ p.1 ∧ p.1 < 256 ∧ 0 ≤ p.2 ∧ p.2 < 256) → encs PR8 (l.map toP8) = encs PR l
  | [], _ => rfl
  | p :: l, h => by
    obtain ⟨h1, h2, h3, h4⟩ := h p List.mem_cons_self
    rw [List.map_cons, encs_cons, encs_cons, encs_toP8 fun q hq => h q (List.mem_cons_of_mem _ hq)]
    have e1 : ((toP8 p).1.val : Int) = p.1 := by simp [toP8, Fin.ofNat]; omega
    have e2 : ((toP8 p).2.val : Int) = p.2 := by simp [toP8, Fin.ofNat]; omega
    simp only [PR8, e1, e2, PR]
theorem subs_any {no nt : Nat} : ∀ {ex : List AV}, (∀ x ∈ ex, x = .any) → SubBs no nt ex ex
  | [], _ => SubBs.pure rfl
  | x :: ex, h => ⟨by rw [h x List.mem_cons_self]; exact SubB.any, subs_any fun y hy => h y (List.mem_cons_of_mem _ hy)⟩
theorem pr8_pur (l : List P8) : AV.pures (encs PR8 l) = true := encs_pur (fun _ => rfl) l
theorem osub_any {no nt : Nat} {t : TypeId} {l : List P8} {ex : List AV} (h : ∀ x ∈ ex, x = .any) : OSub no nt (.cells t (encs PR8 l ++ ex)) (.cells t (encs PR8 l ++ ex)) := ⟨rfl, SubBs.append (SubBs.pure (pr8_pur l)) (subs_any h)⟩
section
variable {m : GM} {G : Nat → Option (List AV)}
def ir38 : IFn := ⟨37, [⟨4, none⟩], (.seq (.reg [oA 2 (.box 29 (.r 0)), oA 4 (.mov (.k (.sl .nil 0 [])))]) (.seq (.reg [oA 8 (.fadr 2 (.r 2)), oL 9 8 none, oA 10 (kM 1), oA 11 (.bin .quo (.r 10) (kI 2)), oA 12 (.iasl 1 (.r 9) (.r 11)), oL 13 12 none, oT 14 13 (.call 59 [.r 13]), oA 5 (kM 14)]) (.seq (.seq (.reg [oA 15 (kM 1), oA 16 (.bin .rem (.r 15) (kI 2)), oA 17 (.bin .eql (.r 16) (kI 1))]) (.cond (.r 17) (.seq (.seq (.reg [oA 18 (kM 5), oT 19 18 (.lenl (.r 18)), oA 20 (.mov (kI 0))]) (.block 0 (.loop (.seq (.reg [oA 21 (.bin .lss (.r 20) (.r 19))]) (.seq (.cond (.r 21) .skip (.exit 0)) (.seq (.block 1 (.seq (.reg [oA 22 (kM 20), oA 23 (.iasl 2 (.r 18) (.r 20)), oL 24 23 (some 2), oA 7 (.alloc 58 [.v (.int .i64 0), .v (.int .i64 0)]), oA 6 (kM 22), oN (.store 2 (.r 7) (.r 24))]) (.reg [oA 25 (kM 5), oA 26 (kM 6), oA 27 (.iaar 2 1 (.r 7) (kI 1)), oL 28 27 none, oA 29 (.iaar 2 1 (.r 7) (kI 0)), oL 30 29 none, oA 31 (.build [.v (.int .i64 0), .v (.int .i64 0)] [(0, (1, .r 28)), (1, (1, .r 30))]), oA 32 (.iasl 2 (.r 25) (.r 26)), oN (.store 2 (.r 32) (.r 31))]))) (.reg [oA 33 (.bin .add (.r 20) (kI 1)), oA 20 (kM 33)]))))))) (.reg [oA 34 (kM 5), oA 35 (.call 60 [.r 34, .k (.fn (.func 61) [] [])])])) .skip)) (.seq (.reg [oA 36 (kM 5), oA 4 (kM 36)]) .ret))))⟩
theorem c38 : cfunc Tryd.prog 38 = some ir38 := by kernel_rfl
theorem k38 : okIR (max 2 ir38.n) ir38.ir = true := by decide +kernel
theorem s_Related1 (i : Itp) (hi : i.wf) (hk : i.ok) (n : Int) (h0 : 0 ≤ n) (h1 : n < 2 * i.rols.length) (hm : n.tmod 2 = 1) (hne : rolI i n ≠ []) (j : JH) : JC Tryd.prog G 38 [.agg i.enc, I64 n] j fun o j' => ∃ (l' : List P8) (ex : List AV), l'.Perm (((rolI i n).map toP8).map swap8) ∧ l'.Pairwise (fun x y => ltOf cf8 y x = false) ∧ (∀ x ∈ ex, x = .any) ∧
    RET (.arr (pid j.next 1) 0 (rolI i n).length) (ext j [.cells 29 i.enc, .cells AE (encs PR8 l' ++ ex)]) o j' := by
  obtain ⟨e1, e2, e3⟩ := sz_size hi
  have hk1 := hk.r1
  have hq : n.tdiv 2 = n / 2 := Int.tdiv_eq_ediv_of_nonneg h0
  have hlt0 : (n.tdiv 2).toNat < i.rols.length := by rw [hq]; omega
  obtain ⟨ps, rr, hr⟩ : ∃ c_ l_, List.drop (n.tdiv 2).toNat i.rols = c_ :: l_ := ⟨_, _, List.drop_eq_getElem_cons hlt0⟩
  have hps : rolI i n = ps := by unfold rolI; rw [← List.head?_drop, hr]; rfl
  have hmp : ps ∈ i.rols := List.mem_of_mem_drop (hr ▸ List.mem_cons_self)
  have hpl := (hk.r2 ps hmp).1
  have hpr := hi.r ps hmp
  have h8 : encs PR8 (ps.map toP8) = encs PR ps := encs_toP8 fun p hp => by have := hpr p hp; omega
  rw [hps] at hne ⊢
  generalize hL : ps.map toP8 = L at h8 ⊢
  have hLl : L.length = ps.length := by rw [← hL]; simp
  refine JC.run hmix c38 (by exact k38) ?_
  (try simp only[↓jr,jw,seval,ji,ext_ext,pid_pid,hr,hm,ir38])
  refine wc.intro (by rw [hq]; unfold R64; omega) ?_
  (try simp only[↓jr,jw,seval,ji,ext_ext,pid_pid,hr,hm])
  refine wc.intro ⟨by rw [hq]; omega, by rw [hq]; omega, by omega⟩ ?_
  (try simp only[↓jr,jw,seval,ji,ext_ext,pid_pid,hr,hm])
  rw [← h8, ← hLl]
  refine JCs.use (s_Clone L (by intro e; rw [e] at hLl; exact hne (List.length_eq_zero_iff.1 hLl.symm)) (by omega) _) ?_
  rintro o1 j1 ⟨ex, hex, rfl, rfl⟩
  rw [ext_push]
  (try simp only[↓jr,jw,seval,ji,ext_ext,pid_pid,hr,hm])
  have sw : ∀ k, (swp8 L k).length = L.length := swp8_len L
  refine JLOOP.of (σ := Nat) (fun k => k ≤ L.length) (fun k => L.length - k)
    (fun k => [(20, I64 k), (19, I64 L.length), (18, .arr (pid j.next 1) 0 L.length), (5, .arr (pid j.next 1) 0 L.length), (2, .ptr (pid j.next 0) 0)])
    (fun k => ext j [.cells 29 i.enc, .cells AE (encs PR8 (swp8 L k) ++ ex)]) 0 (Nat.zero_le _) ?_ ?_ ?_
  · (try simp only[↓jr,jw,seval,ji,ext_ext,pid_pid,hr,hm,DL])
    exact ⟨SubB.v, SubB.v, SubB.arr (by unfold pid; omega), SubB.arr (by unfold pid; omega), SubB.ptr (by unfold pid; omega)⟩
  · have : swp8 L 0 = L := by simp [swp8]
    rw [this]; exact JDropH.refl _
  · intro k hkk
    (try simp only[↓jr,jw,seval,ji,ext_ext,pid_pid,hr,hm])
    refine wq.intro (fun g1 => ?_) (fun g1 => ?_)
    · have hlt : k < L.length := by omega
      obtain ⟨x, hx⟩ : ∃ x, L[k]? = some x := ⟨_, List.getElem?_eq_getElem hlt⟩
      have hx2 : (swp8 L k)[k]? = some x := by
        unfold swp8
        rw [List.getElem?_append_right (by simp; omega)]
        simp [Nat.min_eq_left hkk, hx]
      have hc2 := pr8_cut (ex := ex) hx2
      (try simp only[↓jr,jw,seval,ji,ext_ext,pid_pid,hr,hm,hc2])
      refine wc.intro (by omega) ?_
      (try simp only[↓jr,jw,seval,ji,ext_ext,pid_pid,hr,hm,hc2])
      refine wc.intro (by omega) ?_
      (try simp only[↓jr,jw,seval,ji,ext_ext,pid_pid,hr,hm])
      have hst : (swp8 L k).set k (swap8 x) = swp8 L (k + 1) := by
        unfold swp8
        have hdk : L.drop k = x :: L.drop (k + 1) := by
          rw [List.drop_eq_getElem_cons hlt]
          congr 1
          exact Option.some.inj ((List.getElem?_eq_getElem hlt).symm.trans hx)
        rw [hdk, List.set_append_right _ _ (by simp; omega), List.take_add_one, hx]
        simp [Nat.min_eq_left hkk]
      refine wc.intro (by have := encs_length (e := PR8) (n := 2) (fun _ => rfl) (swp8 L k); rw [this, sw]; omega) ?_
      rw [show splice (encs PR8 (swp8 L k) ++ ex) (k * 2) (AV.agg [I64 (x.2.val : Int), I64 (x.1.val : Int)]).cells = encs PR8 (swp8 L (k + 1)) ++ ex from by rw [← hst, ← pr8_set hx2]; rfl]
      (try simp only[↓jr,jw,seval,ji,ext_ext,pid_pid,hr,hm])
      refine wc.intro (by unfold R64; omega) ?_
      (try simp only[↓jr,jw,seval,ji,ext_ext,pid_pid,hr,hm])
      refine JNEXT.of (k + 1) (by omega) (by omega) ?_ (JDropH.next0 (TokExt.refl _) ⟨.inl ⟨rfl, rfl⟩, .inr (osub_any hex), True.intro⟩)
      (try simp only[↓jr,jw,seval,ji,ext_ext,pid_pid,hr,hm,DL])
      exact ⟨SubB.v, SubB.v, SubB.arr (by unfold pid; omega), SubB.arr (by unfold pid; omega), SubB.ptr (by unfold pid; omega)⟩
    · (try simp only[↓jr,jw,seval,ji,ext_ext,pid_pid,hr,hm])
      have ek : k = L.length := by omega
      have es : swp8 L k = L.map swap8 := by rw [ek]; simp [swp8]
      rw [es]
      have el : L.length = (L.map swap8).length := by simp
      have eS := s_SortFunc (G := G) (L.map swap8) ex (pid j.next 1) AE (ext j [.cells 29 i.enc, .cells AE (encs PR8 (L.map swap8) ++ ex)]) (by rw [← el]; omega) (by rw [ext_next, pid_lt]; simp) (ext_get_new rfl)
      rw [← el] at eS
      refine JCs.use eS ?_
      rintro o2 j2 ⟨l', hperm, hpw, rfl, rfl⟩
      (try simp only[↓jr,jw,seval,ji,ext_ext,pid_pid,hr,hm])
      exact JFIN.same (SubB.arr (by rw [ext_next, pid_lt]; simp)) ⟨l', ex, hperm, hpw, hex, by rw [hLl], rfl⟩
end
end Go.Proofs.YtnkkeenclhncmaaDoor.Pg
