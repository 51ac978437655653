/-
  Consistency of any knowledge base.
-/
import Derived.Test.YtkcbhebbjpiibaaDoorNc
import Derived.Test.YtkcbhebbjpiibaaDoorLw
set_option linter.unusedVariables false
set_option linter.unusedSimpArgs false
set_option linter.defProp false
set_option maxRecDepth 20000
set_option maxHeartbeats 1000000
namespace Go.Proofs.YtkcbhebbjpiibaaDoor.Pg
open Go
theorem sbNd {A : Prop} (h : A := by repeat' (first | exact trivial | refine And.intro ?_ ?_ | exact SubB.v | exact SubB.any | ((first | refine SubB.ptr ?_ | refine SubB.arr ?_ | refine SubB.mp ?_) <;> first | assumption | (unfold pid; omega)) | ((first | refine SubB.pure ?_ | refine SubBs.pure ?_) <;> (simp only [AV.pure, AV.pures, pures_append, jpu, rrow_pur, rb_pur, natv_pur, Bool.and_self, Bool.and_true, Bool.true_and]; done)) | refine SubB.fn ?_ ?_ | refine SubB.sl ?_ ?_ | refine SubB.agg ?_ | refine SubB.tup ?_ | rfl)) : A := h
variable {m : Int} {G : Nat → Option (List AV)}
theorem natv_take {l : List Nat} {k : Nat} : (natv l).take k = natv (l.take k) := by simp [natv, List.map_take]
theorem slc_to {l : List Nat} {i n : Nat} (hn : l.length = n) (h : i ≤ n) : islc 1 none (some (I64 i)) (.sl .none n (natv l)) = some (.sl .none i (natv (l.take i))) := by
  subst hn
  have a1 : abound l.length (some (I64 i)) l.length = some i := by unfold abound aint; simp only; rw [if_pos ⟨by omega, by omega⟩]; simp
  have a2 : abound i none 0 = some 0 := rfl
  unfold islc
  simp only [a1, a2, natv_len, Nat.mul_one, if_true, Nat.sub_zero, Nat.zero_mul, List.drop_zero, natv_take]
theorem slc_from {l : List Nat} {i n : Nat} (hn : l.length = n) (h : i ≤ n) : islc 1 (some (I64 i)) none (.sl .none n (natv l)) = some (.sl .none (n - i) (natv (l.drop i))) := by
  subst hn
  have a1 : abound l.length (some (I64 i)) 0 = some i := by unfold abound aint; simp only; rw [if_pos ⟨by omega, by omega⟩]; simp
  have a2 : abound l.length none l.length = some l.length := rfl
  unfold islc
  simp only [a1, a2, natv_len, Nat.mul_one, if_true, natv_drop]
  rw [natv_take, List.take_of_length_le (by rw [List.length_drop]; omega)]
theorem rwn_len {L : List (List Nat)} : (rwn L).length = L.length := by simp [rwn]
theorem rwn_ld {L r : List (List Nat)} {k : Nat} {x : List Nat} (h : L.drop k = x :: r) : icut none (rwn L) k = some (.sl .none x.length (natv x)) := by
  have e : L[k]? = some x := by
    have := congrArg (·[0]?) h
    simpa using this
  unfold icut rwn; simp only [List.getElem?_map, e, Option.map_some]
theorem rwn_pur : ∀ L : List (List Nat), AV.pures (rwn L) = true
  | [] => rfl
  | x :: L => by unfold rwn; rw [List.map_cons]; simp only [AV.pures, AV.pure, natv_pur, Bool.true_and]; exact rwn_pur L
theorem sp_b6 {b : Bas} {a x : AV} : icut none (x :: (b.enc ++ [a])) 8 = some a := rfl
theorem sp_b7 {b : Bas} {a x : AV} : icut none (x :: (b.enc ++ [a])) 0 = some x := rfl
theorem s_Sound (b : Bas) (o r N n : Nat) (L : List (List Nat)) (j : JH) (hr : r < j.next) (ho : o < j.next) (hgr : j.get r = some (.cells 117 (rb N))) (hgo : j.get o = some (.cells 129 (rwn L))) (hn : L.length = n) (hn1 : n ≤ 1000000) (hl1 : ∀ l ∈ L, l.length ≤ 1000000) (hL : ∀ l ∈ L, ∀ c ∈ l, c < 28) :
    JC Tryd.prog G 47 [.agg (AV.ptr r 0 :: (b.enc ++ [AV.arr o 0 n]))] j (RET (BOO (L.all (sndA N []))) j) := by
  have fls : ∀ {l : List AObj}, L.all (sndA N []) = false → @JFIN (ext j []) (ext j l) (.v (.bool false)) ⟨fun y j' => RET (BOO (L.all (sndA N []))) j (.ret y) j'⟩ := by
    intro l h
    refine JFIN.rb ?_
    rw [h]; exact SubB.v
  refine JC.run hmix c47 (by exact k47) ?_
  (try simp only[↓jr,jw,seval,sp_b6,sp_b7,ext_get_old,hr,ho,hgr,hgo,natv_len,natv_drop,natv_cons,rb_ld,rb_len,ir47])
  refine JLOOP.of (σ := Nat) (fun k => k ≤ n ∧ (L.drop k).all (sndA N []) = L.all (sndA N [])) (fun k => n - k)
    (fun k => [(12, I64 k), (11, I64 n), (10, .arr o 0 n), (1, .ptr (pid j.next 0) 0)])
    (fun _ => ext j [.cells 86 (AV.ptr r 0 :: (b.enc ++ [AV.arr o 0 n]))]) 0 ⟨Nat.zero_le _, rfl⟩ ?_ (JDropH.refl _) ?_
  · ((try simp only[↓jr,jw,seval,sp_b6,sp_b7,ext_get_old,hr,ho,hgr,hgo,natv_len,natv_drop,natv_cons,rb_ld,rb_len,DL]) <;> exact sbNd)
  rintro k ⟨hk, hI⟩
  (try simp only[↓jr,jw,seval,sp_b6,sp_b7,ext_get_old,hr,ho,hgr,hgo,natv_len,natv_drop,natv_cons,rb_ld,rb_len])
  refine wq.intro (fun g1 => ?_) (fun g1 => ?_)
  · have hlt : k < (L).length := by omega
    obtain ⟨x, rest, hd⟩ : ∃ c_ l_, List.drop k (L) = c_ :: l_ := ⟨_, _, List.drop_eq_getElem_cons hlt⟩
    have hd1 : List.drop (k + 1) (L) = rest := by rw [← List.drop_drop, hd]; rfl
    have hmem : x ∈ L := List.mem_of_mem_drop (hd ▸ List.mem_cons_self)
    rw [hd, List.all_cons] at hI
    have hdL := hd1
    have hxl := hl1 x hmem
    have hx28 := hL x hmem
    have hld := rwn_ld hd
    (try simp only[↓jr,jw,seval,sp_b6,sp_b7,ext_get_old,hr,ho,hgr,hgo,natv_len,natv_drop,natv_cons,rb_ld,rb_len,hld])
    refine wc.intro (by omega) ?_
    (try simp only[↓jr,jw,seval,sp_b6,sp_b7,ext_get_old,hr,ho,hgr,hgo,natv_len,natv_drop,natv_cons,rb_ld,rb_len,hld])
    refine JLOOP.of (σ := Nat) (fun i => i ≤ x.length ∧ sndA N (x.take i) (x.drop i) = sndA N [] x) (fun i => x.length - i)
      (fun i => [(18, I64 i), (17, I64 x.length), (16, .sl .none x.length (natv x)), (4, .sl .none x.length (natv x)), (12, I64 k), (11, I64 n), (10, .arr o 0 n), (1, .ptr (pid j.next 0) 0)])
      (fun _ => ext j [.cells 86 (AV.ptr r 0 :: (b.enc ++ [AV.arr o 0 n]))]) 0 ⟨Nat.zero_le _, rfl⟩ ?_ (JDropH.refl _) ?_
    · (try simp only[↓jr,jw,seval,sp_b6,sp_b7,ext_get_old,hr,ho,hgr,hgo,natv_len,natv_drop,natv_cons,rb_ld,rb_len,DL])
      exact ⟨SubB.v, SubB.v, SubB.sl rfl (SubBs.pure (natv_pur _)), SubB.sl rfl (SubBs.pure (natv_pur _)), SubB.v, SubB.v, SubB.arr (by unfold pid; omega), SubB.ptr (by unfold pid; omega)⟩
    rintro i ⟨hi, hJ⟩
    (try simp only[↓jr,jw,seval,sp_b6,sp_b7,ext_get_old,hr,ho,hgr,hgo,natv_len,natv_drop,natv_cons,rb_ld,rb_len])
    refine wq.intro (fun g2 => ?_) (fun g2 => ?_)
    · have hlt : i < (x).length := by omega
      obtain ⟨c, rx, hd⟩ : ∃ c_ l_, List.drop i (x) = c_ :: l_ := ⟨_, _, List.drop_eq_getElem_cons hlt⟩
      have hd1 : List.drop (i + 1) (x) = rx := by rw [← List.drop_drop, hd]; rfl
      have hmem : c ∈ x := List.mem_of_mem_drop (hd ▸ List.mem_cons_self)
      rw [hd, sndA] at hJ
      have hc28 := hx28 c hmem
      (try simp only[↓jr,jw,seval,sp_b6,sp_b7,ext_get_old,hr,ho,hgr,hgo,natv_len,natv_drop,natv_cons,rb_ld,rb_len,hd])
      refine wc.intro (by omega) ?_
      (try simp only[↓jr,jw,seval,sp_b6,sp_b7,ext_get_old,hr,ho,hgr,hgo,natv_len,natv_drop,natv_cons,rb_ld,rb_len,hd])
      refine wc.intro (by omega) ?_
      (try simp only[↓jr,jw,seval,sp_b6,sp_b7,ext_get_old,hr,ho,hgr,hgo,natv_len,natv_drop,natv_cons,rb_ld,rb_len,hd])
      refine wc.intro (by omega) ?_
      (try simp only[↓jr,jw,seval,sp_b6,sp_b7,ext_get_old,hr,ho,hgr,hgo,natv_len,natv_drop,natv_cons,rb_ld,rb_len,hd])
      refine ww.intro (fun q1 => ?_) (fun q1 => ?_)
      · (try simp only[↓jr,jw,seval,sp_b6,sp_b7,ext_get_old,hr,ho,hgr,hgo,natv_len,natv_drop,natv_cons,rb_ld,rb_len])
        rw [show emp N c = true from q1] at hJ
        exact fls (by rw [← hI, ← hJ]; rfl)
      rw [show emp N c = false from q1, Bool.not_false, Bool.true_and] at hJ
      have hsl := slc_to (l := x) rfl hi
      (try simp only[↓jr,jw,seval,sp_b6,sp_b7,ext_get_old,hr,ho,hgr,hgo,natv_len,natv_drop,natv_cons,rb_ld,rb_len,hsl])
      refine JLOOP.of (σ := Nat) (fun d => d ≤ i ∧ ((x.take i).drop d).all (fun d => !confl N c d) = (x.take i).all (fun d => !confl N c d)) (fun d => i - d)
        (fun d => [(34, I64 d), (33, I64 i), (32, .sl .none i (natv (x.take i))), (6, I64 c), (18, I64 i), (17, I64 x.length), (16, .sl .none x.length (natv x)), (4, .sl .none x.length (natv x)), (12, I64 k), (11, I64 n), (10, .arr o 0 n), (1, .ptr (pid j.next 0) 0)])
        (fun _ => ext j [.cells 86 (AV.ptr r 0 :: (b.enc ++ [AV.arr o 0 n]))]) 0 ⟨Nat.zero_le _, rfl⟩ ?_ (JDropH.refl _) ?_
      · (try simp only[↓jr,jw,seval,sp_b6,sp_b7,ext_get_old,hr,ho,hgr,hgo,natv_len,natv_drop,natv_cons,rb_ld,rb_len,DL])
        exact ⟨SubB.v, SubB.v, SubB.sl rfl (SubBs.pure (natv_pur _)), SubB.v, SubB.v, SubB.v, SubB.sl rfl (SubBs.pure (natv_pur _)), SubB.sl rfl (SubBs.pure (natv_pur _)), SubB.v, SubB.v, SubB.arr (by unfold pid; omega), SubB.ptr (by unfold pid; omega)⟩
      have hdx := hd
      have hd1x := hd1
      have htl : (x.take i).length = i := List.length_take_of_le hi
      rintro d ⟨hdd, hK⟩
      (try simp only[↓jr,jw,seval,sp_b6,sp_b7,ext_get_old,hr,ho,hgr,hgo,natv_len,natv_drop,natv_cons,rb_ld,rb_len])
      refine wq.intro (fun g3 => ?_) (fun g3 => ?_)
      · have hlt : d < (x.take i).length := by omega
        obtain ⟨y, ry, hd⟩ : ∃ c_ l_, List.drop d (x.take i) = c_ :: l_ := ⟨_, _, List.drop_eq_getElem_cons hlt⟩
        have hd1 : List.drop (d + 1) (x.take i) = ry := by rw [← List.drop_drop, hd]; rfl
        have hmem : y ∈ x.take i := List.mem_of_mem_drop (hd ▸ List.mem_cons_self)
        rw [hd, List.all_cons] at hK
        have hy28 : y < 28 := hx28 y (List.mem_of_mem_take hmem)
        (try simp only[↓jr,jw,seval,sp_b6,sp_b7,ext_get_old,hr,ho,hgr,hgo,natv_len,natv_drop,natv_cons,rb_ld,rb_len,hd])
        refine wc.intro (by omega) ?_
        (try simp only[↓jr,jw,seval,sp_b6,sp_b7,ext_get_old,hr,ho,hgr,hgo,natv_len,natv_drop,natv_cons,rb_ld,rb_len,hd])
        refine JCs.ret (s_conflict r 117 N c y hc28 hy28 _ (by rw [ext_next]; unfold pid; omega) (by rw [ext_get_old hr]; exact hgr)) ?_
        (try simp only[↓jr,jw,seval,sp_b6,sp_b7,ext_get_old,hr,ho,hgr,hgo,natv_len,natv_drop,natv_cons,rb_ld,rb_len])
        refine ww.intro (fun q2 => ?_) (fun q2 => ?_)
        · (try simp only[↓jr,jw,seval,sp_b6,sp_b7,ext_get_old,hr,ho,hgr,hgo,natv_len,natv_drop,natv_cons,rb_ld,rb_len])
          rw [q2] at hK
          exact fls (by rw [← hI, ← hJ, ← hK]; rfl)
        · (try simp only[↓jr,jw,seval,sp_b6,sp_b7,ext_get_old,hr,ho,hgr,hgo,natv_len,natv_drop,natv_cons,rb_ld,rb_len])
          rw [q2, Bool.not_false, Bool.true_and] at hK
          refine wc.intro (by unfold R64; omega) ?_
          (try simp only[↓jr,jw,seval,sp_b6,sp_b7,ext_get_old,hr,ho,hgr,hgo,natv_len,natv_drop,natv_cons,rb_ld,rb_len])
          refine JNEXT.of (d + 1) ⟨by omega, by rw [hd1]; exact hK⟩ (by omega) ?_ JDropH.nx
          (try simp only[↓jr,jw,seval,sp_b6,sp_b7,ext_get_old,hr,ho,hgr,hgo,natv_len,natv_drop,natv_cons,rb_ld,rb_len,DL])
          exact ⟨SubB.eqi (by omega), SubB.v, SubB.sl rfl (SubBs.pure (natv_pur _)), SubB.v, SubB.v, SubB.v, SubB.sl rfl (SubBs.pure (natv_pur _)), SubB.sl rfl (SubBs.pure (natv_pur _)), SubB.v, SubB.v, SubB.arr (by unfold pid; omega), SubB.ptr (by unfold pid; omega)⟩
      · (try simp only[↓jr,jw,seval,sp_b6,sp_b7,ext_get_old,hr,ho,hgr,hgo,natv_len,natv_drop,natv_cons,rb_ld,rb_len])
        rw [List.drop_eq_nil_of_le (by omega), List.all_nil] at hK
        rw [← hK, Bool.true_and] at hJ
        refine wc.intro (by unfold R64; omega) ?_
        (try simp only[↓jr,jw,seval,sp_b6,sp_b7,ext_get_old,hr,ho,hgr,hgo,natv_len,natv_drop,natv_cons,rb_ld,rb_len])
        have et : x.take (i + 1) = x.take i ++ [c] := by
          rw [List.take_succ_eq_append_getElem hlt]
          congr 2
          rw [List.drop_eq_getElem_cons hlt] at hdx
          exact (List.cons.inj hdx).1
        refine JNEXT.of (i + 1) ⟨by omega, by rw [et, hd1x]; exact hJ⟩ (by omega) ?_ JDropH.nx
        (try simp only[↓jr,jw,seval,sp_b6,sp_b7,ext_get_old,hr,ho,hgr,hgo,natv_len,natv_drop,natv_cons,rb_ld,rb_len,DL])
        exact ⟨SubB.eqi (by omega), SubB.v, SubB.sl rfl (SubBs.pure (natv_pur _)), SubB.sl rfl (SubBs.pure (natv_pur _)), SubB.v, SubB.v, SubB.arr (by unfold pid; omega), SubB.ptr (by unfold pid; omega)⟩
    · (try simp only[↓jr,jw,seval,sp_b6,sp_b7,ext_get_old,hr,ho,hgr,hgo,natv_len,natv_drop,natv_cons,rb_ld,rb_len])
      rw [List.drop_eq_nil_of_le (by omega)] at hJ
      have hJ' : sndA N [] x = true := hJ.symm
      rw [hJ', Bool.true_and] at hI
      refine wc.intro (by unfold R64; omega) ?_
      (try simp only[↓jr,jw,seval,sp_b6,sp_b7,ext_get_old,hr,ho,hgr,hgo,natv_len,natv_drop,natv_cons,rb_ld,rb_len])
      refine JNEXT.of (k + 1) ⟨by omega, by rw [hdL]; exact hI⟩ (by omega) ?_ JDropH.nx
      (try simp only[↓jr,jw,seval,sp_b6,sp_b7,ext_get_old,hr,ho,hgr,hgo,natv_len,natv_drop,natv_cons,rb_ld,rb_len,DL])
      exact ⟨SubB.eqi (by omega), SubB.v, SubB.arr (by unfold pid; omega), SubB.ptr (by unfold pid; omega)⟩
  · (try simp only[↓jr,jw,seval,sp_b6,sp_b7,ext_get_old,hr,ho,hgr,hgo,natv_len,natv_drop,natv_cons,rb_ld,rb_len])
    rw [List.drop_eq_nil_of_le (by omega), List.all_nil] at hI
    refine JFIN.rb ?_
    rw [← hI]; exact SubB.v
/-- What the data say, all of it. -/
def sayL (b : Bas) : List (List Nat) := (List.range b.nms.is.length).map (stD b.dat)
theorem sayL_len (b : Bas) : (sayL b).length = b.nms.is.length := by simp [sayL]
theorem soundB_all (b : Bas) : (sayL b).all (sndA (rulesN b) []) = soundB b := by
  unfold soundB sndD sayL; rw [List.all_map]; rfl
theorem flat_all {α : Type} {f : α → List (Nat × Nat)} {m : Nat} (hf : ∀ x, (f x).length ≤ m) (l : List α) : (l.flatMap f).length ≤ m * l.length := by
  have := flat_le hf l l.length
  rwa [List.take_length] at this
theorem sayL_ok {b : Bas} (hs : b.said) : (∀ l ∈ sayL b, l.length ≤ 1000000) ∧ ∀ l ∈ sayL b, ∀ c ∈ l, c < 28 := by
  have hcnt := hs.cnt
  unfold Bas.count at hcnt
  have q1 := flat_all (f := sgF) (m := 1) (fun x => Nat.le_refl 1) b.facts
  have q2 := flat_all (f := sgL) (m := 2) (fun x => Nat.le_refl 2) b.links
  refine ⟨fun l hl => ?_, fun l hl c hc => ?_⟩
  · obtain ⟨i, -, rfl⟩ := List.mem_map.1 hl
    rw [stD_eq, dat_flat]
    refine Nat.le_trans (stS_len _ _) ?_
    rw [List.length_append]; omega
  · obtain ⟨i, -, rfl⟩ := List.mem_map.1 hl
    rw [stD_eq, dat_flat] at hc
    unfold stS at hc
    obtain ⟨p, hp, rfl⟩ := List.mem_map.1 hc
    have hp := (List.mem_filter.1 hp).1
    rcases List.mem_append.1 hp with hp | hp
    · obtain ⟨x, hx, hp⟩ := List.mem_flatMap.1 hp
      obtain ⟨i, c, e1, hi, e2, hc⟩ := hs.fac x hx
      have hp : p ∈ [(x.ind.toNat, x.con.n.toNat)] := hp
      rw [List.mem_singleton] at hp
      subst hp; show x.con.n.toNat < 28; omega
    · obtain ⟨x, hx, hp⟩ := List.mem_flatMap.1 hp
      obtain ⟨r, i, k, e0, hr, e1, hi, e2, hk⟩ := hs.lnk x hx
      have hp : p ∈ [(x.fr.toNat, 16 + 2 * x.role.toNat), (x.to.toNat, 16 + (2 * x.role.toNat + 1))] := hp
      rcases List.mem_cons.1 hp with rfl | hp
      · show 16 + 2 * x.role.toNat < 28; omega
      · rw [List.mem_singleton] at hp
        subst hp; show 16 + (2 * x.role.toNat + 1) < 28; omega
abbrev wldL (b : Bas) (j : JH) : List AV := AV.ptr (pid j.next 3) 0 :: (b.enc ++ [AV.arr (pid j.next 5) 0 b.nms.is.length])
theorem s_WorldOf (b : Bas) (hb : b.ok) (h : basR b = true) (j : JH) : JC Tryd.prog G 46 [.agg b.enc] j (RET (.agg (wldL b j)) (ext j [.cells 30 b.enc, .cells 86 (wldL b j), .cells 30 b.enc, .cells 117 (rb (rulesN b)), .cells 30 b.enc, .cells 129 (rwn (sayL b))])) := by
  refine JC.run hmix c46 (by exact k46) ?_
  (try simp only[↓jr,jw,seval,rb_ld,rb_len,jq2,ext_ext,pid_pid,sp_b1,sp_b2,sp_b3,sp_b4,ir46])
  refine JDC.use (s_RulesOf b hb (basR_lite h) _) ?_
  (try simp only[↓jr,jw,seval,rb_ld,rb_len,jq2,ext_ext,pid_pid,sp_b1,sp_b2,sp_b3,sp_b4])
  refine JDC.use (s_stated b (basR_said h) _) ?_
  (try simp only[↓jr,jw,seval,rb_ld,rb_len,jq2,ext_ext,pid_pid,sp_b1,sp_b2,sp_b3,sp_b4])
  refine wc.intro (by first | omega | trivial | (rw [sp_b1]; decide) | (simp only [sp_b1, sp_b3]; decide) | trace_state) ?_
  (try simp only[↓jr,jw,seval,rb_ld,rb_len,jq2,ext_ext,pid_pid,sp_b1,sp_b2,sp_b3,sp_b4])
  refine JDRAW.oc (by (try simp only[↓jr,jw,seval,rb_ld,rb_len,jq2,ext_ext,pid_pid,sp_b1,sp_b2,sp_b3,sp_b4,jq]) <;> exact orq) ?_; (try simp only[↓jr,jw,seval,rb_ld,rb_len,jq2,ext_ext,pid_pid,sp_b1,sp_b2,sp_b3,sp_b4])
  have sb : ∀ k, 6 ≤ k → SubBs (pid j.next k) j.tnext (wldL b j) (wldL b j) := fun k hk =>
    ⟨SubB.ptr (by unfold pid; omega), SubBs.append (SubBs.pure (Bas.pur b)) ⟨SubB.arr (by unfold pid; omega), True.intro⟩⟩
  refine JFIN.ret (JDropH.keep ?_) (SubB.agg (sb 6 (by omega)))
  intro ob hob
  simp only [List.mem_cons, List.not_mem_nil, or_false] at hob
  rcases hob with rfl | rfl | rfl | rfl | rfl | rfl
  · exact OSub.pure (Bas.pur b)
  · exact ⟨rfl, sb 6 (by omega)⟩
  · exact OSub.pure (Bas.pur b)
  · exact OSub.pure (rb_pur _)
  · exact OSub.pure (Bas.pur b)
  · exact OSub.pure (rwn_pur _)
theorem s_Consistent (b : Bas) (hb : b.ok) (hf : b.few) (h : askE b = 0) (j : JH) : JC Tryd.prog (GG m) 12 [.agg b.enc] j (RET (.tup [BOO (soundB b), I64 0]) j) := by
  have hR := (askE_basR h).1
  have hso := sayL_ok (basR_said hR)
  refine JC.run hmix c12 (by exact k12) ?_
  (try simp only[↓jr,jw,seval,ext_ext,pid_pid,ir12])
  refine JCs.ret (s_asks b hb hf _) ?_
  rw [h]
  (try simp only[↓jr,jw,seval,ext_ext,pid_pid])
  refine JCs.ret (s_WorldOf b hb hR _) ?_
  (try simp only[↓jr,jw,seval,ext_ext,pid_pid])
  refine JCs.ret (s_Sound b _ _ (rulesN b) _ (sayL b) _ ?_ ?_ ?_ ?_ (sayL_len b) ?_ hso.1 hso.2) ?_
  · simp only [ext_next, pid, List.length_cons, List.length_nil]; omega
  · simp only [ext_next, pid, List.length_cons, List.length_nil]; omega
  · rw [ext_next, pid_pid, ext_get_new rfl]; rfl
  · rw [ext_next, pid_pid, ext_get_new rfl]; rfl
  · have := (basR_said hR).ni; omega
  rw [soundB_all]
  (try simp only[↓jr,jw,seval,ext_ext,pid_pid])
  refine JFIN.rb ?_
  exact sbNd
end Go.Proofs.YtkcbhebbjpiibaaDoor.Pg
