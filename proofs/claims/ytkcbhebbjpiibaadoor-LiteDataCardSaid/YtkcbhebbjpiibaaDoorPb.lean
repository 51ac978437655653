/-
  What the reference tells of individuals.
-/
import Derived.Test.YtkcbhebbjpiibaaDoorOe
import Derived.Test.YtkcbhebbjpiibaaDoorNc
set_option linter.unusedVariables false
set_option linter.unusedSimpArgs false
set_option linter.defProp false
set_option maxRecDepth 20000
set_option maxHeartbeats 1000000
namespace Go.Proofs.YtkcbhebbjpiibaaDoor.Pg
open Go
theorem sbPb {A : Prop} (h : A := by repeat' (first | exact trivial | refine And.intro ?_ ?_ | exact SubB.v | exact SubB.any | ((first | refine SubB.ptr ?_ | refine SubB.arr ?_ | refine SubB.mp ?_) <;> first | assumption | (unfold pid; omega)) | ((first | refine SubB.pure ?_ | refine SubBs.pure ?_) <;> (simp only [AV.pure, AV.pures, pures_append, jpu, brow_pur, Bool.and_self, Bool.and_true, Bool.true_and]; done)) | refine SubB.fn ?_ ?_ | refine SubB.sl ?_ ?_ | refine SubB.agg ?_ | refine SubB.tup ?_ | rfl)) : A := h
variable {m : Int} {G : Nat → Option (List AV)}
def raiK (R : Ru) (i : Nat) (p : Nat → Bool) (k : Nat) : Nat → Bool := fun x => p x || (decide (x < k) && R.U i x)
theorem raiK_zero (R : Ru) (i : Nat) (p : Nat → Bool) : raiK R i p 0 = p := by funext x; unfold raiK; simp
theorem raiK_succ (R : Ru) (i : Nat) (p : Nat → Bool) (k : Nat) (v : Bool) (h : v = (p k || R.U i k)) : upd (raiK R i p k) k v = raiK R i p (k + 1) := by
  funext x
  unfold upd raiK
  by_cases e : x = k
  · subst e; rw [if_pos rfl, h, decide_eq_true (by omega), Bool.true_and]
  · rw [if_neg e, show decide (x < k + 1) = decide (x < k) from decide_eq_decide.2 (by omega)]
theorem raiK_at (R : Ru) (i : Nat) (p : Nat → Bool) (k : Nat) : raiK R i p k k = p k := by unfold raiK; simp
def ir73 : IFn := ⟨34, [⟨6, none⟩], (.seq (.reg [oA 6 (.mov (.k (.sl .nil 0 [])))]) (.seq (.seq (.reg [oA 9 (kM 0), oA 10 (.nchk (.r 9)), oA 11 (.fadr 3 (.r 10)), oL 12 11 none, oA 13 (kM 2), oA 14 (.iasl 1 (.r 12) (.r 13)), oL 15 14 none, oT 16 15 (.lenl (.r 15)), oA 17 (.mov (kI 0))]) (.block 0 (.loop (.seq (.reg [oA 18 (.bin .lss (.r 17) (.r 16))]) (.seq (.cond (.r 18) .skip (.exit 0)) (.seq (.block 1 (.seq (.reg [oA 19 (kM 17), oA 20 (.iasl 1 (.r 15) (.r 17)), oL 21 20 none, oA 7 (kM 19), oA 8 (kM 21)]) (.reg [oA 22 (kM 1), oA 23 (kM 7), oA 24 (kM 1), oA 25 (kM 7), oA 26 (.iasl 1 (.r 24) (.r 25)), oL 27 26 none, oA 28 (kM 27), ⟨(some 29), (some ((28, false))), none, (kM 8)⟩, oA 30 (.pick (.r 28) (kB true) (.r 29)), oA 31 (.iasl 1 (.r 22) (.r 23)), oN (.store 1 (.r 31) (.r 30))]))) (.reg [oA 32 (.bin .add (.r 17) (kI 1)), oA 17 (kM 32)]))))))) (.seq (.reg [oA 33 (kM 1), oA 6 (kM 33)]) .ret)))⟩
theorem c73 : cfunc Tryd.prog 73 = some ir73 := by kernel_rfl
theorem k73 : okIR (max 3 ir73.n) ir73.ir = true := by decide +kernel
theorem s_raise (o ol i : Nat) (R : Ru) (p : Nat → Bool) (hi : i < R.sz) (j : JH) (hl : ol < j.next) (h : ∀ x, RuAt (j.set ol x) o R) (hne : ∀ k, k < R.sz → pid R.uU k ≠ ol) (hno : o ≠ ol) :
    JC Tryd.prog G 73 [.ptr o 0, .arr ol 0 R.sz, I64 i] (j.set ol (.cells 4 (brow R.sz p))) (RET (.arr ol 0 R.sz) (j.set ol (.cells 4 (brow R.sz (raiK R i p R.sz))))) := by
  have hf := (h (.cells 4 [])).few
  have hz : R.sz ≤ 28 := by unfold Ru.sz; omega
  have gO : ∀ {x : AObj} {l : List AObj}, (ext (j.set ol x) l).get o = some (.cells 67 R.cells) := fun {x l} => by rw [ext_get_old (h x).lo]; exact (h x).go
  have lU : ∀ {x : AObj}, pid R.uU i < (j.set ol x).next := fun {x} => by have := (h x).lU; unfold pid; omega
  have gU : ∀ {x : AObj} {l : List AObj}, (ext (j.set ol x) l).get (pid R.uU i) = some (.cells 4 (brow R.sz (R.U i))) := fun {x l} => by rw [ext_get_old lU]; exact (h x).gU i hi
  have gL : ∀ {x : AObj} {l : List AObj}, (ext (j.set ol x) l).get ol = some x := fun {x l} => sold_get hl
  have sL : ∀ {x y : AObj} {l : List AObj}, (ext (j.set ol x) l).set ol y = ext (j.set ol y) l := fun {x y l} => by rw [ext_set_old (by exact hl), set_set]
  have lo2 : ∀ {x : AObj}, o < (j.set ol x).next := fun {x} => (h x).lo
  refine JC.run hmix c73 (by exact k73) ?_
  (try simp only[↓jr,jw,seval,gO,gU,gL,sL,Ru.cells,arrs_len,arrs_ld,brow_ld,brow_len,set_next,set_tnext,ir73])
  refine wc.intro (by omega) ?_
  (try simp only[↓jr,jw,seval,gO,gU,gL,sL,Ru.cells,arrs_len,arrs_ld,brow_ld,brow_len,set_next,set_tnext])
  refine wc.intro (by omega) ?_
  (try simp only[↓jr,jw,seval,gO,gU,gL,sL,Ru.cells,arrs_len,arrs_ld,brow_ld,brow_len,set_next,set_tnext])
  refine JLOOP.of (σ := Nat) (fun k => k ≤ R.sz) (fun k => R.sz - k)
    (fun k => [(17, I64 k), (16, I64 R.sz), (15, .arr (pid R.uU i) 0 R.sz), (1, .arr ol 0 R.sz)]) (fun k => ext (j.set ol (.cells 4 (brow R.sz (raiK R i p k)))) []) 0 (Nat.zero_le _) ?_ (by rw [raiK_zero]; exact JDropH.refl _) ?_
  · have l1 := @lU (.cells 4 [])
    rw [set_next] at l1
    (try simp only[↓jr,jw,seval,gO,gU,gL,sL,Ru.cells,arrs_len,arrs_ld,brow_ld,brow_len,set_next,set_tnext,DL])
    exact ⟨SubB.v, SubB.v, SubB.arr (by unfold pid at *; omega), SubB.arr (by unfold pid; omega)⟩
  rintro k hk
  (try simp only[↓jr,jw,seval,gO,gU,gL,sL,Ru.cells,arrs_len,arrs_ld,brow_ld,brow_len,set_next,set_tnext])
  refine wq.intro (fun g1 => ?_) (fun g1 => ?_)
  · have nx := fun v hv => raiK_succ R i p k v hv
    have hat := raiK_at R i p k
    have l1 := @lU (.cells 4 [])
    rw [set_next] at l1
    (try simp only[↓jr,jw,seval,gO,gU,gL,sL,Ru.cells,arrs_len,arrs_ld,brow_ld,brow_len,set_next,set_tnext])
    repeat' (first | (refine ww.intro (fun _ => ?_) (fun _ => ?_) <;> (try simp only[↓jr,jw,seval,gO,gU,gL,sL,Ru.cells,arrs_len,arrs_ld,brow_ld,brow_len,set_next,set_tnext])) | (refine wc.bput (by omega) (by omega) ?_; (try simp only[↓jr,jw,seval,gO,gU,gL,sL,Ru.cells,arrs_len,arrs_ld,brow_ld,brow_len,set_next,set_tnext])) | (refine wc.intro (by first | omega | (unfold R64; omega)) ?_; (try simp only[↓jr,jw,seval,gO,gU,gL,sL,Ru.cells,arrs_len,arrs_ld,brow_ld,brow_len,set_next,set_tnext])) | fail)
    all_goals
      rename_i q1
      rw [hat] at q1
      refine JNEXT.of (k + 1) (by omega) (by omega) ?_ (by rw [nx _ (by rw [q1]; simp)]; exact JDropH.nextS (OSub.pure (brow_pur _ _)) True.intro)
      (try simp only[↓jr,jw,seval,gO,gU,gL,sL,Ru.cells,arrs_len,arrs_ld,brow_ld,brow_len,set_next,set_tnext,DL])
      exact ⟨SubB.eqi (by omega), SubB.v, SubB.arr (by unfold pid at *; omega), SubB.arr (by unfold pid; omega)⟩
  · (try simp only[↓jr,jw,seval,gO,gU,gL,sL,Ru.cells,arrs_len,arrs_ld,brow_ld,brow_len,set_next,set_tnext])
    have ek : k = R.sz := by omega
    rw [ek]
    refine JFIN.ret (J := j.set ol (.cells 4 (brow R.sz (raiK R i p R.sz)))) ((JDropH.backS hl (OSub.pure (brow_pur _ _))).of_ext) (SubB.arr hl)
theorem s_raiseO (o d : Nat) (R : Ru) (p : Nat → Bool) (hd : d < R.sz) (j : JH) (h : RuAt j o R) (a c : AObj) : JC Tryd.prog G 73 [.ptr o 0, .arr (pid j.next 1) 0 R.sz, I64 d] (ext j [a, .cells 4 (brow R.sz p), c]) (RET (.arr (pid j.next 1) 0 R.sz) (ext j [a, .cells 4 (brow R.sz (raiK R d p R.sz)), c])) := by
  have hs : ∀ x y, (ext j [a, x, c]).set (pid j.next 1) y = ext j [a, y, c] := fun x y => by rw [ext_set_new rfl (by simp)]; rfl
  have := s_raise (G := G) o (pid j.next 1) d R p hd (ext j [a, .cells 4 (brow R.sz p), c]) (by rw [ext_next]; unfold pid; simp) (fun x => by rw [hs]; exact h.ext _) (fun k hk => by have := h.lU; unfold pid; omega) (by have := h.lo; unfold pid; omega)
  rwa [hs, hs] at this
/-! ### What an individual belongs to -/
def sgR (b : Bas) : Dat → List (Nat × Nat)
  | .inl f => [(f.ind.toNat, f.con.n.toNat)]
  | .inr l => [(l.fr.toNat, b.kc + 2 * l.role.toNat), (l.to.toNat, b.kc + (2 * l.role.toNat + 1))]
def refL (b : Bas) (i : Nat) : List Nat := stS (b.dat.flatMap (sgR b)) i
def belK (R : Ru) (L : List Nat) : Nat → Bool := fun x => L.any fun d => decide (x < R.sz) && R.U d x
theorem belK_add (R : Ru) (L : List Nat) (d : Nat) : raiK R d (belK R L) R.sz = belK R (L ++ [d]) := by
  funext x; unfold raiK belK; rw [List.any_append, List.any_cons, List.any_nil, Bool.or_false]
theorem stS_one (S : List (Nat × Nat)) (i k v : Nat) : stS (S ++ [(k, v)]) i = if k = i then stS S i ++ [v] else stS S i := by
  rw [stS_app]; split
  · rfl
  · rw [List.append_nil]
structure Bas.said2 (b : Bas) : Prop where
  said : b.said
  fac : ∀ x ∈ b.facts, ∃ i c : Nat, x.ind = i ∧ x.con.n = c ∧ c < b.kc
  lnk : ∀ x ∈ b.links, ∃ r i k : Nat, x.role = r ∧ 2 * r + 1 < b.kr ∧ x.fr = i ∧ x.to = k
theorem said2_of {b : Bas} (hR : basR b = true) (hf : fitR b = true) : b.said2 := by
  refine ⟨basR_said hR, fun x hx => ?_, fun x hx => ?_⟩
  · obtain ⟨i, c, e1, -, e2, -⟩ := (basR_said hR).fac x hx
    refine ⟨i, c, e1, e2, ?_⟩
    unfold fitR at hf
    rw [Bool.and_eq_true] at hf
    have ho : x.con.op = 0 := of_decide_eq_true (List.all_eq_true.1 hf.2 x hx)
    have hs := conOK_shaped (basR_cons hR x.con (List.mem_append.2 (.inr (mem_consF hx))))
    revert ho hs e2
    generalize x.con = y
    obtain ⟨op, n, l⟩ := y
    simp only [Con.op, Con.n]
    intro e2 ho hs
    subst ho
    rw [shaped_mk] at hs
    have := hs.1.2.2.1 rfl
    show c < b.nms.cs.length
    omega
  · obtain ⟨r, i, k, e0, -, e1, -, e2, -⟩ := (basR_said hR).lnk x hx
    refine ⟨r, i, k, e0, ?_, e1, e2⟩
    unfold basR at hR
    simp only [Bool.and_eq_true, List.all_eq_true] at hR
    have hl := hR.2.2.2.2.1 x hx
    unfold lnkOK at hl
    simp only [Bool.and_eq_true, decide_eq_true_eq] at hl
    unfold Bas.kr; omega
abbrev sgRF (b : Bas) (x : Fac) : List (Nat × Nat) := sgR b (.inl x)
abbrev sgRL (b : Bas) (x : Lnk) : List (Nat × Nat) := sgR b (.inr x)
theorem refL_flat (b : Bas) (i : Nat) : refL b i = stS (b.facts.flatMap (sgRF b) ++ b.links.flatMap (sgRL b)) i := by
  unfold refL Bas.dat; rw [List.flatMap_append, List.flatMap_map, List.flatMap_map]
def ir37 : IFn := ⟨74, [⟨6, none⟩], (.seq (.reg [oA 4 (.box 30 (.r 1)), oA 6 (.mov (.k (.sl .nil 0 [])))]) (.seq (.draw [oA 12 (kM 0), oA 13 (.nchk (.r 12)), oA 14 (.fadr 0 (.r 13)), oL 15 14 none, oA 16 (kM 0), oA 17 (.nchk (.r 16)), oA 18 (.fadr 1 (.r 17)), oL 19 18 none, oA 20 (.bin .add (.r 15) (.r 19)), oA 21 (.mks 4 1 1 [.v (.bool false)] (.r 20) (.r 20)), oA 7 (kM 21)] []) (.seq (.seq (.reg [oA 22 (.fadr 5 (.r 4)), oL 23 22 none, oT 24 23 (.lenl (.r 23)), oA 25 (.mov (kI 0))]) (.block 0 (.loop (.seq (.reg [oA 26 (.bin .lss (.r 25) (.r 24))]) (.seq (.cond (.r 26) .skip (.exit 0)) (.seq (.block 1 (.seq (.reg [oA 27 (.iasl 4 (.r 23) (.r 25)), oL 28 27 (some 4), oA 9 (.alloc 92 [.v (.int .i64 0), .v (.int .i64 0), .v (.int .i64 0), .sl .nil 0 []]), oN (.store 4 (.r 9) (.r 28))]) (.seq (.reg [oA 29 (.fadr 0 (.r 9)), oL 30 29 none, oA 31 (kM 2), oA 32 (.bin .eql (.r 30) (.r 31))]) (.cond (.r 32) (.reg [oA 33 (kM 0), oA 34 (kM 7), oA 35 (.fadr 1 (.r 9)), oA 36 (.fadr 1 (.r 35)), oL 37 36 none, oA 38 (.call 73 [.r 33, .r 34, .r 37]), oA 7 (kM 38)]) .skip)))) (.reg [oA 39 (.bin .add (.r 25) (kI 1)), oA 25 (kM 39)]))))))) (.seq (.seq (.reg [oA 40 (.fadr 6 (.r 4)), oL 41 40 none, oT 42 41 (.lenl (.r 41)), oA 43 (.mov (kI 0))]) (.block 2 (.loop (.seq (.reg [oA 44 (.bin .lss (.r 43) (.r 42))]) (.seq (.cond (.r 44) .skip (.exit 2)) (.seq (.block 3 (.seq (.reg [oA 45 (.iasl 3 (.r 41) (.r 43)), oL 46 45 (some 3), oA 11 (.alloc 94 [.v (.int .i64 0), .v (.int .i64 0), .v (.int .i64 0)]), oN (.store 3 (.r 11) (.r 46))]) (.seq (.seq (.reg [oA 47 (.fadr 1 (.r 11)), oL 48 47 none, oA 49 (kM 2), oA 50 (.bin .eql (.r 48) (.r 49))]) (.cond (.r 50) (.reg [oA 51 (kM 0), oA 52 (kM 7), oA 53 (kM 0), oA 54 (.fadr 0 (.r 11)), oL 55 54 none, oA 56 (.bin .mul (kI 2) (.r 55)), oA 57 (.call 68 [.r 53, .r 56]), oA 58 (.call 73 [.r 51, .r 52, .r 57]), oA 7 (kM 58)]) .skip)) (.seq (.reg [oA 59 (.fadr 2 (.r 11)), oL 60 59 none, oA 61 (kM 2), oA 62 (.bin .eql (.r 60) (.r 61))]) (.cond (.r 62) (.reg [oA 63 (kM 0), oA 64 (kM 7), oA 65 (kM 0), oA 66 (.fadr 0 (.r 11)), oL 67 66 none, oA 68 (.bin .mul (kI 2) (.r 67)), oA 69 (.bin .add (.r 68) (kI 1)), oA 70 (.call 68 [.r 65, .r 69]), oA 71 (.call 73 [.r 63, .r 64, .r 70]), oA 7 (kM 71)]) .skip))))) (.reg [oA 72 (.bin .add (.r 43) (kI 1)), oA 43 (kM 72)]))))))) (.seq (.reg [oA 73 (kM 7), oA 6 (kM 73)]) .ret)))))⟩
theorem c37 : cfunc Tryd.prog 37 = some ir37 := by kernel_rfl
theorem k37 : okIR (max 3 ir37.n) ir37.ir = true := by decide +kernel
theorem s_Belongs (o i : Nat) (R : Ru) (b : Bas) (hs : b.said2) (hnc : R.nc = b.kc) (hnr : R.nr = b.kr) (j : JH) (h : RuAt j o R) :
    JC Tryd.prog G 37 [.ptr o 0, .agg b.enc, I64 i] j (RET (.arr (pid j.next 1) 0 R.sz) (ext j [.cells 30 b.enc, .cells 4 (brow R.sz (belK R (refL b i)))])) := by
  have ho := h.lo
  have hg := h.go
  have hf := h.few
  have hz : R.sz ≤ 28 := by unfold Ru.sz; omega
  have hcnt := hs.said.cnt
  unfold Bas.count at hcnt
  have lo2 : ∀ {l : List AObj}, o < (ext j l).next := fun {l} => by rw [ext_next]; unfold pid; omega
  have lo3 : ∀ {k : Nat}, o < pid j.next k := fun {k} => by unfold pid; omega
  have ez : (R.nc : Int) + (R.nr : Int) = (R.sz : Int) := by unfold Ru.sz; omega
  have hb0 : (brow R.sz fun _ => false) = brow R.sz (belK R []) := rfl
  refine JC.run hmix c37 (by exact k37) ?_
  (try simp only[↓jr,jw,seval,jq2,q_e5,ext_next,ext_tnext,Nat.le_refl,ext_get_old,ho,hg,lo2,lo3,Ru.cells,brow_new,brow_len,ir37])
  refine wc.intro (by unfold R64; omega) ?_
  rw [ez]
  (try simp only[↓jr,jw,seval,jq2,q_e5,ext_next,ext_tnext,Nat.le_refl,ext_get_old,ho,hg,lo2,lo3,Ru.cells,brow_new,brow_len])
  refine JMKS.same (by omega) (by omega) ?_
  (try simp only[↓jr,jw,seval,jq2,q_e5,ext_next,ext_tnext,Nat.le_refl,ext_get_old,ho,hg,lo2,lo3,Ru.cells,brow_new,brow_len,ext_push])
  refine JDRAW.oc (by (try simp only[↓jr,jw,seval,jq2,q_e5,ext_next,ext_tnext,Nat.le_refl,ext_get_old,ho,hg,lo2,lo3,Ru.cells,brow_new,brow_len,jq]) <;> exact orq) ?_; (try simp only[↓jr,jw,seval,jq2,q_e5,ext_next,ext_tnext,Nat.le_refl,ext_get_old,ho,hg,lo2,lo3,Ru.cells,brow_new,brow_len])
  refine JLOOP.of (σ := Nat) (fun k => k ≤ b.facts.length) (fun k => b.facts.length - k)
    (fun k => [(25, I64 k), (24, I64 b.facts.length), (23, .sl .none b.facts.length (encs Fac.enc b.facts)), (4, .ptr (pid j.next 0) 0), (0, .ptr o 0), (2, I64 i), (7, .arr (pid j.next 1) 0 R.sz)])
    (fun k => ext j [.cells 30 b.enc, .cells 4 (brow R.sz (belK R (stS ((b.facts.take k).flatMap (sgRF b)) i)))]) 0 (Nat.zero_le _) ?_ (JDropH.refl _) ?_
  · (try simp only[↓jr,jw,seval,jq2,q_e5,ext_next,ext_tnext,Nat.le_refl,ext_get_old,ho,hg,lo2,lo3,Ru.cells,brow_new,brow_len,DL])
    exact ⟨SubB.v, SubB.v, SubB.sl rfl (SubBs.pure (encs_pur Fac.pur _)), SubB.ptr (by unfold pid; omega), SubB.ptr (by unfold pid; omega), SubB.v, SubB.arr (by unfold pid; omega)⟩
  rintro k hk
  (try simp only[↓jr,jw,seval,jq2,q_e5,ext_next,ext_tnext,Nat.le_refl,ext_get_old,ho,hg,lo2,lo3,Ru.cells,brow_new,brow_len])
  refine wq.intro (fun g1 => ?_) (fun g1 => ?_)
  · have hlt : k < (b.facts).length := by omega
    obtain ⟨x, r, hd⟩ : ∃ c_ l_, List.drop k (b.facts) = c_ :: l_ := ⟨_, _, List.drop_eq_getElem_cons hlt⟩
    have hd1 : List.drop (k + 1) (b.facts) = r := by rw [← List.drop_drop, hd]; rfl
    have hmem : x ∈ b.facts := List.mem_of_mem_drop (hd ▸ List.mem_cons_self)
    have hfl := flat_take (f := sgRF b) hd
    obtain ⟨fi, c, e1, e2, lc⟩ := hs.fac x hmem
    have e4 : sgRF b x = [(fi, c)] := by show [(x.ind.toNat, x.con.n.toNat)] = _; rw [e1, e2]; rfl
    rw [e4] at hfl
    generalize hS : (b.facts.take k).flatMap (sgRF b) = S at hfl
    have h1 := stS_one S i fi c
    (try simp only[↓jr,jw,seval,jq2,q_e5,ext_next,ext_tnext,Nat.le_refl,ext_get_old,ho,hg,lo2,lo3,Ru.cells,brow_new,brow_len,hd])
    refine wc.intro (by omega) ?_
    (try simp only[↓jr,jw,seval,jq2,q_e5,ext_next,ext_tnext,Nat.le_refl,ext_get_old,ho,hg,lo2,lo3,Ru.cells,brow_new,brow_len,hd,e1,e2])
    refine wq.intro (fun q1 => ?_) (fun q1 => ?_)
    · (try simp only[↓jr,jw,seval,jq2,q_e5,ext_next,ext_tnext,Nat.le_refl,ext_get_old,ho,hg,lo2,lo3,Ru.cells,brow_new,brow_len,e1,e2])
      refine JCs.ret (s_raiseO o c R _ (by unfold Ru.sz; omega) j h _ _) ?_
      rw [belK_add]
      (try simp only[↓jr,jw,seval,jq2,q_e5,ext_next,ext_tnext,Nat.le_refl,ext_get_old,ho,hg,lo2,lo3,Ru.cells,brow_new,brow_len])
      refine wc.intro (by unfold R64; omega) ?_
      (try simp only[↓jr,jw,seval,jq2,q_e5,ext_next,ext_tnext,Nat.le_refl,ext_get_old,ho,hg,lo2,lo3,Ru.cells,brow_new,brow_len])
      rw [if_pos (by omega)] at h1
      refine JNEXT.of (k + 1) (by omega) (by omega) ?_ (by rw [hfl, h1]; exact JDropH.next0 (TokExt.refl _) ⟨.inl ⟨rfl, rfl⟩, .inr (OSub.pure (brow_pur _ _)), True.intro⟩)
      (try simp only[↓jr,jw,seval,jq2,q_e5,ext_next,ext_tnext,Nat.le_refl,ext_get_old,ho,hg,lo2,lo3,Ru.cells,brow_new,brow_len,DL])
      exact ⟨SubB.eqi (by omega), SubB.v, SubB.sl rfl (SubBs.pure (encs_pur Fac.pur _)), SubB.ptr (by unfold pid; omega), SubB.ptr (by unfold pid; omega), SubB.v, SubB.arr (by unfold pid; omega)⟩
    · (try simp only[↓jr,jw,seval,jq2,q_e5,ext_next,ext_tnext,Nat.le_refl,ext_get_old,ho,hg,lo2,lo3,Ru.cells,brow_new,brow_len])
      refine wc.intro (by unfold R64; omega) ?_
      (try simp only[↓jr,jw,seval,jq2,q_e5,ext_next,ext_tnext,Nat.le_refl,ext_get_old,ho,hg,lo2,lo3,Ru.cells,brow_new,brow_len])
      rw [if_neg (by omega)] at h1
      refine JNEXT.of (k + 1) (by omega) (by omega) ?_ (by rw [hfl, h1]; exact JDropH.next0 (TokExt.refl _) ⟨.inl ⟨rfl, rfl⟩, .inr (OSub.pure (brow_pur _ _)), True.intro⟩)
      (try simp only[↓jr,jw,seval,jq2,q_e5,ext_next,ext_tnext,Nat.le_refl,ext_get_old,ho,hg,lo2,lo3,Ru.cells,brow_new,brow_len,DL])
      exact ⟨SubB.eqi (by omega), SubB.v, SubB.sl rfl (SubBs.pure (encs_pur Fac.pur _)), SubB.ptr (by unfold pid; omega), SubB.ptr (by unfold pid; omega), SubB.v, SubB.arr (by unfold pid; omega)⟩
  (try simp only[↓jr,jw,seval,jq2,q_e5,ext_next,ext_tnext,Nat.le_refl,ext_get_old,ho,hg,lo2,lo3,Ru.cells,brow_new,brow_len])
  have ek : k = b.facts.length := by omega
  subst ek
  rw [List.take_length]
  generalize hS0 : b.facts.flatMap (sgRF b) = S0
  have href : refL b i = stS (S0 ++ b.links.flatMap (sgRL b)) i := by rw [refL_flat, hS0]
  clear hk g1
  refine JLOOP.of (σ := Nat) (fun k => k ≤ b.links.length) (fun k => b.links.length - k)
    (fun k => [(43, I64 k), (42, I64 b.links.length), (41, .sl .none b.links.length (encs Lnk.enc b.links)), (4, .ptr (pid j.next 0) 0), (0, .ptr o 0), (2, I64 i), (7, .arr (pid j.next 1) 0 R.sz)])
    (fun k => ext j [.cells 30 b.enc, .cells 4 (brow R.sz (belK R (stS (S0 ++ (b.links.take k).flatMap (sgRL b)) i)))]) 0 (Nat.zero_le _) ?_ (by rw [List.take_zero, List.flatMap_nil, List.append_nil]; exact JDropH.refl _) ?_
  · (try simp only[↓jr,jw,seval,jq2,q_e5,ext_next,ext_tnext,Nat.le_refl,ext_get_old,ho,hg,lo2,lo3,Ru.cells,brow_new,brow_len,DL])
    exact ⟨SubB.v, SubB.v, SubB.sl rfl (SubBs.pure (encs_pur Lnk.pur _)), SubB.ptr (by unfold pid; omega), SubB.ptr (by unfold pid; omega), SubB.v, SubB.arr (by unfold pid; omega)⟩
  rintro k hk
  (try simp only[↓jr,jw,seval,jq2,q_e5,ext_next,ext_tnext,Nat.le_refl,ext_get_old,ho,hg,lo2,lo3,Ru.cells,brow_new,brow_len])
  refine wq.intro (fun g1 => ?_) (fun g1 => ?_)
  · have hlt : k < (b.links).length := by omega
    obtain ⟨x, r, hd⟩ : ∃ c_ l_, List.drop k (b.links) = c_ :: l_ := ⟨_, _, List.drop_eq_getElem_cons hlt⟩
    have hd1 : List.drop (k + 1) (b.links) = r := by rw [← List.drop_drop, hd]; rfl
    have hmem : x ∈ b.links := List.mem_of_mem_drop (hd ▸ List.mem_cons_self)
    obtain ⟨r', fi, ti, e0, lr, e1, e2⟩ := hs.lnk x hmem
    have e4 : sgRL b x = [(fi, b.kc + 2 * r'), (ti, b.kc + (2 * r' + 1))] := by show [(x.fr.toNat, b.kc + 2 * x.role.toNat), (x.to.toNat, b.kc + (2 * x.role.toNat + 1))] = _; rw [e0, e1, e2]; rfl
    have hfl : S0 ++ (b.links.take (k + 1)).flatMap (sgRL b) = ((S0 ++ (b.links.take k).flatMap (sgRL b)) ++ [(fi, b.kc + 2 * r')]) ++ [(ti, b.kc + (2 * r' + 1))] := by
      rw [flat_take (f := sgRL b) hd, e4]; simp
    generalize hS : S0 ++ (b.links.take k).flatMap (sgRL b) = S at hfl
    have h1 := stS_one S i fi (b.kc + 2 * r')
    have h3 := stS_one (S ++ [(fi, b.kc + 2 * r')]) i ti (b.kc + (2 * r' + 1))
    rw [← hfl] at h3
    have t0 : 2 * (r' : Int) = ((2 * r' : Nat) : Int) := by omega
    have t1 : ((2 * r' : Nat) : Int) + 1 = ((2 * r' + 1 : Nat) : Int) := by omega
    have n1 : R.nc + 2 * r' = b.kc + 2 * r' := by rw [hnc]
    have n2 : R.nc + (2 * r' + 1) = b.kc + (2 * r' + 1) := by rw [hnc]
    have z1 : b.kc + 2 * r' < R.sz := by unfold Ru.sz; omega
    have z2 : b.kc + (2 * r' + 1) < R.sz := by unfold Ru.sz; omega
    have fin : ∀ {p : Nat → Bool}, p = belK R (stS (S0 ++ (b.links.take (k + 1)).flatMap (sgRL b)) i) → JDropH (ext j [.cells 30 b.enc, .cells 4 (brow R.sz (belK R (stS S i)))]) (ext j [.cells 30 b.enc, .cells 4 (brow R.sz p), .cells 94 x.enc]) (ext j [.cells 30 b.enc, .cells 4 (brow R.sz (belK R (stS (S0 ++ (b.links.take (k + 1)).flatMap (sgRL b)) i)))]) := fun e => by
      rw [e]; exact JDropH.next0 (TokExt.refl _) ⟨.inl ⟨rfl, rfl⟩, .inr (OSub.pure (brow_pur _ _)), True.intro⟩
    (try simp only[↓jr,jw,seval,jq2,q_e5,ext_next,ext_tnext,Nat.le_refl,ext_get_old,ho,hg,lo2,lo3,Ru.cells,brow_new,brow_len,hd])
    refine wc.intro (by omega) ?_
    (try simp only[↓jr,jw,seval,jq2,q_e5,ext_next,ext_tnext,Nat.le_refl,ext_get_old,ho,hg,lo2,lo3,Ru.cells,brow_new,brow_len,hd,e0,e1,e2])
    refine wq.intro (fun q1 => ?_) (fun q1 => ?_)
    · rw [if_pos (by omega)] at h1
      (try simp only[↓jr,jw,seval,jq2,q_e5,ext_next,ext_tnext,Nat.le_refl,ext_get_old,ho,hg,lo2,lo3,Ru.cells,brow_new,brow_len,e0,e1,e2])
      refine wr.in (by unfold R64; omega) ?_
      (try simp only[↓jr,jw,seval,jq2,q_e5,ext_next,ext_tnext,Nat.le_refl,ext_get_old,ho,hg,lo2,lo3,Ru.cells,brow_new,brow_len,t0])
      refine JCs.ret (s_Some o R (2 * r') (by omega) _ (h.ext _)) ?_
      rw [n1]
      (try simp only[↓jr,jw,seval,jq2,q_e5,ext_next,ext_tnext,Nat.le_refl,ext_get_old,ho,hg,lo2,lo3,Ru.cells,brow_new,brow_len])
      refine JCs.ret (s_raiseO o (b.kc + 2 * r') R _ z1 j h _ _) ?_
      rw [belK_add, ← h1]
      (try simp only[↓jr,jw,seval,jq2,q_e5,ext_next,ext_tnext,Nat.le_refl,ext_get_old,ho,hg,lo2,lo3,Ru.cells,brow_new,brow_len,e0,e1,e2])
      refine wq.intro (fun q2 => ?_) (fun q2 => ?_)
      · rw [if_pos (by omega)] at h3
        (try simp only[↓jr,jw,seval,jq2,q_e5,ext_next,ext_tnext,Nat.le_refl,ext_get_old,ho,hg,lo2,lo3,Ru.cells,brow_new,brow_len,e0,e1,e2])
        refine wr.in (by unfold R64; omega) ?_
        (try simp only[↓jr,jw,seval,jq2,q_e5,ext_next,ext_tnext,Nat.le_refl,ext_get_old,ho,hg,lo2,lo3,Ru.cells,brow_new,brow_len,t0])
        refine wc.intro (by unfold R64; omega) ?_
        (try simp only[↓jr,jw,seval,jq2,q_e5,ext_next,ext_tnext,Nat.le_refl,ext_get_old,ho,hg,lo2,lo3,Ru.cells,brow_new,brow_len,t1])
        refine JCs.ret (s_Some o R (2 * r' + 1) (by omega) _ (h.ext _)) ?_
        rw [n2]
        (try simp only[↓jr,jw,seval,jq2,q_e5,ext_next,ext_tnext,Nat.le_refl,ext_get_old,ho,hg,lo2,lo3,Ru.cells,brow_new,brow_len])
        refine JCs.ret (s_raiseO o (b.kc + (2 * r' + 1)) R _ z2 j h _ _) ?_
        rw [belK_add]
        (try simp only[↓jr,jw,seval,jq2,q_e5,ext_next,ext_tnext,Nat.le_refl,ext_get_old,ho,hg,lo2,lo3,Ru.cells,brow_new,brow_len])
        refine wc.intro (by unfold R64; omega) ?_
        (try simp only[↓jr,jw,seval,jq2,q_e5,ext_next,ext_tnext,Nat.le_refl,ext_get_old,ho,hg,lo2,lo3,Ru.cells,brow_new,brow_len])
        refine JNEXT.of (k + 1) (by omega) (by omega) ?_ (fin (by rw [h3]))
        (try simp only[↓jr,jw,seval,jq2,q_e5,ext_next,ext_tnext,Nat.le_refl,ext_get_old,ho,hg,lo2,lo3,Ru.cells,brow_new,brow_len,DL])
        exact ⟨SubB.eqi (by omega), SubB.v, SubB.sl rfl (SubBs.pure (encs_pur Lnk.pur _)), SubB.ptr (by unfold pid; omega), SubB.ptr (by unfold pid; omega), SubB.v, SubB.arr (by unfold pid; omega)⟩
      · rw [if_neg (by omega)] at h3
        (try simp only[↓jr,jw,seval,jq2,q_e5,ext_next,ext_tnext,Nat.le_refl,ext_get_old,ho,hg,lo2,lo3,Ru.cells,brow_new,brow_len])
        refine wc.intro (by unfold R64; omega) ?_
        (try simp only[↓jr,jw,seval,jq2,q_e5,ext_next,ext_tnext,Nat.le_refl,ext_get_old,ho,hg,lo2,lo3,Ru.cells,brow_new,brow_len])
        refine JNEXT.of (k + 1) (by omega) (by omega) ?_ (fin (by rw [h3]))
        (try simp only[↓jr,jw,seval,jq2,q_e5,ext_next,ext_tnext,Nat.le_refl,ext_get_old,ho,hg,lo2,lo3,Ru.cells,brow_new,brow_len,DL])
        exact ⟨SubB.eqi (by omega), SubB.v, SubB.sl rfl (SubBs.pure (encs_pur Lnk.pur _)), SubB.ptr (by unfold pid; omega), SubB.ptr (by unfold pid; omega), SubB.v, SubB.arr (by unfold pid; omega)⟩
    · rw [if_neg (by omega)] at h1
      (try simp only[↓jr,jw,seval,jq2,q_e5,ext_next,ext_tnext,Nat.le_refl,ext_get_old,ho,hg,lo2,lo3,Ru.cells,brow_new,brow_len,e0,e1,e2])
      refine wq.intro (fun q2 => ?_) (fun q2 => ?_)
      · rw [if_pos (by omega), h1] at h3
        (try simp only[↓jr,jw,seval,jq2,q_e5,ext_next,ext_tnext,Nat.le_refl,ext_get_old,ho,hg,lo2,lo3,Ru.cells,brow_new,brow_len,e0,e1,e2])
        refine wr.in (by unfold R64; omega) ?_
        (try simp only[↓jr,jw,seval,jq2,q_e5,ext_next,ext_tnext,Nat.le_refl,ext_get_old,ho,hg,lo2,lo3,Ru.cells,brow_new,brow_len,t0])
        refine wc.intro (by unfold R64; omega) ?_
        (try simp only[↓jr,jw,seval,jq2,q_e5,ext_next,ext_tnext,Nat.le_refl,ext_get_old,ho,hg,lo2,lo3,Ru.cells,brow_new,brow_len,t1])
        refine JCs.ret (s_Some o R (2 * r' + 1) (by omega) _ (h.ext _)) ?_
        rw [n2]
        (try simp only[↓jr,jw,seval,jq2,q_e5,ext_next,ext_tnext,Nat.le_refl,ext_get_old,ho,hg,lo2,lo3,Ru.cells,brow_new,brow_len])
        refine JCs.ret (s_raiseO o (b.kc + (2 * r' + 1)) R _ z2 j h _ _) ?_
        rw [belK_add]
        (try simp only[↓jr,jw,seval,jq2,q_e5,ext_next,ext_tnext,Nat.le_refl,ext_get_old,ho,hg,lo2,lo3,Ru.cells,brow_new,brow_len])
        refine wc.intro (by unfold R64; omega) ?_
        (try simp only[↓jr,jw,seval,jq2,q_e5,ext_next,ext_tnext,Nat.le_refl,ext_get_old,ho,hg,lo2,lo3,Ru.cells,brow_new,brow_len])
        refine JNEXT.of (k + 1) (by omega) (by omega) ?_ (fin (by rw [h3]))
        (try simp only[↓jr,jw,seval,jq2,q_e5,ext_next,ext_tnext,Nat.le_refl,ext_get_old,ho,hg,lo2,lo3,Ru.cells,brow_new,brow_len,DL])
        exact ⟨SubB.eqi (by omega), SubB.v, SubB.sl rfl (SubBs.pure (encs_pur Lnk.pur _)), SubB.ptr (by unfold pid; omega), SubB.ptr (by unfold pid; omega), SubB.v, SubB.arr (by unfold pid; omega)⟩
      · rw [if_neg (by omega), h1] at h3
        (try simp only[↓jr,jw,seval,jq2,q_e5,ext_next,ext_tnext,Nat.le_refl,ext_get_old,ho,hg,lo2,lo3,Ru.cells,brow_new,brow_len])
        refine wc.intro (by unfold R64; omega) ?_
        (try simp only[↓jr,jw,seval,jq2,q_e5,ext_next,ext_tnext,Nat.le_refl,ext_get_old,ho,hg,lo2,lo3,Ru.cells,brow_new,brow_len])
        refine JNEXT.of (k + 1) (by omega) (by omega) ?_ (fin (by rw [h3]))
        (try simp only[↓jr,jw,seval,jq2,q_e5,ext_next,ext_tnext,Nat.le_refl,ext_get_old,ho,hg,lo2,lo3,Ru.cells,brow_new,brow_len,DL])
        exact ⟨SubB.eqi (by omega), SubB.v, SubB.sl rfl (SubBs.pure (encs_pur Lnk.pur _)), SubB.ptr (by unfold pid; omega), SubB.ptr (by unfold pid; omega), SubB.v, SubB.arr (by unfold pid; omega)⟩
  (try simp only[↓jr,jw,seval,jq2,q_e5,ext_next,ext_tnext,Nat.le_refl,ext_get_old,ho,hg,lo2,lo3,Ru.cells,brow_new,brow_len])
  have ek : k = b.links.length := by omega
  subst ek
  rw [List.take_length, ← href]
  refine JFIN.ret (JDropH.keep fun ob hob => ?_) (SubB.arr (by rw [ext_next]; unfold pid; simp))
  simp only [List.mem_cons, List.not_mem_nil, or_false] at hob
  rcases hob with rfl | rfl
  · exact OSub.pure (Bas.pur b)
  · exact OSub.pure (brow_pur _ _)
end Go.Proofs.YtkcbhebbjpiibaaDoor.Pg
