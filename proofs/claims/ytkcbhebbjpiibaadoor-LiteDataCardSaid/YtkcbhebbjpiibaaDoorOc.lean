/-
  The reference's rules in memory: what is read of them.
-/
import Derived.Test.YtkcbhebbjpiibaaDoorOa
set_option linter.unusedVariables false
set_option linter.unusedSimpArgs false
set_option linter.defProp false
set_option maxRecDepth 20000
set_option maxHeartbeats 1000000
namespace Go.Proofs.YtkcbhebbjpiibaaDoor.Pg
open Go
section
theorem sbOc {A : Prop} (h : A := by repeat' (first | exact trivial | refine And.intro ?_ ?_ | exact SubB.v | exact SubB.any | ((first | refine SubB.ptr ?_ | refine SubB.arr ?_ | refine SubB.mp ?_) <;> first | assumption | (unfold pid; omega)) | ((first | refine SubB.pure ?_ | refine SubBs.pure ?_) <;> (simp only [AV.pure, AV.pures, pures_append, jpu, brow_pur, Bool.and_self, Bool.and_true, Bool.true_and]; done)) | refine SubB.fn ?_ ?_ | refine SubB.sl ?_ ?_ | refine SubB.agg ?_ | refine SubB.tup ?_ | rfl)) : A := h
variable {m : Int} {G : Nat → Option (List AV)}
structure Ru where
  (nc nr uB uU uA oE : Nat)
  (B U A : Nat → Nat → Bool)
  E : Nat → Bool
abbrev Ru.sz (R : Ru) : Nat := R.nc + R.nr
def Ru.cells (R : Ru) : List AV := [I64 R.nc, I64 R.nr, .sl .none R.nr (arrs R.uB R.nr R.nr), .sl .none R.sz (arrs R.uU R.sz R.sz), .sl .none R.sz (arrs R.uA R.sz R.sz), .arr R.oE 0 R.sz]
structure RuAt (j : JH) (o : Nat) (R : Ru) : Prop where
  lo : o < j.next
  go : j.get o = some (.cells 67 R.cells)
  lB : R.uB + R.nr ≤ j.next
  gB : ∀ i, i < R.nr → j.get (pid R.uB i) = some (.cells 4 (brow R.nr (R.B i)))
  lU : R.uU + R.sz ≤ j.next
  gU : ∀ i, i < R.sz → j.get (pid R.uU i) = some (.cells 4 (brow R.sz (R.U i)))
  lA : R.uA + R.sz ≤ j.next
  gA : ∀ i, i < R.sz → j.get (pid R.uA i) = some (.cells 4 (brow R.sz (R.A i)))
  lE : R.oE < j.next
  gE : j.get R.oE = some (.cells 4 (brow R.sz R.E))
  few : R.nc ≤ 16 ∧ R.nr ≤ 12 ∧ R.nr % 2 = 0
theorem RuAt.ext {j : JH} {o : Nat} {R : Ru} (h : RuAt j o R) (l : List AObj) : RuAt (ext j l) o R := by
  have lt : ∀ {x}, x < j.next → x < (Pg.ext j l).next := fun hx => by rw [ext_next]; unfold pid; omega
  have hn : (Pg.ext j l).next = j.next + l.length := rfl
  have pl : ∀ {u n i : Nat}, u + n ≤ j.next → i < n → pid u i < j.next := fun h1 h2 => by unfold pid; omega
  exact ⟨lt h.lo, by rw [ext_get_old h.lo]; exact h.go, by have := h.lB; omega, fun i hi => by rw [ext_get_old (pl h.lB hi)]; exact h.gB i hi, by have := h.lU; omega, fun i hi => by rw [ext_get_old (pl h.lU hi)]; exact h.gU i hi, by have := h.lA; omega, fun i hi => by rw [ext_get_old (pl h.lA hi)]; exact h.gA i hi, lt h.lE, by rw [ext_get_old h.lE]; exact h.gE, h.few⟩
def ir68 : IFn := ⟨11, [⟨4, none⟩], (.seq (.reg [oA 4 (.mov (kI 0))]) (.seq (.reg [oA 5 (kM 0), oA 6 (.nchk (.r 5)), oA 7 (.fadr 0 (.r 6)), oL 8 7 none, oA 9 (kM 1), oA 10 (.bin .add (.r 8) (.r 9)), oA 4 (kM 10)]) .ret))⟩
theorem c68 : cfunc Tryd.prog 68 = some ir68 := by kernel_rfl
theorem k68 : okIR (max 2 ir68.n) ir68.ir = true := by decide +kernel
theorem s_Some (o : Nat) (R : Ru) (r : Nat) (hr : r < 1000) (j : JH) (h : RuAt j o R) : JC Tryd.prog G 68 [.ptr o 0, I64 r] j (RET (I64 ((R.nc + r : Nat) : Int)) j) := by
  have ho := h.lo
  have hg := h.go
  have hf := h.few
  refine JC.run hmix c68 (by exact k68) ?_
  (try simp only[↓jr,jw,seval,ext_get_old,ho,hg,Ru.cells,ir68])
  refine wc.intro (by unfold R64; omega) ?_
  (try simp only[↓jr,jw,seval,ext_get_old,ho,hg,Ru.cells])
  refine JFIN.rb ?_
  rw [Int.natCast_add]; exact SubB.v
/-- The number of a basic concept. -/
def atN (nc : Nat) (c : Con) : Int := if c.op = 0 then c.n else nc + c.n
def ir38 : IFn := ⟨17, [⟨4, none⟩], (.seq (.reg [oA 3 (.box 43 (.r 1)), oA 4 (.mov (kI 0))]) (.seq (.seq (.reg [oA 5 (.fadr 0 (.r 3)), oL 6 5 none, oA 7 (.bin .eql (.r 6) (kI 0))]) (.cond (.r 7) (.seq (.reg [oA 8 (.fadr 1 (.r 3)), oL 9 8 none, oA 4 (kM 9)]) .ret) .skip)) (.seq (.draw [oA 10 (kM 0), oA 11 (.nchk (.r 10)), oA 12 (.fadr 0 (.r 11)), oL 13 12 none, oA 14 (.fadr 1 (.r 3)), oL 15 14 none, oA 16 (.bin .add (.r 13) (.r 15)), oA 4 (kM 16)] []) .ret)))⟩
theorem c38 : cfunc Tryd.prog 38 = some ir38 := by kernel_rfl
theorem k38 : okIR (max 2 ir38.n) ir38.ir = true := by decide +kernel
theorem s_At (o : Nat) (R : Ru) (c : Con) (hc : -1000 ≤ c.n ∧ c.n ≤ 1000) (j : JH) (h : RuAt j o R) : JC Tryd.prog G 38 [.ptr o 0, .agg c.enc] j (RET (I64 (atN R.nc c)) j) := by
  have ho := h.lo
  have hg := h.go
  have hf := h.few
  have ho2 : ∀ {l : List AObj}, o < (ext j l).next := fun {l} => by rw [ext_next]; unfold pid; omega
  refine JC.run hmix c38 (by exact k38) ?_
  (try simp only[↓jr,jw,seval,ext_get_old,ho,hg,Ru.cells,ir38])
  refine wq.intro (fun h1 => ?_) (fun h1 => ?_)
  · (try simp only[↓jr,jw,seval,ext_get_old,ho,hg,Ru.cells])
    refine JFIN.rb ?_
    unfold atN; rw [if_pos h1]; exact SubB.v
  · (try simp only[↓jr,jw,seval,ext_get_old,ho,hg,Ru.cells])
    refine wc.intro (by unfold R64; omega) ?_
    (try simp only[↓jr,jw,seval,ext_get_old,ho,hg,Ru.cells])
    refine JDRAW.oc (by (try simp only[↓jr,jw,seval,ext_get_old,ho,hg,Ru.cells,jq]) <;> exact orq) ?_; (try simp only[↓jr,jw,seval,ext_get_old,ho,hg,Ru.cells])
    refine JFIN.rb ?_
    unfold atN; rw [if_neg h1]; exact SubB.v
def clash (R : Ru) (p q : Nat → Bool) : Bool := (List.range R.sz).any fun x => (List.range R.sz).any fun y => p x && q y && R.A x y
def ir70 : IFn := ⟨43, [⟨6, none⟩], (.seq (.reg [oA 6 (.mov (kB false))]) (.seq (.seq (.reg [oA 11 (kM 1), oT 12 11 (.lenl (.r 11)), oA 13 (.mov (kI 0))]) (.block 0 (.loop (.seq (.reg [oA 14 (.bin .lss (.r 13) (.r 12))]) (.seq (.cond (.r 14) .skip (.exit 0)) (.seq (.block 1 (.seq (.reg [oA 15 (kM 13), oA 16 (.iasl 1 (.r 11) (.r 13)), oL 17 16 none, oA 7 (kM 15), oA 8 (kM 17)]) (.seq (.reg [oA 18 (kM 2), oT 19 18 (.lenl (.r 18)), oA 20 (.mov (kI 0))]) (.block 2 (.loop (.seq (.reg [oA 21 (.bin .lss (.r 20) (.r 19))]) (.seq (.cond (.r 21) .skip (.exit 2)) (.seq (.block 3 (.seq (.reg [oA 22 (kM 20), oA 23 (.iasl 1 (.r 18) (.r 20)), oL 24 23 none, oA 9 (kM 22), oA 10 (kM 24)]) (.seq (.reg [oA 25 (kM 8), oA 26 (kM 25), ⟨(some 27), (some ((26, true))), none, (kM 10)⟩, oA 28 (.pick (.r 26) (.r 27) (kB false)), oA 29 (kM 28), ⟨(some 30), (some ((29, true))), none, (kM 0)⟩, ⟨(some 31), (some ((29, true))), none, (.nchk (.r 30))⟩, ⟨(some 32), (some ((29, true))), none, (.fadr 4 (.r 31))⟩, ⟨(some 33), (some ((29, true))), (some (.r 32)), (.load none (.r 32))⟩, ⟨(some 34), (some ((29, true))), none, (kM 7)⟩, ⟨(some 35), (some ((29, true))), none, (.iasl 1 (.r 33) (.r 34))⟩, ⟨(some 36), (some ((29, true))), (some (.r 35)), (.load none (.r 35))⟩, ⟨(some 37), (some ((29, true))), none, (kM 9)⟩, ⟨(some 38), (some ((29, true))), none, (.iasl 1 (.r 36) (.r 37))⟩, ⟨(some 39), (some ((29, true))), (some (.r 38)), (.load none (.r 38))⟩, oA 40 (.pick (.r 29) (.r 39) (kB false))]) (.cond (.r 40) (.seq (.reg [oA 6 (.mov (kB true))]) .ret) .skip)))) (.reg [oA 41 (.bin .add (.r 20) (kI 1)), oA 20 (kM 41)]))))))))) (.reg [oA 42 (.bin .add (.r 13) (kI 1)), oA 13 (kM 42)]))))))) (.seq (.reg [oA 6 (.mov (kB false))]) .ret)))⟩
theorem c70 : cfunc Tryd.prog 70 = some ir70 := by kernel_rfl
theorem k70 : okIR (max 3 ir70.n) ir70.ir = true := by decide +kernel
theorem s_Clash (o : Nat) (R : Ru) (ox oy : Nat) (p q : Nat → Bool) (j : JH) (h : RuAt j o R) (hox : ox < j.next) (gx : j.get ox = some (.cells 4 (brow R.sz p))) (hoy : oy < j.next) (gy : j.get oy = some (.cells 4 (brow R.sz q))) :
    JC Tryd.prog G 70 [.ptr o 0, .arr ox 0 R.sz, .arr oy 0 R.sz] j (RET (BOO (clash R p q)) j) := by
  have ho := h.lo
  have hg := h.go
  have hf := h.few
  have hz : R.sz ≤ 28 := by unfold Ru.sz; omega
  generalize hn : R.sz = n at *
  refine JC.run hmix c70 (by exact k70) ?_
  (try simp only[↓jr,jw,seval,ext_get_old,ho,hg,hox,hoy,gx,gy,Ru.cells,hn,arrs_len,arrs_ld,brow_ld,brow_len,ir70])
  refine JLOOP.of (σ := Nat) (fun x => x ≤ n ∧ ((List.range x).any fun x => (List.range n).any fun y => p x && q y && R.A x y) = false) (fun x => n - x) (fun x => [(13, I64 x), (12, I64 n), (11, .arr ox 0 n), (0, .ptr o 0), (2, .arr oy 0 n)]) (fun x => ext j []) 0 ⟨by omega, rfl⟩ ?_ (JDropH.refl _) ?_
  · ((try simp only[↓jr,jw,seval,ext_get_old,ho,hg,hox,hoy,gx,gy,Ru.cells,hn,arrs_len,arrs_ld,brow_ld,brow_len,DL]) <;> exact sbOc)
  rintro x ⟨hx, hI⟩
  (try simp only[↓jr,jw,seval,ext_get_old,ho,hg,hox,hoy,gx,gy,Ru.cells,hn,arrs_len,arrs_ld,brow_ld,brow_len])
  refine wq.intro (fun h1 => ?_) (fun h1 => ?_)
  · (try simp only[↓jr,jw,seval,ext_get_old,ho,hg,hox,hoy,gx,gy,Ru.cells,hn,arrs_len,arrs_ld,brow_ld,brow_len])
    refine wc.intro (by omega) ?_
    (try simp only[↓jr,jw,seval,ext_get_old,ho,hg,hox,hoy,gx,gy,Ru.cells,hn,arrs_len,arrs_ld,brow_ld,brow_len])
    refine wc.intro (by omega) ?_
    (try simp only[↓jr,jw,seval,ext_get_old,ho,hg,hox,hoy,gx,gy,Ru.cells,hn,arrs_len,arrs_ld,brow_ld,brow_len])
    refine JLOOP.of (σ := Nat) (fun y => y ≤ n ∧ ((List.range y).any fun y => p x && q y && R.A x y) = false) (fun y => n - y) (fun y => [(20, I64 y), (19, I64 n), (18, .arr oy 0 n), (7, I64 x), (8, BOO (p x)), (13, I64 x), (12, I64 n), (11, .arr ox 0 n), (0, .ptr o 0), (2, .arr oy 0 n)]) (fun x => ext j []) 0 ⟨by omega, rfl⟩ ?_ (JDropH.refl _) ?_
    · ((try simp only[↓jr,jw,seval,ext_get_old,ho,hg,hox,hoy,gx,gy,Ru.cells,hn,arrs_len,arrs_ld,brow_ld,brow_len,DL]) <;> exact sbOc)
    rintro y ⟨hy, hJ⟩
    have gA := h.gA x (by omega)
    have lA : pid R.uA x < j.next := by have := h.lA; unfold pid; omega
    rw [hn] at gA
    (try simp only[↓jr,jw,seval,ext_get_old,ho,hg,hox,hoy,gx,gy,Ru.cells,hn,arrs_len,arrs_ld,brow_ld,brow_len,gA,lA])
    refine wq.intro (fun h2 => ?_) (fun h2 => ?_)
    · (try simp only[↓jr,jw,seval,ext_get_old,ho,hg,hox,hoy,gx,gy,Ru.cells,hn,arrs_len,arrs_ld,brow_ld,brow_len,gA,lA])
      repeat' ((first | refine wq.intro (fun _ => ?_) (fun _ => ?_) | refine ww.intro (fun _ => ?_) (fun _ => ?_) | refine wc.intro (by first | omega | (unfold R64; omega) | trivial) ?_ | refine wr.in (by unfold R64; omega) ?_) <;> first | contradiction | (try simp only[↓jr,jw,seval,ext_get_old,ho,hg,hox,hoy,gx,gy,Ru.cells,hn,arrs_len,arrs_ld,brow_ld,brow_len,gA,lA]))
      all_goals first
        | (refine JFIN.rb ?_
           have e : clash R p q = true := by unfold clash; rw [hn]; exact any_hit (k := x) (by omega) (any_hit (k := y) (by omega) (by simp only [*, Bool.and_self]))
           rw [e]; exact SubB.v)
        | (refine JNEXT.of (y + 1) ⟨by omega, any_step (n := n) (by omega) (by simp only [*, Bool.false_and, Bool.and_false, Bool.true_and]) hJ⟩ (by omega) ?_ JDropH.nx
           ((try simp only[↓jr,jw,seval,ext_get_old,ho,hg,hox,hoy,gx,gy,Ru.cells,hn,arrs_len,arrs_ld,brow_ld,brow_len,gA,lA,DL]) <;> exact sbOc))
    · (try simp only[↓jr,jw,seval,ext_get_old,ho,hg,hox,hoy,gx,gy,Ru.cells,hn,arrs_len,arrs_ld,brow_ld,brow_len,gA,lA])
      refine wc.intro (by unfold R64; omega) ?_
      (try simp only[↓jr,jw,seval,ext_get_old,ho,hg,hox,hoy,gx,gy,Ru.cells,hn,arrs_len,arrs_ld,brow_ld,brow_len,gA,lA])
      have e : y = n := by omega
      subst e
      refine JNEXT.of (x + 1) ⟨by omega, any_step (n := y) (by omega) hJ hI⟩ (by omega) ?_ JDropH.nx
      ((try simp only[↓jr,jw,seval,ext_get_old,ho,hg,hox,hoy,gx,gy,Ru.cells,hn,arrs_len,arrs_ld,brow_ld,brow_len,gA,lA,DL]) <;> exact sbOc)
  · (try simp only[↓jr,jw,seval,ext_get_old,ho,hg,hox,hoy,gx,gy,Ru.cells,hn,arrs_len,arrs_ld,brow_ld,brow_len])
    refine JFIN.rb ?_
    have e : x = n := by omega
    subst e
    have e : clash R p q = false := by unfold clash; rw [hn]; exact hI
    rw [e]; exact SubB.v
theorem xor_even {n s : Nat} (hn : n ≤ 12) (he : n % 2 = 0) (h : s < n) : s ^^^ 1 < n := by
  have : ∀ n : Nat, n < 13 → n % 2 = 0 → ∀ s : Nat, s < n → s ^^^ 1 < n := by decide
  exact this n (by omega) he s h
def voidR (R : Ru) (i : Nat) : Bool := clash R (R.U i) (R.U i) || ((List.range R.sz).any (fun k => R.U i k && R.E k) || (decide (R.nc ≤ i) && R.E (R.nc + ((i - R.nc) ^^^ 1))))
def ir69 : IFn := ⟨73, [⟨4, none⟩], (.seq (.reg [oA 4 (.mov (kB false))]) (.seq (.seq (.draw [oA 7 (kM 0), oA 8 (kM 0), oA 9 (.nchk (.r 8)), oA 10 (.fadr 3 (.r 9)), oL 11 10 none, oA 12 (kM 1), oA 13 (.iasl 1 (.r 11) (.r 12)), oL 14 13 none, oA 15 (kM 0), oA 16 (.nchk (.r 15)), oA 17 (.fadr 3 (.r 16)), oL 18 17 none, oA 19 (kM 1), oA 20 (.iasl 1 (.r 18) (.r 19)), oL 21 20 none, oA 22 (.call 70 [.r 7, .r 14, .r 21])] []) (.cond (.r 22) (.seq (.reg [oA 4 (.mov (kB true))]) .ret) .skip)) (.seq (.seq (.reg [oA 23 (kM 0), oA 24 (.nchk (.r 23)), oA 25 (.fadr 3 (.r 24)), oL 26 25 none, oA 27 (kM 1), oA 28 (.iasl 1 (.r 26) (.r 27)), oL 29 28 none, oT 30 29 (.lenl (.r 29)), oA 31 (.mov (kI 0))]) (.block 0 (.loop (.seq (.reg [oA 32 (.bin .lss (.r 31) (.r 30))]) (.seq (.cond (.r 32) .skip (.exit 0)) (.seq (.block 1 (.seq (.reg [oA 33 (kM 31), oA 34 (.iasl 1 (.r 29) (.r 31)), oL 35 34 none, oA 5 (kM 33), oA 6 (kM 35)]) (.seq (.reg [oA 36 (kM 6), oA 37 (kM 36), ⟨(some 38), (some ((37, true))), none, (kM 0)⟩, ⟨(some 39), (some ((37, true))), none, (.nchk (.r 38))⟩, ⟨(some 40), (some ((37, true))), none, (.fadr 5 (.r 39))⟩, ⟨(some 41), (some ((37, true))), (some (.r 40)), (.load none (.r 40))⟩, ⟨(some 42), (some ((37, true))), none, (kM 5)⟩, ⟨(some 43), (some ((37, true))), none, (.iasl 1 (.r 41) (.r 42))⟩, ⟨(some 44), (some ((37, true))), (some (.r 43)), (.load none (.r 43))⟩, oA 45 (.pick (.r 37) (.r 44) (kB false))]) (.cond (.r 45) (.seq (.reg [oA 4 (.mov (kB true))]) .ret) .skip)))) (.reg [oA 46 (.bin .add (.r 31) (kI 1)), oA 31 (kM 46)]))))))) (.seq (.draw [oA 47 (kM 1), oA 48 (kM 0), oA 49 (.nchk (.r 48)), oA 50 (.fadr 0 (.r 49)), oL 51 50 none, oA 52 (.bin .geq (.r 47) (.r 51)), oA 53 (kM 52), ⟨(some 54), (some ((53, true))), none, (kM 0)⟩, ⟨(some 55), (some ((53, true))), none, (.nchk (.r 54))⟩, ⟨(some 56), (some ((53, true))), none, (.fadr 5 (.r 55))⟩, ⟨(some 57), (some ((53, true))), (some (.r 56)), (.load none (.r 56))⟩, ⟨(some 58), (some ((53, true))), none, (kM 0)⟩, ⟨(some 59), (some ((53, true))), none, (.nchk (.r 58))⟩, ⟨(some 60), (some ((53, true))), none, (.fadr 0 (.r 59))⟩, ⟨(some 61), (some ((53, true))), (some (.r 60)), (.load none (.r 60))⟩, ⟨(some 62), (some ((53, true))), none, (kM 1)⟩, ⟨(some 63), (some ((53, true))), none, (kM 0)⟩, ⟨(some 64), (some ((53, true))), none, (.nchk (.r 63))⟩, ⟨(some 65), (some ((53, true))), none, (.fadr 0 (.r 64))⟩, ⟨(some 66), (some ((53, true))), (some (.r 65)), (.load none (.r 65))⟩, ⟨(some 67), (some ((53, true))), none, (.bin .sub (.r 62) (.r 66))⟩, ⟨(some 68), (some ((53, true))), none, (.bin .xor (.r 67) (kI 1))⟩, ⟨(some 69), (some ((53, true))), none, (.bin .add (.r 61) (.r 68))⟩, ⟨(some 70), (some ((53, true))), none, (.iasl 1 (.r 57) (.r 69))⟩, ⟨(some 71), (some ((53, true))), (some (.r 70)), (.load none (.r 70))⟩, oA 72 (.pick (.r 53) (.r 71) (kB false)), oA 4 (kM 72)] []) .ret))))⟩
theorem c69 : cfunc Tryd.prog 69 = some ir69 := by kernel_rfl
theorem k69 : okIR (max 2 ir69.n) ir69.ir = true := by decide +kernel
theorem s_voidR (o : Nat) (R : Ru) (i : Nat) (hi : i < R.sz) (j : JH) (h : RuAt j o R) : JC Tryd.prog G 69 [.ptr o 0, I64 i] j (RET (BOO (voidR R i)) j) := by
  have ho := h.lo
  have hg := h.go
  have hf := h.few
  have lE := h.lE
  have gE := h.gE
  have gU := h.gU i hi
  have lU : pid R.uU i < j.next := by have := h.lU; unfold pid; omega
  have hz : R.sz ≤ 28 := by unfold Ru.sz; omega
  have lo2 : ∀ {l : List AObj}, o < (ext j l).next := fun {l} => by rw [ext_next]; unfold pid; omega
  refine JC.run hmix c69 (by exact k69) ?_
  (try simp only[↓jr,jw,seval,ext_get_old,ho,hg,lE,gE,gU,lU,Ru.cells,arrs_len,arrs_ld,brow_ld,brow_len,ir69])
  refine wc.intro (by omega) ?_
  (try simp only[↓jr,jw,seval,ext_get_old,ho,hg,lE,gE,gU,lU,Ru.cells,arrs_len,arrs_ld,brow_ld,brow_len])
  refine wc.intro (by omega) ?_
  (try simp only[↓jr,jw,seval,ext_get_old,ho,hg,lE,gE,gU,lU,Ru.cells,arrs_len,arrs_ld,brow_ld,brow_len])
  refine wc.intro (by omega) ?_
  (try simp only[↓jr,jw,seval,ext_get_old,ho,hg,lE,gE,gU,lU,Ru.cells,arrs_len,arrs_ld,brow_ld,brow_len])
  refine wc.intro (by omega) ?_
  (try simp only[↓jr,jw,seval,ext_get_old,ho,hg,lE,gE,gU,lU,Ru.cells,arrs_len,arrs_ld,brow_ld,brow_len])
  refine JDC.use (s_Clash o R (pid R.uU i) (pid R.uU i) (R.U i) (R.U i) _ (h.ext []) (by rw [ext_next]; unfold pid at *; omega) (by rw [ext_get_old lU]; exact gU) (by rw [ext_next]; unfold pid at *; omega) (by rw [ext_get_old lU]; exact gU)) ?_
  (try simp only[↓jr,jw,seval,ext_get_old,ho,hg,lE,gE,gU,lU,Ru.cells,arrs_len,arrs_ld,brow_ld,brow_len])
  refine JDRAW.oc (by (try simp only[↓jr,jw,seval,ext_get_old,ho,hg,lE,gE,gU,lU,Ru.cells,arrs_len,arrs_ld,brow_ld,brow_len,jq]) <;> exact orq) ?_; (try simp only[↓jr,jw,seval,ext_get_old,ho,hg,lE,gE,gU,lU,Ru.cells,arrs_len,arrs_ld,brow_ld,brow_len])
  refine ww.intro (fun q1 => ?_) (fun q1 => ?_)
  · (try simp only[↓jr,jw,seval,ext_get_old,ho,hg,lE,gE,gU,lU,Ru.cells,arrs_len,arrs_ld,brow_ld,brow_len])
    refine JFIN.rb ?_
    unfold voidR; rw [q1]; exact SubB.v
  (try simp only[↓jr,jw,seval,ext_get_old,ho,hg,lE,gE,gU,lU,Ru.cells,arrs_len,arrs_ld,brow_ld,brow_len])
  refine wc.intro (by omega) ?_
  (try simp only[↓jr,jw,seval,ext_get_old,ho,hg,lE,gE,gU,lU,Ru.cells,arrs_len,arrs_ld,brow_ld,brow_len])
  refine wc.intro (by omega) ?_
  (try simp only[↓jr,jw,seval,ext_get_old,ho,hg,lE,gE,gU,lU,Ru.cells,arrs_len,arrs_ld,brow_ld,brow_len])
  refine JLOOP.of (σ := Nat) (fun k => k ≤ R.sz ∧ ((List.range k).any fun k => R.U i k && R.E k) = false) (fun k => R.sz - k) (fun k => [(31, I64 k), (30, I64 R.sz), (29, .arr (pid R.uU i) 0 R.sz), (0, .ptr o 0), (1, I64 i)]) (fun x => ext j []) 0 ⟨by omega, rfl⟩ ?_ (JDropH.refl _) ?_
  · ((try simp only[↓jr,jw,seval,ext_get_old,ho,hg,lE,gE,gU,lU,Ru.cells,arrs_len,arrs_ld,brow_ld,brow_len,DL]) <;> exact sbOc)
  rintro k ⟨hk, hI⟩
  (try simp only[↓jr,jw,seval,ext_get_old,ho,hg,lE,gE,gU,lU,Ru.cells,arrs_len,arrs_ld,brow_ld,brow_len])
  refine wq.intro (fun h1 => ?_) (fun h1 => ?_)
  · (try simp only[↓jr,jw,seval,ext_get_old,ho,hg,lE,gE,gU,lU,Ru.cells,arrs_len,arrs_ld,brow_ld,brow_len])
    repeat' ((first | refine wq.intro (fun _ => ?_) (fun _ => ?_) | refine ww.intro (fun _ => ?_) (fun _ => ?_) | refine wc.intro (by first | omega | (unfold R64; omega) | trivial) ?_ | refine wr.in (by unfold R64; omega) ?_) <;> first | contradiction | (try simp only[↓jr,jw,seval,ext_get_old,ho,hg,lE,gE,gU,lU,Ru.cells,arrs_len,arrs_ld,brow_ld,brow_len]))
    all_goals first
      | (refine JFIN.rb ?_
         have e : voidR R i = true := by
           unfold voidR
           rw [any_hit (p := fun k => R.U i k && R.E k) (n := R.sz) (k := k) (by omega) (by simp only [*, Bool.and_self])]
           simp
         rw [e]; exact SubB.v)
      | (refine JNEXT.of (k + 1) ⟨by omega, any_step (n := R.sz) (by omega) (by simp only [*, Bool.false_and, Bool.and_false, Bool.true_and]) hI⟩ (by omega) ?_ JDropH.nx
         ((try simp only[↓jr,jw,seval,ext_get_old,ho,hg,lE,gE,gU,lU,Ru.cells,arrs_len,arrs_ld,brow_ld,brow_len,DL]) <;> exact sbOc))
  have ek : k = R.sz := by omega
  subst ek
  (try simp only[↓jr,jw,seval,ext_get_old,ho,hg,lE,gE,gU,lU,Ru.cells,arrs_len,arrs_ld,brow_ld,brow_len])
  refine wq.intro (fun h2 => ?_) (fun h2 => ?_)
  · have hs : (i : Int) - (R.nc : Int) = ((i - R.nc : Nat) : Int) := by omega
    have hx := xor_r (s := i - R.nc) (by unfold Ru.sz at hi; omega)
    have hxe := xor_even (n := R.nr) (s := i - R.nc) (by omega) (by omega) (by unfold Ru.sz at hi; omega)
    have ha : (R.nc : Int) + (((i - R.nc) ^^^ 1 : Nat) : Int) = ((R.nc + ((i - R.nc) ^^^ 1) : Nat) : Int) := by omega
    (try simp only[↓jr,jw,seval,ext_get_old,ho,hg,lE,gE,gU,lU,Ru.cells,arrs_len,arrs_ld,brow_ld,brow_len])
    refine wc.intro (by unfold R64; omega) ?_
    (try simp only[↓jr,jw,seval,ext_get_old,ho,hg,lE,gE,gU,lU,Ru.cells,arrs_len,arrs_ld,brow_ld,brow_len,hs,hx])
    refine wc.intro (by unfold R64; omega) ?_
    (try simp only[↓jr,jw,seval,ext_get_old,ho,hg,lE,gE,gU,lU,Ru.cells,arrs_len,arrs_ld,brow_ld,brow_len,ha])
    refine wc.intro (by unfold Ru.sz; omega) ?_
    (try simp only[↓jr,jw,seval,ext_get_old,ho,hg,lE,gE,gU,lU,Ru.cells,arrs_len,arrs_ld,brow_ld,brow_len,ha])
    refine wc.intro (by unfold Ru.sz; omega) ?_
    (try simp only[↓jr,jw,seval,ext_get_old,ho,hg,lE,gE,gU,lU,Ru.cells,arrs_len,arrs_ld,brow_ld,brow_len])
    refine JDRAW.oc (by (try simp only[↓jr,jw,seval,ext_get_old,ho,hg,lE,gE,gU,lU,Ru.cells,arrs_len,arrs_ld,brow_ld,brow_len,jq]) <;> exact orq) ?_; (try simp only[↓jr,jw,seval,ext_get_old,ho,hg,lE,gE,gU,lU,Ru.cells,arrs_len,arrs_ld,brow_ld,brow_len])
    refine JFIN.rb ?_
    unfold voidR; rw [q1, hI, decide_eq_true (by omega)]; exact SubB.v
  · (try simp only[↓jr,jw,seval,ext_get_old,ho,hg,lE,gE,gU,lU,Ru.cells,arrs_len,arrs_ld,brow_ld,brow_len])
    refine JDRAW.oc (by (try simp only[↓jr,jw,seval,ext_get_old,ho,hg,lE,gE,gU,lU,Ru.cells,arrs_len,arrs_ld,brow_ld,brow_len,jq]) <;> exact orq) ?_; (try simp only[↓jr,jw,seval,ext_get_old,ho,hg,lE,gE,gU,lU,Ru.cells,arrs_len,arrs_ld,brow_ld,brow_len])
    refine JFIN.rb ?_
    unfold voidR; rw [q1, hI, decide_eq_false (by omega)]; exact SubB.v
end

/-! ### The memory in which the reference makes its rules. -/
section
variable {m : Int} {G : Nat → Option (List AV)}
abbrev Mx := Nat → Nat → Bool
abbrev Bas.kc (b : Bas) : Nat := b.nms.cs.length
def Bas.kr (b : Bas) : Nat := 2 * b.nms.rs.length
def Bas.kz (b : Bas) : Nat := b.kc + b.kr
def ruOf (b : Bas) (q : Nat) (B U A : Mx) (E : Nat → Bool) : Ru := { nc := b.kc, nr := b.kr, uB := pid q 3, uU := pid q (3 + b.kr), uA := pid q (3 + b.kr + b.kz), oE := pid q 2, B := B, U := U, A := A, E := E }
def stO (b : Bas) (q : Nat) : List AV := [I64 b.kc, I64 b.kr, .sl .none b.kr (arrs (pid q 3) b.kr b.kr), .sl .none b.kz (arrs (pid q (3 + b.kr)) b.kz b.kz), .sl .none b.kz (arrs (pid q (3 + b.kr + b.kz)) b.kz b.kz), .arr (pid q 2) 0 b.kz]
theorem ruOf_cells {b : Bas} {q : Nat} {B U A : Mx} {E : Nat → Bool} : (ruOf b q B U A E).cells = stO b q := rfl
def ofX (b : Bas) (q : Nat) (B U A : Mx) (E : Nat → Bool) (X : List AObj) : List AObj :=
  .cells 30 b.enc :: .cells 67 (stO b q) :: .cells 4 (brow b.kz E) :: (mrows b.kr b.kr B ++ (mrows b.kz b.kz U ++ (mrows b.kz b.kz A ++ X)))
def Bas.kl (b : Bas) : Nat := 3 + b.kr + b.kz + b.kz
section
variable {b : Bas} {j : JH} {B U A : Mx} {E p : Nat → Bool} {X : List AObj} {x y : AObj} {i : Nat} {q : Nat}
theorem ofX_len : (ofX b q B U A E X).length = b.kl + X.length := by
  unfold ofX Bas.kl; simp only [List.length_cons, List.length_append, mrows_len]; omega
theorem ofX_push : ofX b q B U A E X ++ [x] = ofX b q B U A E (X ++ [x]) := by unfold ofX; simp
theorem ofX_0 : (ofX b q B U A E X)[0]? = some (.cells 30 b.enc) := rfl
theorem ofX_1 : (ofX b q B U A E X)[1]? = some (.cells 67 (stO b q)) := rfl
theorem ofX_2 : (ofX b q B U A E X)[2]? = some (.cells 4 (brow b.kz E)) := rfl
theorem ofX_s2 : (ofX b q B U A E X).set 2 (.cells 4 (brow b.kz p)) = ofX b q B U A p X := rfl
theorem ofX_B (h : i < b.kr) : (ofX b q B U A E X)[3 + i]? = some (.cells 4 (brow b.kr (B i))) := by
  unfold ofX
  rw [show 3 + i = i + 1 + 1 + 1 from by omega]
  simp only [List.getElem?_cons_succ]
  rw [List.getElem?_append_left (by rw [mrows_len]; exact h), mrows_at h]
theorem ofX_U (h : i < b.kz) : (ofX b q B U A E X)[3 + b.kr + i]? = some (.cells 4 (brow b.kz (U i))) := by
  unfold ofX
  rw [show 3 + b.kr + i = (b.kr + i) + 1 + 1 + 1 from by omega]
  simp only [List.getElem?_cons_succ]
  rw [List.getElem?_append_right (by rw [mrows_len]; omega), mrows_len, show b.kr + i - b.kr = i from by omega, List.getElem?_append_left (by rw [mrows_len]; exact h), mrows_at h]
theorem ofX_A (h : i < b.kz) : (ofX b q B U A E X)[3 + b.kr + b.kz + i]? = some (.cells 4 (brow b.kz (A i))) := by
  unfold ofX
  rw [show 3 + b.kr + b.kz + i = (b.kr + b.kz + i) + 1 + 1 + 1 from by omega]
  simp only [List.getElem?_cons_succ]
  rw [List.getElem?_append_right (by rw [mrows_len]; omega), mrows_len, List.getElem?_append_right (by rw [mrows_len]; omega), mrows_len, show b.kr + b.kz + i - b.kr - b.kz = i from by omega, List.getElem?_append_left (by rw [mrows_len]; exact h), mrows_at h]
theorem ofX_new : (ofX b q B U A E [x])[b.kl]? = some x := by
  unfold ofX Bas.kl
  rw [show 3 + b.kr + b.kz + b.kz = (b.kr + b.kz + b.kz) + 1 + 1 + 1 from by omega]
  simp only [List.getElem?_cons_succ]
  rw [List.getElem?_append_right (by rw [mrows_len]; omega), mrows_len, List.getElem?_append_right (by rw [mrows_len]; omega), mrows_len, List.getElem?_append_right (by rw [mrows_len]; omega), mrows_len, show b.kr + b.kz + b.kz - b.kr - b.kz - b.kz = 0 from by omega]; rfl
def updR (f : Mx) (i : Nat) (p : Nat → Bool) : Mx := fun r => if r = i then p else f r
theorem upd2_R (f : Mx) (i x : Nat) (v : Bool) : updR f i (upd (f i) x v) = upd2 f i x v := rfl
theorem mrows_set {k n : Nat} {f : Mx} (h : i < k) : (mrows k n f).set i (.cells 4 (brow n p)) = mrows k n (updR f i p) := by
  refine List.ext_getElem? fun r => ?_
  rw [List.getElem?_set, mrows_len]
  by_cases e : i = r
  · subst e; rw [if_pos rfl, if_pos h, mrows_at h]; unfold updR; rw [if_pos rfl]
  · rw [if_neg e]
    by_cases hr : r < k
    · rw [mrows_at hr, mrows_at hr]; unfold updR; rw [if_neg (fun q => e q.symm)]
    · rw [List.getElem?_eq_none (by rw [mrows_len]; omega), List.getElem?_eq_none (by rw [mrows_len]; omega)]
theorem ofX_sB (h : i < b.kr) : (ofX b q B U A E X).set (3 + i) (.cells 4 (brow b.kr p)) = ofX b q (updR B i p) U A E X := by
  unfold ofX
  rw [show 3 + i = i + 1 + 1 + 1 from by omega]
  simp only [List.set_cons_succ]
  rw [List.set_append_left _ _ (by rw [mrows_len]; exact h), mrows_set h]
theorem ofX_sU (h : i < b.kz) : (ofX b q B U A E X).set (3 + b.kr + i) (.cells 4 (brow b.kz p)) = ofX b q B (updR U i p) A E X := by
  unfold ofX
  rw [show 3 + b.kr + i = (b.kr + i) + 1 + 1 + 1 from by omega]
  simp only [List.set_cons_succ]
  rw [List.set_append_right _ _ (by rw [mrows_len]; omega), mrows_len, show b.kr + i - b.kr = i from by omega, List.set_append_left _ _ (by rw [mrows_len]; exact h), mrows_set h]
theorem ofX_sA (h : i < b.kz) : (ofX b q B U A E X).set (3 + b.kr + b.kz + i) (.cells 4 (brow b.kz p)) = ofX b q B U (updR A i p) E X := by
  unfold ofX
  rw [show 3 + b.kr + b.kz + i = (b.kr + b.kz + i) + 1 + 1 + 1 from by omega]
  simp only [List.set_cons_succ]
  rw [List.set_append_right _ _ (by rw [mrows_len]; omega), mrows_len, List.set_append_right _ _ (by rw [mrows_len]; omega), mrows_len, show b.kr + b.kz + i - b.kr - b.kz = i from by omega, List.set_append_left _ _ (by rw [mrows_len]; exact h), mrows_set h]
theorem ofX_snew : (ofX b q B U A E [x]).set b.kl y = ofX b q B U A E [y] := by
  unfold ofX Bas.kl
  rw [show 3 + b.kr + b.kz + b.kz = (b.kr + b.kz + b.kz) + 1 + 1 + 1 from by omega]
  simp only [List.set_cons_succ]
  rw [List.set_append_right _ _ (by rw [mrows_len]; omega), mrows_len, List.set_append_right _ _ (by rw [mrows_len]; omega), mrows_len, List.set_append_right _ _ (by rw [mrows_len]; omega), mrows_len, show b.kr + b.kz + b.kz - b.kr - b.kz - b.kz = 0 from by omega]; rfl
/-- Reading and writing rows by their addresses. -/
theorem oxB (h : i < b.kr) : (ext j (ofX b q B U A E X)).get (pid (pid j.next 3) i) = some (.cells 4 (brow b.kr (B i))) := by rw [pid_pid, ext_get_new rfl, ofX_B h]
theorem oxU (h : i < b.kz) : (ext j (ofX b q B U A E X)).get (pid (pid j.next (3 + b.kr)) i) = some (.cells 4 (brow b.kz (U i))) := by rw [pid_pid, ext_get_new rfl, ofX_U h]
theorem oxA (h : i < b.kz) : (ext j (ofX b q B U A E X)).get (pid (pid j.next (3 + b.kr + b.kz)) i) = some (.cells 4 (brow b.kz (A i))) := by rw [pid_pid, ext_get_new rfl, ofX_A h]
theorem oxsB (h : i < b.kr) : (ext j (ofX b q B U A E X)).set (pid (pid j.next 3) i) (.cells 4 (brow b.kr p)) = ext j (ofX b q (updR B i p) U A E X) := by
  rw [pid_pid, ext_set_new rfl (by rw [ofX_len]; unfold Bas.kl; omega), ofX_sB h]
theorem oxsU (h : i < b.kz) : (ext j (ofX b q B U A E X)).set (pid (pid j.next (3 + b.kr)) i) (.cells 4 (brow b.kz p)) = ext j (ofX b q B (updR U i p) A E X) := by
  rw [pid_pid, ext_set_new rfl (by rw [ofX_len]; unfold Bas.kl; omega), ofX_sU h]
theorem oxsA (h : i < b.kz) : (ext j (ofX b q B U A E X)).set (pid (pid j.next (3 + b.kr + b.kz)) i) (.cells 4 (brow b.kz p)) = ext j (ofX b q B U (updR A i p) E X) := by
  rw [pid_pid, ext_set_new rfl (by rw [ofX_len]; unfold Bas.kl; omega), ofX_sA h]
theorem ofX_lt {k : Nat} (h : k < b.kl) : k < (ofX b q B U A E X).length := by rw [ofX_len]; omega
end
/-- How few they are. -/
structure Bas.few2 (b : Bas) : Prop where
  c : b.kc ≤ 16
  r : b.kr ≤ 12
  e : b.kr % 2 = 0
theorem basR_few2 {b : Bas} (h : basR b = true) : b.few2 := by
  have := names_few (basR_names h)
  exact ⟨this.1, by unfold Bas.kr; omega, by unfold Bas.kr; omega⟩
theorem ofX_at {b : Bas} (h : b.few2) {j : JH} {B U A : Mx} {E : Nat → Bool} {X : List AObj} : RuAt (ext j (ofX b j.next B U A E X)) (pid j.next 1) (ruOf b j.next B U A E) := by
  have hn : (ext j (ofX b j.next B U A E X)).next = pid j.next (b.kl + X.length) := by rw [ext_next, ofX_len]
  have hz : b.kz = (ruOf b j.next B U A E).sz := rfl
  refine ⟨?_, ?_, ?_, fun i hi => oxB hi, ?_, fun i hi => oxU hi, ?_, fun i hi => oxA hi, ?_, ?_, h.c, h.r, h.e⟩
  · rw [hn]; unfold pid Bas.kl; omega
  · rw [ext_get_new rfl]; rfl
  · rw [hn]; show pid j.next 3 + b.kr ≤ _; unfold pid Bas.kl; omega
  · rw [hn]; show pid j.next (3 + b.kr) + b.kz ≤ _; unfold pid Bas.kl; omega
  · rw [hn]; show pid j.next (3 + b.kr + b.kz) + b.kz ≤ _; unfold pid Bas.kl; omega
  · rw [hn]; show pid j.next 2 < _; unfold pid Bas.kl; omega
  · show (ext j (ofX b j.next B U A E X)).get (pid j.next 2) = _; rw [ext_get_new rfl]; rfl
theorem ofX_mem {b : Bas} {j : JH} {B U A : Mx} {E : Nat → Bool} {x : AObj} {k : Nat} (h : (ofX b j.next B U A E [])[k]? = some x) (hk : k ≠ 1) {no nt : Nat} : OSub no nt x x := by
  unfold ofX at h
  match k, hk, h with
  | 0, _, h => cases h; exact OSub.pure (Bas.pur b)
  | 2, _, h => cases h; exact OSub.pure (brow_pur _ _)
  | k + 3, _, h =>
    simp only [List.getElem?_cons_succ] at h
    have := List.mem_of_getElem? h
    simp only [List.mem_append, List.not_mem_nil, or_false] at this
    rcases this with h | h | h <;> exact mrows_pur h
/-- From one state of it to another. -/
theorem ofX_drop {b : Bas} {j : JH} {B U A B' U' A' : Mx} {E E' : Nat → Bool} {X : List AObj} : JDropH (ext j (ofX b j.next B U A E [])) (ext j (ofX b j.next B' U' A' E' X)) (ext j (ofX b j.next B' U' A' E' [])) := by
  have hl : ∀ {B U A : Mx} {E : Nat → Bool} {X : List AObj}, (ext j (ofX b j.next B U A E X)).next = j.next + (b.kl + X.length) := fun {B U A E X} => by rw [ext_next, ofX_len]; rfl
  refine JDropH.gen ?_ ?_ (Nat.le_refl _) (Nat.le_refl _) (fun _ _ => rfl) (fun o ho => ?_) (fun o ob ho e => ?_)
  · rw [hl, hl]; exact Nat.le_refl _
  · rw [hl, hl]; simp
  · rw [hl] at ho
    by_cases h : o < j.next
    · rw [ext_get_old h, ext_get_old h]
    · have ek : o = pid j.next (o - j.next) := by unfold pid; omega
      rw [ek, ext_get_new rfl, ext_get_new rfl]
      have : ofX b j.next B' U' A' E' X = ofX b j.next B' U' A' E' [] ++ X := by unfold ofX; simp
      rw [this, List.getElem?_append_left]
      rw [ofX_len]; simp only [List.length_nil] at ho ⊢; omega
  · rw [hl] at ho
    by_cases h : o < j.next
    · rw [ext_get_old h] at e
      exact .inl ⟨by rw [hl]; omega, by rw [ext_get_old h]; exact e⟩
    · have ek : o = pid j.next (o - j.next) := by unfold pid; omega
      rw [ek, ext_get_new rfl] at e
      by_cases h1 : o - j.next = 1
      · rw [h1] at e
        refine .inl ⟨by rw [hl]; exact ho, ?_⟩
        rw [ek, ext_get_new rfl, h1]; exact e
      · exact .inr (ofX_mem e h1)
theorem matM_ext {j : JH} {l l' : List AObj} {u k n : Nat} {f : Mx} (hu : u = pid j.next k) (hl : l'.length = l.length) (hk : k + n ≤ l.length) (h1 : ∀ i, i < n → l'[k + i]? = some (.cells 4 (brow n (f i)))) (h2 : ∀ i, (i < k ∨ k + n ≤ i) → l'[i]? = l[i]?) : matM (ext j l) u n f = ext j l' := by
  subst hu
  unfold matM ext pid
  simp only [JH.mk.injEq, true_and, and_true, hl]
  funext o
  by_cases h : o < j.next
  · rw [if_neg (by omega), if_pos h, if_pos h]
  · rw [if_neg h, if_neg h]
    by_cases h3 : j.next + k ≤ o ∧ o < j.next + k + n
    · rw [if_pos h3]
      have := h1 (o - (j.next + k)) (by omega)
      rw [show k + (o - (j.next + k)) = o - j.next from by omega] at this
      rw [this]
    · rw [if_neg h3, h2 _ (by omega)]
theorem app_skip {l l' r : List AObj} {i : Nat} (h : l.length = l'.length) (hi : l.length ≤ i) : (l ++ r)[i]? = (l' ++ r)[i]? := by
  rw [List.getElem?_append_right hi, List.getElem?_append_right (by omega), h]
theorem app_same {l r r' : List AObj} {i : Nat} (h : l.length ≤ i → r[i - l.length]? = r'[i - l.length]?) : (l ++ r)[i]? = (l ++ r')[i]? := by
  by_cases q : i < l.length
  · rw [List.getElem?_append_left q, List.getElem?_append_left q]
  · rw [List.getElem?_append_right (by omega), List.getElem?_append_right (by omega), h (by omega)]
theorem matM_ofB {b : Bas} {j : JH} {B U A f : Mx} {E : Nat → Bool} {X : List AObj} : matM (ext j (ofX b j.next B U A E X)) (pid j.next 3) b.kr f = ext j (ofX b j.next f U A E X) := by
  refine matM_ext rfl (by rw [ofX_len, ofX_len]) (by rw [ofX_len]; unfold Bas.kl; omega) (fun i hi => ofX_B hi) (fun i hi => ?_)
  unfold ofX
  match i, hi with
  | 0, _ => rfl
  | 1, _ => rfl
  | 2, _ => rfl
  | i + 3, hi =>
    simp only [List.getElem?_cons_succ]
    exact app_skip (by rw [mrows_len, mrows_len]) (by rw [mrows_len]; omega)
theorem matM_ofU {b : Bas} {j : JH} {B U A f : Mx} {E : Nat → Bool} {X : List AObj} : matM (ext j (ofX b j.next B U A E X)) (pid j.next (3 + b.kr)) b.kz f = ext j (ofX b j.next B f A E X) := by
  refine matM_ext rfl (by rw [ofX_len, ofX_len]) (by rw [ofX_len]; unfold Bas.kl; omega) (fun i hi => ofX_U hi) (fun i hi => ?_)
  unfold ofX
  match i, hi with
  | 0, _ => rfl
  | 1, _ => rfl
  | 2, _ => rfl
  | i + 3, hi =>
    simp only [List.getElem?_cons_succ]
    refine app_same fun h => ?_
    rw [mrows_len] at h ⊢
    exact app_skip (by rw [mrows_len, mrows_len]) (by rw [mrows_len]; omega)
theorem s_closedB (b : Bas) (h : b.few2) (B U A : Mx) (E : Nat → Bool) (X : List AObj) (j : JH) : JC Tryd.prog G 67 [.sl .none b.kr (arrs (pid j.next 3) b.kr b.kr)] (ext j (ofX b j.next B U A E X)) (RET (.tup []) (ext j (ofX b j.next (clK b.kr B b.kr) U A E X))) := by
  have hr := h.r
  have := s_closed (G := G) (pid j.next 3) b.kr B (by omega) (ext j (ofX b j.next B U A E X)) (by rw [ext_next, ofX_len]; unfold pid Bas.kl; omega)
  rwa [matM_ofB, matM_ofB] at this
theorem s_closedU (b : Bas) (h : b.few2) (B U A : Mx) (E : Nat → Bool) (X : List AObj) (j : JH) : JC Tryd.prog G 67 [.sl .none b.kz (arrs (pid j.next (3 + b.kr)) b.kz b.kz)] (ext j (ofX b j.next B U A E X)) (RET (.tup []) (ext j (ofX b j.next B (clK b.kz U b.kz) A E X))) := by
  have hr := h.r
  have hc := h.c
  have := s_closed (G := G) (pid j.next (3 + b.kr)) b.kz U (by unfold Bas.kz; omega) (ext j (ofX b j.next B U A E X)) (by rw [ext_next, ofX_len]; unfold pid Bas.kl; omega)
  rwa [matM_ofU, matM_ofU] at this
end
end Go.Proofs.YtkcbhebbjpiibaaDoor.Pg
