/-
  The closure of the rules.
-/
import Derived.Test.YtkcbhebbjpiibaaDoorLr
set_option linter.unusedVariables false
set_option linter.unusedSimpArgs false
set_option maxRecDepth 20000
set_option linter.defProp false
set_option maxHeartbeats 1000000
namespace Go.Proofs.YtkcbhebbjpiibaaDoor.Pg
open Go
theorem sbLt {A : Prop} (h : A := by repeat' (first | exact trivial | refine And.intro ?_ ?_ | exact SubB.v | exact SubB.any | ((first | refine SubB.ptr ?_ | refine SubB.arr ?_ | refine SubB.mp ?_) <;> first | assumption | (unfold pid; omega)) | ((first | refine SubB.pure ?_ | refine SubBs.pure ?_) <;> (simp only [AV.pure, AV.pures, pures_append, jpu, rrow_pur, rb_pur, Bool.and_self, Bool.and_true, Bool.true_and]; done)) | refine SubB.fn ?_ ?_ | refine SubB.sl ?_ ?_ | refine SubB.agg ?_ | refine SubB.tup ?_ | rfl)) : A := h
variable {m : Int} {G : Nat → Option (List AV)}
theorem s_trans28w (o off : Nat) (t : TypeId) (N : Nat) (j : JH) (ho : o < j.next) (hg : j.get o = some (.cells t (rb N))) (hoff : off + 784 ≤ 1740) : JC Tryd.prog G 83 [.arr o off 28, .fn (.func 84) [] []] j (RET (.tup []) (j.set o (.cells t (rb (trJ 28 off N 28))))) := by
  have h := s_trans28 (G := G) o off t N j ho hoff
  rwa [set_self hg] at h
theorem s_trans12w (o off : Nat) (t : TypeId) (N : Nat) (j : JH) (ho : o < j.next) (hg : j.get o = some (.cells t (rb N))) (hoff : off + 144 ≤ 1740) : JC Tryd.prog G 85 [.arr o off 12, .fn (.func 86) [] []] j (RET (.tup []) (j.set o (.cells t (rb (trJ 12 off N 12))))) := by
  have h := s_trans12 (G := G) o off t N j ho hoff
  rwa [set_self hg] at h
theorem s_void (o : Nat) (t : TypeId) (N : Nat) (j : JH) (ho : o < j.next) (hg : j.get o = some (.cells t (rb N))) : JC Tryd.prog G 87 [.ptr o 0] j (RET (.tup []) (j.set o (.cells t (rb (voidN N))))) := by
  have h := s_void' (G := G) o t N j ho
  rwa [set_self hg] at h
def dgA (k : Nat) : Nat := (List.range k).foldl (fun N i => put N (i * 28 + i)) 0
def dgB (k : Nat) : Nat := (List.range k).foldl (fun N i => put N (784 + i * 12 + i)) (dgA 28)
theorem dgA_succ (k : Nat) : dgA (k + 1) = put (dgA k) (k * 28 + k) := by unfold dgA; rw [List.range_succ, List.foldl_append]; rfl
theorem dgB_succ (k : Nat) : dgB (k + 1) = put (dgB k) (784 + k * 12 + k) := by unfold dgB; rw [List.range_succ, List.foldl_append]; rfl
def rlS (N s p : Nat) : Nat := put (put (put (put N (784 + s * 12 + p)) (784 + (s ^^^ 1) * 12 + (p ^^^ 1))) ((16 + s) * 28 + (16 + p))) ((16 + (s ^^^ 1)) * 28 + (16 + (p ^^^ 1)))
def rlR (N : Nat) (x : RIn) : Nat := rlS N x.sub.toNat x.sup.toNat
def inS (N c d : Nat) (no bot : Bool) : Nat := if bot then put N (928 + c * 28 + c) else if no then put (put N (928 + c * 28 + d)) (928 + d * 28 + c) else put N (c * 28 + d)
def inR (N : Nat) (x : Inc) : Nat := inS N (numC x.sub).toNat (rhsC x.sup).1.toNat (rhsC x.sup).2.1 (rhsC x.sup).2.2
def stR (b : Bas) : Nat := b.roles.foldl rlR (dgB 12)
def stI (b : Bas) : Nat := b.incls.foldl inR (stR b)
def rulesN (b : Bas) : Nat := voidN (trJ 12 784 (trJ 28 0 (stI b) 28) 12)
theorem xor_r {s : Nat} (h : s < 12) : IntKind.i64.wrap (BitVec.ofInt 64 (s : Int) ^^^ 1#64).toNat = ((s ^^^ 1 : Nat) : Int) := by
  have : ∀ s : Nat, s < 12 → IntKind.i64.wrap (BitVec.ofInt 64 (s : Int) ^^^ 1#64).toNat = ((s ^^^ 1 : Nat) : Int) := by decide +kernel
  exact this s h
theorem xor_lt {s : Nat} (h : s < 12) : s ^^^ 1 < 12 := by
  have : ∀ s : Nat, s < 12 → s ^^^ 1 < 12 := by decide
  exact this s h
theorem q_e2 {b : Bool} {j : JH} {l l' : List AObj} : okE ⟨b, none, ext j l, ext j l'⟩ = (pid j.next l.length ≤ pid j.next l'.length) := by
  unfold okE; simp [ext_next, ext_tnext]
theorem q_p3 {t : Option Nat} {ob : Nat} {j0 j j' : JH} : pair2 ⟨true, some ob, j0, j0⟩ ⟨true, t, j, j'⟩ = (j.get ob = j'.get ob) := by simp [pair2]
theorem q_p4 {t : Option Nat} {j0 j j' : JH} : pair2 ⟨true, none, j0, j0⟩ ⟨true, t, j, j'⟩ = True := by simp [pair2]
def jq2 := And.intro @q_e2 (And.intro @q_p3 @q_p4)
theorem slcp28 {o off : Nat} : islcp 28 28 none none (.ptr o off) = some (.arr o off 28) := by simp [islcp, abound]
theorem slcp12 {o off : Nat} : islcp 12 12 none none (.ptr o off) = some (.arr o off 12) := by simp [islcp, abound]
theorem JDropH.keep {j : JH} {l : List AObj} (hl : ∀ ob ∈ l, OSub (pid j.next l.length) j.tnext ob ob) : JDropH (ext j []) (ext j l) (ext j l) := by
  refine ⟨?_, Nat.le_refl _, Nat.le_refl _, Nat.le_refl _, fun o ob ho e => ?_, fun _ _ => rfl⟩
  · rw [ext_next, ext_next]; unfold pid; simp
  · by_cases h : o < j.next
    · refine .inl ⟨by rw [ext_next]; unfold pid; omega, ?_, e⟩
      rw [ext_get_old h] at e ⊢; exact e
    · refine .inr ⟨ob, e, hl ob ?_⟩
      have e1 : o = pid j.next (o - j.next) := by unfold pid; omega
      rw [e1, ext_get_new rfl] at e
      exact List.mem_of_getElem? e
theorem n16 (s : Nat) : 16 + (s : Int) = ((16 + s : Nat) : Int) := by omega
/-- What the closure needs of a knowledge base. -/
structure Bas.lite (b : Bas) : Prop where
  hds : b.hds
  rs : b.rs
  rol : ∀ x ∈ b.roles, ∃ s p : Nat, x.sub = s ∧ x.sup = p ∧ s < 12 ∧ p < 12
  inc : ∀ x ∈ b.incls, ∃ c d : Nat, numC x.sub = c ∧ (rhsC x.sup).1 = d ∧ c < 28 ∧ d < 28
def ir58 : IFn := ⟨160, [⟨2, none⟩], (.seq (.reg [oA 1 (.box 30 (.r 0)), oA 2 (.mov (.k (.v (.pointer none))))]) (.seq (.reg [oA 14 (.build (rb 0) []), oA 15 (.box 117 (.r 14)), oA 3 (kM 15)]) (.seq (.seq (.reg [oA 16 (.mov (kI 0))]) (.block 0 (.loop (.seq (.reg [oA 17 (.bin .lss (.r 16) (kI 28))]) (.seq (.cond (.r 17) .skip (.exit 0)) (.seq (.block 1 (.seq (.reg [oA 18 (kM 16), oA 4 (kM 18)]) (.reg [oA 19 (kM 3), oA 20 (kM 4), oA 21 (kM 4), oA 22 (.nchk (.r 19)), oA 23 (.fadr 0 (.r 22)), oA 24 (.iaar 28 28 (.r 23) (.r 20)), oA 25 (.iaar 28 1 (.r 24) (.r 21)), oN (.store 1 (.r 25) (kB true))]))) (.reg [oA 26 (.bin .add (.r 16) (kI 1)), oA 16 (kM 26)]))))))) (.seq (.seq (.reg [oA 27 (.mov (kI 0))]) (.block 2 (.loop (.seq (.reg [oA 28 (.bin .lss (.r 27) (kI 12))]) (.seq (.cond (.r 28) .skip (.exit 2)) (.seq (.block 3 (.seq (.reg [oA 29 (kM 27), oA 5 (kM 29)]) (.reg [oA 30 (kM 3), oA 31 (kM 5), oA 32 (kM 5), oA 33 (.nchk (.r 30)), oA 34 (.fadr 784 (.r 33)), oA 35 (.iaar 12 12 (.r 34) (.r 31)), oA 36 (.iaar 12 1 (.r 35) (.r 32)), oN (.store 1 (.r 36) (kB true))]))) (.reg [oA 37 (.bin .add (.r 27) (kI 1)), oA 27 (kM 37)]))))))) (.seq (.seq (.reg [oA 38 (.fadr 4 (.r 1)), oL 39 38 none, oT 40 39 (.lenl (.r 39)), oA 41 (.mov (kI 0))]) (.block 4 (.loop (.seq (.reg [oA 42 (.bin .lss (.r 41) (.r 40))]) (.seq (.cond (.r 42) .skip (.exit 4)) (.seq (.block 5 (.seq (.reg [oA 43 (.iasl 2 (.r 39) (.r 41)), oL 44 43 (some 2), oA 7 (.alloc 82 [.v (.int .i64 0), .v (.int .i64 0)]), oN (.store 2 (.r 7) (.r 44))]) (.seq (.draw [oA 45 (kM 3), oA 46 (.fadr 0 (.r 7)), oL 47 46 none, oA 48 (.fadr 1 (.r 7)), oL 49 48 none, oA 50 (kM 3), oA 51 (.fadr 0 (.r 7)), oL 52 51 none, oA 53 (.bin .xor (.r 52) (kI 1)), oA 54 (.fadr 1 (.r 7)), oL 55 54 none, oA 56 (.bin .xor (.r 55) (kI 1)), oA 57 (.nchk (.r 45)), oA 58 (.fadr 784 (.r 57)), oA 59 (.iaar 12 12 (.r 58) (.r 47)), oA 60 (.iaar 12 1 (.r 59) (.r 49)), oN (.store 1 (.r 60) (kB true)), oA 61 (.nchk (.r 50)), oA 62 (.fadr 784 (.r 61)), oA 63 (.iaar 12 12 (.r 62) (.r 53)), oA 64 (.iaar 12 1 (.r 63) (.r 56)), oN (.store 1 (.r 64) (kB true))] [(7, 16), (10, 16)]) (.draw [oA 65 (kM 3), oA 66 (.fadr 0 (.r 7)), oL 67 66 none, oT 68 67 (.call 65 [.r 67]), oA 69 (.fadr 1 (.r 7)), oL 70 69 none, oT 71 70 (.call 65 [.r 70]), oA 72 (kM 3), oA 73 (.fadr 0 (.r 7)), oL 74 73 none, oA 75 (.bin .xor (.r 74) (kI 1)), oT 76 75 (.call 65 [.r 75]), oA 77 (.fadr 1 (.r 7)), oL 78 77 none, oA 79 (.bin .xor (.r 78) (kI 1)), oT 80 79 (.call 65 [.r 79]), oA 81 (.nchk (.r 65)), oA 82 (.fadr 0 (.r 81)), oA 83 (.iaar 28 28 (.r 82) (.r 68)), oA 84 (.iaar 28 1 (.r 83) (.r 71)), oN (.store 1 (.r 84) (kB true)), oA 85 (.nchk (.r 72)), oA 86 (.fadr 0 (.r 85)), oA 87 (.iaar 28 28 (.r 86) (.r 76)), oA 88 (.iaar 28 1 (.r 87) (.r 80)), oN (.store 1 (.r 88) (kB true))] [(5, 3), (9, 3), (9, 6), (13, 3), (13, 6), (13, 11)])))) (.reg [oA 89 (.bin .add (.r 41) (kI 1)), oA 41 (kM 89)]))))))) (.seq (.seq (.reg [oA 90 (.fadr 3 (.r 1)), oL 91 90 none, oT 92 91 (.lenl (.r 91)), oA 93 (.mov (kI 0))]) (.block 6 (.loop (.seq (.reg [oA 94 (.bin .lss (.r 93) (.r 92))]) (.seq (.cond (.r 94) .skip (.exit 6)) (.seq (.block 7 (.seq (.reg [oA 95 (.iasl 6 (.r 91) (.r 93)), oL 96 95 (some 6), oA 9 (.alloc 89 [.v (.int .i64 0), .v (.int .i64 0), .sl .nil 0 [], .v (.int .i64 0), .v (.int .i64 0), .sl .nil 0 []]), oN (.store 6 (.r 9) (.r 96))]) (.seq (.reg [oA 98 (.fadr 0 (.r 9)), oL 99 98 (some 3), oT 100 99 (.call 55 [.r 99]), oA 97 (kM 100), oA 101 (.ext (.r 97) 0), oA 102 (.ext (.r 97) 1), oA 10 (kM 101), oA 11 (kM 102)]) (.seq (.reg [oA 104 (.fadr 3 (.r 9)), oL 105 104 (some 3), oT 106 105 (.call 56 [.r 105]), oA 103 (kM 106), oA 107 (.ext (.r 103) 0), oA 108 (.ext (.r 103) 1), oA 12 (.alloc 101 [.v (.int .i64 0), .v (.bool false), .v (.bool false)]), oN (.store 3 (.r 12) (.r 107)), oA 13 (kM 108)]) (.block 8 (.seq (.reg [oA 118 (.fadr 2 (.r 12)), oL 119 118 none, oA 117 (kM 119)]) (.cond (.r 117) (.reg [oA 120 (kM 3), oA 121 (kM 10), oA 122 (kM 10), oA 123 (.nchk (.r 120)), oA 124 (.fadr 928 (.r 123)), oA 125 (.iaar 28 28 (.r 124) (.r 121)), oA 126 (.iaar 28 1 (.r 125) (.r 122)), oN (.store 1 (.r 126) (kB true))]) (.seq (.reg [oA 128 (.fadr 1 (.r 12)), oL 129 128 none, oA 127 (kM 129)]) (.cond (.r 127) (.draw [oA 130 (kM 3), oA 131 (kM 10), oA 132 (.fadr 0 (.r 12)), oL 133 132 none, oA 134 (kM 3), oA 135 (.fadr 0 (.r 12)), oL 136 135 none, oA 137 (kM 10), oA 138 (.nchk (.r 130)), oA 139 (.fadr 928 (.r 138)), oA 140 (.iaar 28 28 (.r 139) (.r 131)), oA 141 (.iaar 28 1 (.r 140) (.r 133)), oN (.store 1 (.r 141) (kB true)), oA 142 (.nchk (.r 134)), oA 143 (.fadr 928 (.r 142)), oA 144 (.iaar 28 28 (.r 143) (.r 136)), oA 145 (.iaar 28 1 (.r 144) (.r 137)), oN (.store 1 (.r 145) (kB true))] [(6, 12)]) (.draw [oA 109 (kM 3), oA 110 (kM 10), oA 111 (.fadr 0 (.r 12)), oL 112 111 none, oA 113 (.nchk (.r 109)), oA 114 (.fadr 0 (.r 113)), oA 115 (.iaar 28 28 (.r 114) (.r 110)), oA 116 (.iaar 28 1 (.r 115) (.r 112)), oN (.store 1 (.r 116) (kB true))] [])))))))))) (.reg [oA 146 (.bin .add (.r 93) (kI 1)), oA 93 (kM 146)]))))))) (.seq (.reg [oA 147 (kM 3), oA 148 (.nchk (.r 147)), oA 149 (.fadr 0 (.r 148)), oA 150 (.slcp 28 28 (.r 149) none none), oA 151 (.call 83 [.r 150, .k (.fn (.func 84) [] [])])]) (.seq (.reg [oA 152 (kM 3), oA 153 (.nchk (.r 152)), oA 154 (.fadr 784 (.r 153)), oA 155 (.slcp 12 12 (.r 154) none none), oA 156 (.call 85 [.r 155, .k (.fn (.func 86) [] [])])]) (.seq (.reg [oA 157 (kM 3), oT 158 157 (.call 87 [.r 157])]) (.seq (.reg [oA 159 (kM 3), oA 2 (kM 159)]) .ret))))))))))⟩
theorem c58 : cfunc Tryd.prog 58 = some ir58 := by kernel_rfl
theorem k58 : okIR (max 1 ir58.n) ir58.ir = true := by decide +kernel
theorem s_RulesOf (b : Bas) (hb : b.ok) (hl : b.lite) (j : JH) : JC Tryd.prog G 58 [.agg b.enc] j (RET (.ptr (pid j.next 1) 0) (ext j [.cells 30 b.enc, .cells 117 (rb (rulesN b))])) := by
  have l1 := hb.li
  have l2 := hb.lr
  refine JC.run hmix c58 (by exact k58) ?_
  (try simp only[↓jr,jw,seval,rb_ld,rb_len,jq2,slcp28,slcp12,ir58])
  refine JLOOP.of (σ := Nat) (fun k => k ≤ 28) (fun k => 28 - k) (fun k => [(16, I64 k), (3, .ptr (pid j.next 1) 0), (1, .ptr (pid j.next 0) 0)]) (fun k => ext j [.cells 30 b.enc, .cells 117 (rb (dgA k))]) 0 (by omega) ?_ (JDropH.refl _) ?_
  · ((try simp only[↓jr,jw,seval,rb_ld,rb_len,jq2,slcp28,slcp12,DL]) <;> exact sbLt)
  · rintro k hk
    (try simp only[↓jr,jw,seval,rb_ld,rb_len,jq2,slcp28,slcp12])
    refine wq.intro (fun h1 => ?_) (fun h1 => ?_)
    · (try simp only[↓jr,jw,seval,rb_ld,rb_len,jq2,slcp28,slcp12])
      refine wc.intro (by omega) ?_
      (try simp only[↓jr,jw,seval,rb_ld,rb_len,jq2,slcp28,slcp12])
      refine wc.intro (by omega) ?_
      (try simp only[↓jr,jw,seval,rb_ld,rb_len,jq2,slcp28,slcp12])
      refine wc.put (by omega) (by omega) ?_
      (try simp only[↓jr,jw,seval,rb_ld,rb_len,jq2,slcp28,slcp12])
      refine wc.intro (by unfold R64; omega) ?_
      (try simp only[↓jr,jw,seval,rb_ld,rb_len,jq2,slcp28,slcp12])
      refine JNEXT.of (k + 1) (by omega) (by omega) ?_ (by simp only [dgA_succ]; exact JDropH.next0 (TokExt.refl _) ⟨.inl ⟨rfl, rfl⟩, .inr (OSub.pure (rb_pur _)), True.intro⟩)
      rw [dgA_succ]
      ((try simp only[↓jr,jw,seval,rb_ld,rb_len,jq2,slcp28,slcp12,DL]) <;> exact sbLt)
    · (try simp only[↓jr,jw,seval,rb_ld,rb_len,jq2,slcp28,slcp12])
      have e : k = 28 := by omega
      subst e
      refine JLOOP.of (σ := Nat) (fun k => k ≤ 12) (fun k => 12 - k) (fun k => [(27, I64 k), (3, .ptr (pid j.next 1) 0), (1, .ptr (pid j.next 0) 0)]) (fun k => ext j [.cells 30 b.enc, .cells 117 (rb (dgB k))]) 0 (by omega) ?_ (JDropH.refl _) ?_
      · ((try simp only[↓jr,jw,seval,rb_ld,rb_len,jq2,slcp28,slcp12,DL]) <;> exact sbLt)
      rintro k hk
      (try simp only[↓jr,jw,seval,rb_ld,rb_len,jq2,slcp28,slcp12])
      refine wq.intro (fun h2 => ?_) (fun h2 => ?_)
      · (try simp only[↓jr,jw,seval,rb_ld,rb_len,jq2,slcp28,slcp12])
        refine wc.intro (by omega) ?_
        (try simp only[↓jr,jw,seval,rb_ld,rb_len,jq2,slcp28,slcp12])
        refine wc.intro (by omega) ?_
        (try simp only[↓jr,jw,seval,rb_ld,rb_len,jq2,slcp28,slcp12])
        refine wc.put (by omega) (by omega) ?_
        (try simp only[↓jr,jw,seval,rb_ld,rb_len,jq2,slcp28,slcp12])
        refine wc.intro (by unfold R64; omega) ?_
        (try simp only[↓jr,jw,seval,rb_ld,rb_len,jq2,slcp28,slcp12])
        refine JNEXT.of (k + 1) (by omega) (by omega) ?_ (by simp only [dgB_succ]; exact JDropH.next0 (TokExt.refl _) ⟨.inl ⟨rfl, rfl⟩, .inr (OSub.pure (rb_pur _)), True.intro⟩)
        rw [dgB_succ]
        ((try simp only[↓jr,jw,seval,rb_ld,rb_len,jq2,slcp28,slcp12,DL]) <;> exact sbLt)
      · (try simp only[↓jr,jw,seval,rb_ld,rb_len,jq2,slcp28,slcp12])
        have e : k = 12 := by omega
        subst e
        refine JLOOP.of (σ := Nat × Nat) (fun s => s.1 ≤ (b.roles).length ∧ (b.roles.drop s.1).foldl rlR s.2 = stR b) (fun s => (b.roles).length - s.1) (fun s => [(41, I64 s.1), (40, I64 b.roles.length), (39, .sl .none b.roles.length (encs RIn.enc b.roles)), (3, .ptr (pid j.next 1) 0), (1, .ptr (pid j.next 0) 0)]) (fun s => ext j [.cells 30 b.enc, .cells 117 (rb s.2)]) (0, dgB 12) ⟨Nat.zero_le _, ?_⟩ ?_ (JDropH.refl _) ?_
        · rfl
        · ((try simp only[↓jr,jw,seval,rb_ld,rb_len,jq2,slcp28,slcp12,DL]) <;> exact sbLt)
        rintro ⟨k, M⟩ ⟨hk, hI⟩
        try simp only at hk hI
        (try simp only[↓jr,jw,seval,rb_ld,rb_len,jq2,slcp28,slcp12])
        refine wq.intro (fun h1 => ?_) (fun h1 => ?_)
        · have hlt : k < (b.roles).length := by omega
          obtain ⟨x, r, hd⟩ : ∃ c_ l_, List.drop k (b.roles) = c_ :: l_ := ⟨_, _, List.drop_eq_getElem_cons hlt⟩
          have hd1 : List.drop (k + 1) (b.roles) = r := by rw [← List.drop_drop, hd]; rfl
          have hmem : x ∈ b.roles := List.mem_of_mem_drop (hd ▸ List.mem_cons_self)
          (try simp only[↓jr,jw,seval,rb_ld,rb_len,jq2,slcp28,slcp12,hd])
          refine wc.intro (by omega) ?_
          (try simp only[↓jr,jw,seval,rb_ld,rb_len,jq2,slcp28,slcp12,hd])
          rw [hd] at hI
          obtain ⟨s, p, e1, e2, hs, hp⟩ := hl.rol x hmem
          have hs' := xor_lt hs
          have hp' := xor_lt hp
          have es := xor_r hs
          have ep := xor_r hp
          (try simp only[↓jr,jw,seval,rb_ld,rb_len,jq2,slcp28,slcp12,e1,e2,es,ep,n16])
          repeat' (first | (refine wc.put (by omega) (by omega) ?_; (try simp only[↓jr,jw,seval,rb_ld,rb_len,jq2,slcp28,slcp12,e1,e2,es,ep,n16])) | (refine wc.intro (by first | omega | (unfold R64; omega)) ?_; (try simp only[↓jr,jw,seval,rb_ld,rb_len,jq2,slcp28,slcp12,e1,e2,es,ep,n16])) | (refine JDC.use (s_some _ (by unfold R64; omega) _) ?_; (try simp only[↓jr,jw,seval,rb_ld,rb_len,jq2,slcp28,slcp12,e1,e2,es,ep,n16])) | (refine JDRAW.oc (by (try simp only[↓jr,jw,seval,rb_ld,rb_len,jq2,slcp28,slcp12,jq]) <;> exact orq) ?_; (try simp only[↓jr,jw,seval,rb_ld,rb_len,jq2,slcp28,slcp12])))
          rw [List.foldl_cons] at hI
          have e3 : rlR M x = rlS M s p := by unfold rlR; rw [e1, e2]; rfl
          rw [e3] at hI
          refine JNEXT.of (k + 1, rlS M s p) ⟨by simp only; omega, by simp only [hd1]; exact hI⟩ (by simp only; omega) ?_ (by simp only [rlS]; exact JDropH.next0 (TokExt.refl _) ⟨.inl ⟨rfl, rfl⟩, .inr (OSub.pure (rb_pur _)), True.intro⟩)
          simp only [Int.natCast_add]
          ((try simp only[↓jr,jw,seval,rb_ld,rb_len,jq2,slcp28,slcp12,DL]) <;> exact sbLt)
        (try simp only[↓jr,jw,seval,rb_ld,rb_len,jq2,slcp28,slcp12])
        rw [List.drop_eq_nil_of_le (by omega), List.foldl_nil] at hI
        subst hI
        clear hk h1
        refine JLOOP.of (σ := Nat × Nat) (fun s => s.1 ≤ (b.incls).length ∧ (b.incls.drop s.1).foldl inR s.2 = stI b) (fun s => (b.incls).length - s.1) (fun s => [(93, I64 s.1), (92, I64 b.incls.length), (91, .sl .none b.incls.length (encs Inc.enc b.incls)), (3, .ptr (pid j.next 1) 0), (1, .ptr (pid j.next 0) 0)]) (fun s => ext j [.cells 30 b.enc, .cells 117 (rb s.2)]) (0, stR b) ⟨Nat.zero_le _, ?_⟩ ?_ (JDropH.refl _) ?_
        · rfl
        · ((try simp only[↓jr,jw,seval,rb_ld,rb_len,jq2,slcp28,slcp12,DL]) <;> exact sbLt)
        rintro ⟨k, M⟩ ⟨hk, hI⟩
        try simp only at hk hI
        (try simp only[↓jr,jw,seval,rb_ld,rb_len,jq2,slcp28,slcp12])
        refine wq.intro (fun h1 => ?_) (fun h1 => ?_)
        · have hlt : k < (b.incls).length := by omega
          obtain ⟨x, r, hd⟩ : ∃ c_ l_, List.drop k (b.incls) = c_ :: l_ := ⟨_, _, List.drop_eq_getElem_cons hlt⟩
          have hd1 : List.drop (k + 1) (b.incls) = r := by rw [← List.drop_drop, hd]; rfl
          have hmem : x ∈ b.incls := List.mem_of_mem_drop (hd ▸ List.mem_cons_self)
          (try simp only[↓jr,jw,seval,rb_ld,rb_len,jq2,slcp28,slcp12,hd])
          refine wc.intro (by omega) ?_
          (try simp only[↓jr,jw,seval,rb_ld,rb_len,jq2,slcp28,slcp12,hd])
          rw [hd] at hI
          obtain ⟨c, d, e1, e2, hc, hd2⟩ := hl.inc x hmem
          obtain ⟨no, bot, e3⟩ : ∃ no bot, rhsC x.sup = ((d : Int), no, bot) := ⟨_, _, by rw [← e2]⟩
          have hx := hl.hds x hmem
          have hy := hl.rs x hmem
          refine JCs.ret (s_of x.sub hx.1.1 hy.1.1 _) ?_
          rw [e1]
          (try simp only[↓jr,jw,seval,rb_ld,rb_len,jq2,slcp28,slcp12])
          refine JCs.ret (s_right x.sup hx.2 hy.2 _) ?_
          rw [e3]
          (try simp only[↓jr,jw,seval,rb_ld,rb_len,jq2,slcp28,slcp12])
          rw [List.foldl_cons] at hI
          have e4 : inR M x = inS M c d no bot := by unfold inR; rw [e1, e3]; rfl
          rw [e4] at hI
          have fin : ∀ {M' : Nat}, inS M c d no bot = M' → List.foldl inR M' r = stI b := fun e => by rw [← e]; exact hI
          refine ww.intro (fun q1 => ?_) (fun q1 => ?_)
          · (try simp only[↓jr,jw,seval,rb_ld,rb_len,jq2,slcp28,slcp12])
            refine wc.intro (by omega) ?_
            (try simp only[↓jr,jw,seval,rb_ld,rb_len,jq2,slcp28,slcp12])
            refine wc.intro (by omega) ?_
            (try simp only[↓jr,jw,seval,rb_ld,rb_len,jq2,slcp28,slcp12])
            refine wc.put (by omega) (by omega) ?_
            (try simp only[↓jr,jw,seval,rb_ld,rb_len,jq2,slcp28,slcp12])
            refine wc.intro (by unfold R64; omega) ?_
            (try simp only[↓jr,jw,seval,rb_ld,rb_len,jq2,slcp28,slcp12])
            refine JNEXT.of (k + 1, put M (928 + c * 28 + c)) ⟨by simp only; omega, by simp only [hd1]; exact fin (by unfold inS; rw [if_pos q1])⟩ (by simp only; omega) ?_ (JDropH.next0 (TokExt.refl _) ⟨.inl ⟨rfl, rfl⟩, .inr (OSub.pure (rb_pur _)), True.intro⟩)
            simp only [Int.natCast_add]
            ((try simp only[↓jr,jw,seval,rb_ld,rb_len,jq2,slcp28,slcp12,DL]) <;> exact sbLt)
          · (try simp only[↓jr,jw,seval,rb_ld,rb_len,jq2,slcp28,slcp12])
            refine ww.intro (fun q2 => ?_) (fun q2 => ?_)
            · (try simp only[↓jr,jw,seval,rb_ld,rb_len,jq2,slcp28,slcp12])
              repeat' (first | (refine wc.put (by omega) (by omega) ?_; (try simp only[↓jr,jw,seval,rb_ld,rb_len,jq2,slcp28,slcp12])) | (refine wc.intro (by first | omega | (unfold R64; omega)) ?_; (try simp only[↓jr,jw,seval,rb_ld,rb_len,jq2,slcp28,slcp12])) | (refine JDRAW.oc (by (try simp only[↓jr,jw,seval,rb_ld,rb_len,jq2,slcp28,slcp12,jq]) <;> exact orq) ?_; (try simp only[↓jr,jw,seval,rb_ld,rb_len,jq2,slcp28,slcp12])))
              refine JNEXT.of (k + 1, put (put M (928 + c * 28 + d)) (928 + d * 28 + c)) ⟨by simp only; omega, by simp only [hd1]; exact fin (by unfold inS; rw [if_neg (by rw [q1]; exact Bool.false_ne_true), if_pos q2])⟩ (by simp only; omega) ?_ (JDropH.next0 (TokExt.refl _) ⟨.inl ⟨rfl, rfl⟩, .inr (OSub.pure (rb_pur _)), True.intro⟩)
              simp only [Int.natCast_add]
              ((try simp only[↓jr,jw,seval,rb_ld,rb_len,jq2,slcp28,slcp12,DL]) <;> exact sbLt)
            · (try simp only[↓jr,jw,seval,rb_ld,rb_len,jq2,slcp28,slcp12])
              repeat' (first | (refine wc.put (by omega) (by omega) ?_; (try simp only[↓jr,jw,seval,rb_ld,rb_len,jq2,slcp28,slcp12])) | (refine wc.intro (by first | omega | (unfold R64; omega)) ?_; (try simp only[↓jr,jw,seval,rb_ld,rb_len,jq2,slcp28,slcp12])) | (refine JDRAW.oc (by (try simp only[↓jr,jw,seval,rb_ld,rb_len,jq2,slcp28,slcp12,jq]) <;> exact orq) ?_; (try simp only[↓jr,jw,seval,rb_ld,rb_len,jq2,slcp28,slcp12])))
              refine JNEXT.of (k + 1, put M (c * 28 + d)) ⟨by simp only; omega, by simp only [hd1]; exact fin (by unfold inS; rw [if_neg (by rw [q1]; exact Bool.false_ne_true), if_neg (by rw [q2]; exact Bool.false_ne_true)])⟩ (by simp only; omega) ?_ (JDropH.next0 (TokExt.refl _) ⟨.inl ⟨rfl, rfl⟩, .inr (OSub.pure (rb_pur _)), True.intro⟩)
              simp only [Int.natCast_add]
              ((try simp only[↓jr,jw,seval,rb_ld,rb_len,jq2,slcp28,slcp12,DL]) <;> exact sbLt)
        (try simp only[↓jr,jw,seval,rb_ld,rb_len,jq2,slcp28,slcp12])
        rw [List.drop_eq_nil_of_le (by omega), List.foldl_nil] at hI
        have nw : pid j.next 1 < (ext j [AObj.cells 30 b.enc, AObj.cells 117 (rb M)]).next := by rw [ext_next]; unfold pid; simp
        refine JCs.ret (s_trans28w (pid j.next 1) 0 117 M _ nw (by (try simp only[↓jr,jw,seval,rb_ld,rb_len,jq2,slcp28,slcp12])) (by omega)) ?_
        (try simp only[↓jr,jw,seval,rb_ld,rb_len,jq2,slcp28,slcp12])
        refine JCs.ret (s_trans12w (pid j.next 1) 784 117 (trJ 28 0 M 28) _ (by rw [ext_next]; unfold pid; simp) (by (try simp only[↓jr,jw,seval,rb_ld,rb_len,jq2,slcp28,slcp12])) (by omega)) ?_
        (try simp only[↓jr,jw,seval,rb_ld,rb_len,jq2,slcp28,slcp12])
        refine JCs.ret (s_void (pid j.next 1) 117 (trJ 12 784 (trJ 28 0 M 28) 12) _ (by rw [ext_next]; unfold pid; simp) (by (try simp only[↓jr,jw,seval,rb_ld,rb_len,jq2,slcp28,slcp12]))) ?_
        (try simp only[↓jr,jw,seval,rb_ld,rb_len,jq2,slcp28,slcp12])
        have e : voidN (trJ 12 784 (trJ 28 0 M 28) 12) = rulesN b := by unfold rulesN; rw [← hI]
        rw [e]
        refine JFIN.ret (JDropH.keep ?_) (SubB.ptr (by rw [ext_next]; unfold pid; simp))
        intro ob hob
        simp only [List.mem_cons, List.not_mem_nil, or_false] at hob
        rcases hob with rfl | rfl
        · exact OSub.pure (Bas.pur b)
        · exact OSub.pure (rb_pur _)
end Go.Proofs.YtkcbhebbjpiibaaDoor.Pg
