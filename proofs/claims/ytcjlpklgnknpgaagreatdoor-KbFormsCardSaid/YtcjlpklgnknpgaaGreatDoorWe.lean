/-
  The names that a knowledge base uses: the program.
-/
import Derived.Test.YtcjlpklgnknpgaaGreatDoorWc
import Derived.Test.YtcjlpklgnknpgaaGreatDoorUh
set_option linter.unusedVariables false
set_option linter.unusedSimpArgs false
set_option maxRecDepth 100000
set_option maxHeartbeats 8000000
namespace Go.Proofs.YtcjlpklgnknpgaaGreatDoor.Pg
open Go
def uiA (a : List Int) : List Inc → List Int
  | [] => a
  | x :: l => uiA (cnsI (cnsI a (pre x.sub)) (pre x.sup)) l
def uiR (a : List Int) : List Inc → List Int
  | [] => a
  | x :: l => uiR (rlsI (rlsI a (pre x.sub)) (pre x.sup)) l
def urR (a : List Int) : List RIn → List Int
  | [] => a
  | x :: l => urR (insI (insI a (x.sub.tdiv 2)) (x.sup.tdiv 2)) l
def ufA (a : List Int) : List Fac → List Int
  | [] => a
  | x :: l => ufA (cnsI a (pre x.con)) l
def ufR (a : List Int) : List Fac → List Int
  | [] => a
  | x :: l => ufR (rlsI a (pre x.con)) l
def ufI (a : List Int) : List Fac → List Int
  | [] => a
  | x :: l => ufI (insI a x.ind) l
def ulR (a : List Int) : List Lnk → List Int
  | [] => a
  | x :: l => ulR (insI a x.role) l
def ulI (a : List Int) : List Lnk → List Int
  | [] => a
  | x :: l => ulI (insI (insI a x.fr) x.to) l
/-- A set of numbers, not too many. -/
structure Set64 (a : List Int) (n : Nat) : Prop where
  nd : a.Nodup
  r : ∀ x ∈ a, R64 x
  l : a.length ≤ n
theorem Set64.nil : Set64 [] 0 := ⟨List.nodup_nil, fun x h => (by cases h), Nat.le_refl _⟩
theorem Set64.ins {a : List Int} {n : Nat} (h : Set64 a n) {x : Int} (hx : R64 x) : Set64 (insI a x) (n + 1) where
  nd := insI_nodup h.nd
  r := by
    intro y hy
    rcases insI_mem.1 hy with q | q
    · exact h.r y q
    · rw [q]; exact hx
  l := Nat.le_trans insI_len (by have := h.l; omega)
theorem Set64.cns {a : List Int} {n : Nat} (h : Set64 a n) {c : Con} (hc : c.ok) : Set64 (cnsI a (pre c)) (n + c.nodes) :=
  ⟨cnsI_nodup _ _ h.nd, cnsI_R64 _ _ (pre_ok c hc) h.r, Nat.le_trans (cnsI_len _ _) (by rw [pre_len]; have := h.l; omega)⟩
theorem Set64.rls {a : List Int} {n : Nat} (h : Set64 a n) {c : Con} (hc : c.ok) : Set64 (rlsI a (pre c)) (n + c.nodes) :=
  ⟨rlsI_nodup _ _ h.nd, rlsI_R64 _ _ (pre_ok c hc) h.r, Nat.le_trans (rlsI_len _ _) (by rw [pre_len]; have := h.l; omega)⟩
theorem Set64.le {a : List Int} {n m : Nat} (h : Set64 a n) (k : n ≤ m) : Set64 a m := ⟨h.nd, h.r, Nat.le_trans h.l k⟩
theorem uo1 {j : JH} : ∀ ob : Nat, (none : Option Nat) = some ob → ob < j.next := fun _ q => by cases q
theorem uo2 {a b : JH} {t : Option Nat} {o : Nat} {x : Option AObj} (h : t = some o) (ha : a.get o = x) (hb : b.get o = x) : ∀ ob : Nat, t = some ob → a.get ob = b.get ob := by
  intro ob q; rw [h] at q; cases q; rw [ha, hb]
theorem uo3 {j : JH} {l m : List AObj} (h : l.length = m.length) : (Pg.ext j l).next ≤ (Pg.ext j m).next := by rw [ext_next, ext_next, h]; exact Nat.le_refl _
section
variable {m : GM}
noncomputable def ir25 : IFn := ⟨96, [⟨2, none⟩, ⟨3, none⟩, ⟨4, none⟩, ⟨5, none⟩], (.seq (.reg [oA 1 (.box 30 (.r 0)), oA 2 (.mov (.k (.sl .nil 0 []))), oA 3 (.mov (.k (.sl .nil 0 []))), oA 4 (.mov (.k (.sl .nil 0 []))), oA 5 (.mov (kI 0))]) (.seq (.seq (.reg [oL 17 1 (some 7), oT 18 17 (.call 35 [.r 17]), oA 19 (.not (.r 18))]) (.cond (.r 19) (.seq (.reg [oA 2 (.mov (.k (.sl .nil 0 []))), oA 3 (.mov (.k (.sl .nil 0 []))), oA 4 (.mov (.k (.sl .nil 0 []))), oA 5 (.mov (kI 20))]) .ret) .skip)) (.seq (.reg [oA 20 (.mkmap), oA 21 (.mkmap), oA 22 (.mkmap), oA 6 (kM 20), oA 7 (kM 21), oA 8 (kM 22)]) (.seq (.seq (.reg [oA 23 (.fadr 3 (.r 1)), oL 24 23 none, oT 25 24 (.lenl (.r 24)), oA 26 (.mov (kI 0))]) (.block 0 (.loop (.seq (.reg [oA 27 (.bin .lss (.r 26) (.r 25))]) (.seq (.cond (.r 27) .skip (.exit 0)) (.seq (.block 1 (.seq (.reg [oA 28 (.iasl 6 (.r 24) (.r 26)), oL 29 28 (some 6), oA 10 (.alloc 113 [.v (.int .i64 0), .v (.int .i64 0), .sl .nil 0 [], .v (.int .i64 0), .v (.int .i64 0), .sl .nil 0 []]), oN (.store 6 (.r 10) (.r 29))]) (.seq (.reg [oA 30 (.fadr 0 (.r 10)), oL 31 30 (some 3), oA 32 (kM 6), oA 33 (kM 7), oA 34 (.call 63 [.r 31, .r 32, .r 33])]) (.reg [oA 35 (.fadr 3 (.r 10)), oL 36 35 (some 3), oA 37 (kM 6), oA 38 (kM 7), oA 39 (.call 63 [.r 36, .r 37, .r 38])])))) (.reg [oA 40 (.bin .add (.r 26) (kI 1)), oA 26 (kM 40)]))))))) (.seq (.seq (.reg [oA 41 (.fadr 4 (.r 1)), oL 42 41 none, oT 43 42 (.lenl (.r 42)), oA 44 (.mov (kI 0))]) (.block 2 (.loop (.seq (.reg [oA 45 (.bin .lss (.r 44) (.r 43))]) (.seq (.cond (.r 45) .skip (.exit 2)) (.seq (.block 3 (.seq (.reg [oA 46 (.iasl 2 (.r 42) (.r 44)), oL 47 46 (some 2), oA 12 (.alloc 116 [.v (.int .i64 0), .v (.int .i64 0)]), oN (.store 2 (.r 12) (.r 47))]) (.draw [oA 48 (kM 7), oA 49 (.fadr 0 (.r 12)), oL 50 49 none, oA 51 (.bin .quo (.r 50) (kI 2)), oA 52 (kM 7), oA 53 (.fadr 1 (.r 12)), oL 54 53 none, oA 55 (.bin .quo (.r 54) (kI 2)), oN (.mapup (.int .i64) (.r 48) (.r 51) (kB true)), oN (.mapup (.int .i64) (.r 52) (.r 55) (kB true))] [(6, 8)]))) (.reg [oA 56 (.bin .add (.r 44) (kI 1)), oA 44 (kM 56)]))))))) (.seq (.seq (.reg [oA 57 (.fadr 5 (.r 1)), oL 58 57 none, oT 59 58 (.lenl (.r 58)), oA 60 (.mov (kI 0))]) (.block 4 (.loop (.seq (.reg [oA 61 (.bin .lss (.r 60) (.r 59))]) (.seq (.cond (.r 61) .skip (.exit 4)) (.seq (.block 5 (.seq (.reg [oA 62 (.iasl 4 (.r 58) (.r 60)), oL 63 62 (some 4), oA 14 (.alloc 118 [.v (.int .i64 0), .v (.int .i64 0), .v (.int .i64 0), .sl .nil 0 []]), oN (.store 4 (.r 14) (.r 63))]) (.seq (.reg [oA 64 (.fadr 1 (.r 14)), oL 65 64 (some 3), oA 66 (kM 6), oA 67 (kM 7), oA 68 (.call 63 [.r 65, .r 66, .r 67])]) (.reg [oA 69 (kM 8), oA 70 (.fadr 0 (.r 14)), oL 71 70 none, oN (.mapup (.int .i64) (.r 69) (.r 71) (kB true))])))) (.reg [oA 72 (.bin .add (.r 60) (kI 1)), oA 60 (kM 72)]))))))) (.seq (.seq (.reg [oA 73 (.fadr 6 (.r 1)), oL 74 73 none, oT 75 74 (.lenl (.r 74)), oA 76 (.mov (kI 0))]) (.block 6 (.loop (.seq (.reg [oA 77 (.bin .lss (.r 76) (.r 75))]) (.seq (.cond (.r 77) .skip (.exit 6)) (.seq (.block 7 (.seq (.reg [oA 78 (.iasl 3 (.r 74) (.r 76)), oL 79 78 (some 3), oA 16 (.alloc 120 [.v (.int .i64 0), .v (.int .i64 0), .v (.int .i64 0)]), oN (.store 3 (.r 16) (.r 79))]) (.draw [oA 80 (kM 7), oA 81 (.fadr 0 (.r 16)), oL 82 81 none, oA 83 (kM 8), oA 84 (.fadr 1 (.r 16)), oL 85 84 none, oA 86 (kM 8), oA 87 (.fadr 2 (.r 16)), oL 88 87 none, oN (.mapup (.int .i64) (.r 80) (.r 82) (kB true)), oN (.mapup (.int .i64) (.r 83) (.r 85) (kB true)), oN (.mapup (.int .i64) (.r 86) (.r 88) (kB true))] [(5, 9), (8, 9), (8, 10)]))) (.reg [oA 89 (.bin .add (.r 76) (kI 1)), oA 76 (kM 89)]))))))) (.seq (.reg [oA 90 (kM 6), oT 91 90 (.call 64 [.r 90]), oA 92 (kM 7), oT 93 92 (.call 64 [.r 92]), oA 94 (kM 8), oT 95 94 (.call 64 [.r 94]), oA 2 (kM 91), oA 3 (kM 93), oA 4 (kM 95), oA 5 (.mov (kI 0))]) .ret))))))))⟩
theorem c25 : cfunc Tryz.prog 25 = some ir25 := by kernel_rfl
theorem k25 : okIR (max 1 ir25.n) ir25.ir = true := by decide +kernel
theorem s_kbUsesN (b : Bas) (hb : b.ok) (hf : b.few) (q : basV b = false) (j : JH) : JC Tryz.prog (GG m) 25 [.agg b.enc] j (RET (.tup [SLI [], SLI [], SLI [], I64 20]) j) := by
  refine JC.run hmix c25 (by exact k25) ?_
  (try simp only[↓jr,jw,seval,ir25])
  refine JCs.ret (s_kbValid b hb hf _) ?_
  rw [q]
  (try simp only[↓jr,jw,seval])
  refine JFIN.rb ?_
  exact SubB.tup ⟨SubB.sl rfl True.intro, SubB.sl rfl True.intro, SubB.sl rfl True.intro, SubB.v, True.intro⟩
theorem s_kbUses (b : Bas) (hb : b.ok) (hf : b.few) (q : basV b = true) (hs : sumN b.cons ≤ 3000) (h1 : b.incls.length ≤ 200) (h2 : b.roles.length ≤ 200) (h3 : b.facts.length ≤ 200) (h4 : b.links.length ≤ 200) (j : JH) :
    JC Tryz.prog (GG m) 25 [.agg b.enc] j (RET (.tup [SLI (srt (ufA (uiA [] b.incls) b.facts)), SLI (srt (ulR (ufR (urR (uiR [] b.incls) b.roles) b.facts) b.links)), SLI (srt (ulI (ufI [] b.facts) b.links)), I64 0]) j) := by
  have hsI : sumN b.cons = sumN (consI b.incls) + sumN (consF b.facts) := by unfold Bas.cons; exact sumN_append _ _
  refine JC.run hmix c25 (by exact k25) ?_
  (try simp only[↓jr,jw,seval,ir25])
  refine JCs.ret (s_kbValid b hb hf _) ?_
  rw [q]
  (try simp only[↓jr,jw,seval])
  refine JLOOP.of (σ := Nat × List Int × List Int) (fun s => s.1 ≤ b.incls.length ∧ uiA s.2.1 (b.incls.drop s.1) = uiA [] b.incls ∧ uiR s.2.2 (b.incls.drop s.1) = uiR [] b.incls ∧ ∃ n, n + sumN (consI (b.incls.drop s.1)) ≤ sumN (consI b.incls) ∧ Set64 s.2.1 n ∧ Set64 s.2.2 n) (fun s => b.incls.length - s.1)
    (fun s => [(26, I64 s.1), (25, I64 b.incls.length), (24, .sl .none b.incls.length (encs Inc.enc b.incls)), (1, .ptr (pid j.next 0) 0), (6, .mp (pid j.next 1)), (7, .mp (pid j.next 2)), (8, .mp (pid j.next 3))])
    (fun s => Pg.ext j [.cells 30 b.enc, .map (mpS s.2.1), .map (mpS s.2.2), .map (mpS [])]) (0, [], []) ⟨Nat.zero_le _, rfl, rfl, 0, by simp, Set64.nil, Set64.nil⟩ ?_ (JDropH.refl _) ?_
  · ((try simp only[↓jr,jw,seval,DL]) <;> exact sbq)
  rintro ⟨k, A, R⟩ ⟨hk, hA, hR, n, hn, sA, sR⟩
  simp only at hk hA hR hn sA sR
  (try simp only[↓jr,jw,seval])
  refine wq.intro (fun g1 => ?_) (fun g1 => ?_)
  · have hlt : k < (b.incls).length := by omega
    obtain ⟨x, r, hd⟩ : ∃ c_ l_, List.drop k (b.incls) = c_ :: l_ := ⟨_, _, List.drop_eq_getElem_cons hlt⟩
    have hd1 : List.drop (k + 1) (b.incls) = r := by rw [← List.drop_drop, hd]; rfl
    have hmem : x ∈ b.incls := List.mem_of_mem_drop (hd ▸ List.mem_cons_self)
    rw [hd] at hA hR hn
    simp only [uiA, uiR, consI, sumN] at hA hR hn
    obtain ⟨x1, x2⟩ := hb.incls x hmem
    (try simp only[↓jr,jw,seval,hd])
    refine wc.intro (by omega) ?_
    (try simp only[↓jr,jw,seval,hd])
    refine JCs.ret (s_Mark x.sub x1 (pid j.next 1) (pid j.next 2) A R _ (by unfold pid; omega) (by rw [ext_next]; unfold pid; simp) (by rw [ext_next]; unfold pid; simp) (by exact ext_get_new rfl) (by exact ext_get_new rfl)) ?_
    unfold jm
    (try simp only[↓jr,jw,seval])
    refine JCs.ret (s_Mark x.sup x2 (pid j.next 1) (pid j.next 2) (cnsI A (pre x.sub)) (rlsI R (pre x.sub)) _ (by unfold pid; omega) (by rw [ext_next]; unfold pid; simp) (by rw [ext_next]; unfold pid; simp) (by exact ext_get_new rfl) (by exact ext_get_new rfl)) ?_
    unfold jm
    (try simp only[↓jr,jw,seval])
    refine wc.intro (by unfold R64; omega) ?_
    (try simp only[↓jr,jw,seval])
    refine JNEXT.of (k + 1, cnsI (cnsI A (pre x.sub)) (pre x.sup), rlsI (rlsI R (pre x.sub)) (pre x.sup)) ⟨by simp only; omega, by simp only [hd1]; exact hA, by simp only [hd1]; exact hR, n + x.sub.nodes + x.sup.nodes, by simp only [hd1]; omega, (sA.cns x1).cns x2, (sR.rls x1).rls x2⟩ (by simp only; omega) ?_ (JDropH.next0 (TokExt.refl _) ⟨.inl ⟨rfl, rfl⟩, .inr OSub.mpS, .inr OSub.mpS, .inl ⟨rfl, rfl⟩, True.intro⟩)
    ((try simp only[↓jr,jw,seval,DL]) <;> exact sbq)
  (try simp only[↓jr,jw,seval])
  rw [List.drop_eq_nil_of_le (by omega)] at hA hR hn
  simp only [uiA, uiR, consI, sumN] at hA hR hn
  obtain ⟨sA, sR⟩ := (⟨sA.le (by omega), sR.le (by omega)⟩ : Set64 A (sumN (consI b.incls)) ∧ Set64 R (sumN (consI b.incls)))
  rw [← hA, ← hR]
  clear hA hR hn
  generalize sumN (consI b.incls) = N1 at sA sR hsI
  refine JLOOP.of (σ := Nat × List Int) (fun s => s.1 ≤ b.roles.length ∧ urR s.2 (b.roles.drop s.1) = urR R b.roles ∧ Set64 s.2 (N1 + 2 * s.1)) (fun s => b.roles.length - s.1)
    (fun s => [(44, I64 s.1), (43, I64 b.roles.length), (42, .sl .none b.roles.length (encs RIn.enc b.roles)), (1, .ptr (pid j.next 0) 0), (6, .mp (pid j.next 1)), (7, .mp (pid j.next 2)), (8, .mp (pid j.next 3))])
    (fun s => Pg.ext j [.cells 30 b.enc, .map (mpS A), .map (mpS s.2), .map (mpS [])]) (0, R) ⟨Nat.zero_le _, rfl, sR⟩ ?_ (JDropH.refl _) ?_
  · ((try simp only[↓jr,jw,seval,DL]) <;> exact sbq)
  rintro ⟨k2, R2⟩ ⟨hk, hR, sR2⟩
  simp only at hk hR sR2
  (try simp only[↓jr,jw,seval])
  refine wq.intro (fun g1 => ?_) (fun g1 => ?_)
  · have hlt : k2 < (b.roles).length := by omega
    obtain ⟨x, r, hd⟩ : ∃ c_ l_, List.drop k2 (b.roles) = c_ :: l_ := ⟨_, _, List.drop_eq_getElem_cons hlt⟩
    have hd1 : List.drop (k2 + 1) (b.roles) = r := by rw [← List.drop_drop, hd]; rfl
    have hmem : x ∈ b.roles := List.mem_of_mem_drop (hd ▸ List.mem_cons_self)
    rw [hd] at hR
    simp only [urR] at hR
    have xx := hb.roles x hmem
    (try simp only[↓jr,jw,seval,hd])
    refine wc.intro (by omega) ?_
    (try simp only[↓jr,jw,seval,hd])
    refine wc.intro (R64_tdiv2 xx.1) ?_
    (try simp only[↓jr,jw,seval,hd])
    refine wc.intro (R64_tdiv2 xx.2) ?_
    (try simp only[↓jr,jw,seval,hd])
    refine JMAPUP.ins (ks := R2) (by exact ext_get_new rfl) ?_
    (try simp only[↓jr,jw,seval])
    refine JMAPUP.ins (ks := insI R2 (x.sub.tdiv 2)) (by exact ext_get_new rfl) ?_
    (try simp only[↓jr,jw,seval])
    refine JDRAW.oc (by (try simp only[↓jr,jw,seval,jq]) <;> (repeat' (first | exact trivial | refine And.intro ?_ ?_ | assumption | exact Nat.le_refl _ | exact uo1 | exact (fun h => absurd rfl h) | exact uo2 rfl (ext_get_new rfl) (ext_get_new rfl) | exact uo3 rfl | exact (fun _ _ => ⟨uo2 rfl (ext_get_new rfl) (ext_get_new rfl), fun h => absurd rfl h, fun h => absurd rfl h⟩)))) ?_
    (try simp only[↓jr,jw,seval])
    refine wc.intro (by unfold R64; omega) ?_
    (try simp only[↓jr,jw,seval])
    refine JNEXT.of (k2 + 1, insI (insI R2 (x.sub.tdiv 2)) (x.sup.tdiv 2)) ⟨by simp only; omega, by simp only [hd1]; exact hR, (((sR2.ins (R64_tdiv2 xx.1)).ins (R64_tdiv2 xx.2)).le (by simp only; omega))⟩ (by simp only; omega) ?_ (JDropH.next0 (TokExt.refl _) ⟨.inl ⟨rfl, rfl⟩, .inl ⟨rfl, rfl⟩, .inr OSub.mpS, .inl ⟨rfl, rfl⟩, True.intro⟩)
    ((try simp only[↓jr,jw,seval,DL]) <;> exact sbq)
  (try simp only[↓jr,jw,seval])
  rw [List.drop_eq_nil_of_le (by omega)] at hR
  simp only [urR] at hR
  have sR := sR2.le (show N1 + 2 * k2 ≤ N1 + 400 by omega)
  rw [← hR]
  clear hR sR2
  have sI0 : Set64 [] 0 := Set64.nil
  have hw : N1 + 0 ≤ N1 := Nat.le_refl _
  refine JLOOP.of (σ := Nat × List Int × List Int × List Int) (fun s => s.1 ≤ b.facts.length ∧ ufA s.2.1 (b.facts.drop s.1) = ufA A b.facts ∧ ufR s.2.2.1 (b.facts.drop s.1) = ufR R2 b.facts ∧ ufI s.2.2.2 (b.facts.drop s.1) = ufI [] b.facts ∧ Set64 s.2.2.2 s.1 ∧ ∃ n, n + sumN (consF (b.facts.drop s.1)) ≤ sumN (consF b.facts) ∧ Set64 s.2.1 (N1 + n) ∧ Set64 s.2.2.1 (N1 + 400 + n)) (fun s => b.facts.length - s.1)
    (fun s => [(60, I64 s.1), (59, I64 b.facts.length), (58, .sl .none b.facts.length (encs Fac.enc b.facts)), (1, .ptr (pid j.next 0) 0), (6, .mp (pid j.next 1)), (7, .mp (pid j.next 2)), (8, .mp (pid j.next 3))])
    (fun s => Pg.ext j [.cells 30 b.enc, .map (mpS s.2.1), .map (mpS s.2.2.1), .map (mpS s.2.2.2)]) (0, A, R2, []) ⟨Nat.zero_le _, rfl, rfl, rfl, sI0, 0, by simp, sA, sR⟩ ?_ (JDropH.refl _) ?_
  · ((try simp only[↓jr,jw,seval,DL]) <;> exact sbq)
  rintro ⟨k3, A3, R3, I3⟩ ⟨hk, hA, hR, hI, sI, n, hn, sA3, sR3⟩
  simp only at hk hA hR hI hn sI sA3 sR3
  (try simp only[↓jr,jw,seval])
  refine wq.intro (fun g1 => ?_) (fun g1 => ?_)
  · have hlt : k3 < (b.facts).length := by omega
    obtain ⟨x, r, hd⟩ : ∃ c_ l_, List.drop k3 (b.facts) = c_ :: l_ := ⟨_, _, List.drop_eq_getElem_cons hlt⟩
    have hd1 : List.drop (k3 + 1) (b.facts) = r := by rw [← List.drop_drop, hd]; rfl
    have hmem : x ∈ b.facts := List.mem_of_mem_drop (hd ▸ List.mem_cons_self)
    rw [hd] at hA hR hI hn
    simp only [ufA, ufR, ufI, consF, sumN] at hA hR hI hn
    obtain ⟨x1, x2⟩ := hb.facts x hmem
    (try simp only[↓jr,jw,seval,hd])
    refine wc.intro (by omega) ?_
    (try simp only[↓jr,jw,seval,hd])
    refine JCs.ret (s_Mark x.con x2 (pid j.next 1) (pid j.next 2) A3 R3 _ (by unfold pid; omega) (by rw [ext_next]; unfold pid; simp) (by rw [ext_next]; unfold pid; simp) (by exact ext_get_new rfl) (by exact ext_get_new rfl)) ?_
    unfold jm
    (try simp only[↓jr,jw,seval])
    refine JMAPUP.ins (ks := I3) (by exact ext_get_new rfl) ?_
    (try simp only[↓jr,jw,seval])
    refine wc.intro (by unfold R64; omega) ?_
    (try simp only[↓jr,jw,seval])
    refine JNEXT.of (k3 + 1, cnsI A3 (pre x.con), rlsI R3 (pre x.con), insI I3 x.ind) ⟨by simp only; omega, by simp only [hd1]; exact hA, by simp only [hd1]; exact hR, by simp only [hd1]; exact hI, sI.ins x1, n + x.con.nodes, by simp only [hd1]; omega, (sA3.cns x2).le (by omega), (sR3.rls x2).le (by omega)⟩ (by simp only; omega) ?_ (JDropH.next0 (TokExt.refl _) ⟨.inl ⟨rfl, rfl⟩, .inr OSub.mpS, .inr OSub.mpS, .inr OSub.mpS, True.intro⟩)
    ((try simp only[↓jr,jw,seval,DL]) <;> exact sbq)
  (try simp only[↓jr,jw,seval])
  rw [List.drop_eq_nil_of_le (by omega)] at hA hR hI hn
  simp only [ufA, ufR, ufI, consF, sumN] at hA hR hI hn
  have tA : Set64 A3 3000 := sA3.le (by omega)
  have tR : Set64 R3 3400 := sR3.le (by omega)
  have tI := sI.le (show k3 ≤ 200 by omega)
  rw [← hA, ← hR, ← hI]
  clear hA hR hI hn sA3 sR3 sI sA sR
  refine JLOOP.of (σ := Nat × List Int × List Int) (fun s => s.1 ≤ b.links.length ∧ ulR s.2.1 (b.links.drop s.1) = ulR R3 b.links ∧ ulI s.2.2 (b.links.drop s.1) = ulI I3 b.links ∧ Set64 s.2.1 (3400 + s.1) ∧ Set64 s.2.2 (200 + 2 * s.1)) (fun s => b.links.length - s.1)
    (fun s => [(76, I64 s.1), (75, I64 b.links.length), (74, .sl .none b.links.length (encs Lnk.enc b.links)), (1, .ptr (pid j.next 0) 0), (6, .mp (pid j.next 1)), (7, .mp (pid j.next 2)), (8, .mp (pid j.next 3))])
    (fun s => Pg.ext j [.cells 30 b.enc, .map (mpS A3), .map (mpS s.2.1), .map (mpS s.2.2)]) (0, R3, I3) ⟨Nat.zero_le _, rfl, rfl, tR, tI⟩ ?_ (JDropH.refl _) ?_
  · ((try simp only[↓jr,jw,seval,DL]) <;> exact sbq)
  rintro ⟨k4, R4, I4⟩ ⟨hk, hR, hI, sR4, sI4⟩
  simp only at hk hR hI sR4 sI4
  (try simp only[↓jr,jw,seval])
  refine wq.intro (fun g1 => ?_) (fun g1 => ?_)
  · have hlt : k4 < (b.links).length := by omega
    obtain ⟨x, r, hd⟩ : ∃ c_ l_, List.drop k4 (b.links) = c_ :: l_ := ⟨_, _, List.drop_eq_getElem_cons hlt⟩
    have hd1 : List.drop (k4 + 1) (b.links) = r := by rw [← List.drop_drop, hd]; rfl
    have hmem : x ∈ b.links := List.mem_of_mem_drop (hd ▸ List.mem_cons_self)
    rw [hd] at hR hI
    simp only [ulR, ulI] at hR hI
    obtain ⟨x1, x2, x3⟩ := hb.links x hmem
    (try simp only[↓jr,jw,seval,hd])
    refine wc.intro (by omega) ?_
    (try simp only[↓jr,jw,seval,hd])
    refine JMAPUP.ins (ks := R4) (by exact ext_get_new rfl) ?_
    (try simp only[↓jr,jw,seval])
    refine JMAPUP.ins (ks := I4) (by exact ext_get_new rfl) ?_
    (try simp only[↓jr,jw,seval])
    refine JMAPUP.ins (ks := insI I4 x.fr) (by exact ext_get_new rfl) ?_
    (try simp only[↓jr,jw,seval])
    refine JDRAW.oc (by (try simp only[↓jr,jw,seval,jq]) <;> (repeat' (first | exact trivial | refine And.intro ?_ ?_ | assumption | exact Nat.le_refl _ | exact uo1 | exact (fun h => absurd rfl h) | exact uo2 rfl (ext_get_new rfl) (ext_get_new rfl) | exact uo3 rfl | exact (fun _ _ => ⟨uo2 rfl (ext_get_new rfl) (ext_get_new rfl), fun h => absurd rfl h, fun h => absurd rfl h⟩)))) ?_
    (try simp only[↓jr,jw,seval])
    refine wc.intro (by unfold R64; omega) ?_
    (try simp only[↓jr,jw,seval])
    refine JNEXT.of (k4 + 1, insI R4 x.role, insI (insI I4 x.fr) x.to) ⟨by simp only; omega, by simp only [hd1]; exact hR, by simp only [hd1]; exact hI, (sR4.ins x1).le (by simp only; omega), ((sI4.ins x2).ins x3).le (by simp only; omega)⟩ (by simp only; omega) ?_ (JDropH.next0 (TokExt.refl _) ⟨.inl ⟨rfl, rfl⟩, .inl ⟨rfl, rfl⟩, .inr OSub.mpS, .inr OSub.mpS, True.intro⟩)
    ((try simp only[↓jr,jw,seval,DL]) <;> exact sbq)
  (try simp only[↓jr,jw,seval])
  rw [List.drop_eq_nil_of_le (by omega)] at hR hI
  simp only [ulR, ulI] at hR hI
  have uR : Set64 R4 3600 := sR4.le (by omega)
  have uI : Set64 I4 600 := sI4.le (by omega)
  rw [← hR, ← hI]
  clear hR hI
  refine JCs.ret (s_Sorted _ (pid j.next 1) A3 (by exact ext_get_new rfl) tA.nd (fun k hk => wf_R64 (tA.r k hk)) (by have := tA.l; omega)) ?_
  (try simp only[↓jr,jw,seval])
  refine JCs.ret (s_Sorted _ (pid j.next 2) R4 (by exact ext_get_new rfl) uR.nd (fun k hk => wf_R64 (uR.r k hk)) (by have := uR.l; omega)) ?_
  (try simp only[↓jr,jw,seval])
  refine JCs.ret (s_Sorted _ (pid j.next 3) I4 (by exact ext_get_new rfl) uI.nd (fun k hk => wf_R64 (uI.r k hk)) (by have := uI.l; omega)) ?_
  (try simp only[↓jr,jw,seval])
  refine JFIN.rb ?_
  have hl : ∀ ks, (srt ks).length = ks.length := fun ks => (List.mergeSort_perm _ _).length_eq
  have hi : ∀ l, AV.pures (ints l) = true := fun l => ints_pur l
  simp only [SLI, hl]
  exact SubB.tup ⟨SubB.sl rfl (SubBs.pure (hi _)), SubB.sl rfl (SubBs.pure (hi _)), SubB.sl rfl (SubBs.pure (hi _)), SubB.v, True.intro⟩
end
end Go.Proofs.YtcjlpklgnknpgaaGreatDoor.Pg
