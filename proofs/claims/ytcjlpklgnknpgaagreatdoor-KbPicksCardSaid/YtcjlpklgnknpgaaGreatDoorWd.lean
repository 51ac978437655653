/-
  The lines of axioms: the program.
-/
import Derived.Test.YtcjlpklgnknpgaaGreatDoorVa
import Derived.Test.YtcjlpklgnknpgaaGreatDoorUb
import Derived.Test.YtcjlpklgnknpgaaGreatDoorLj
set_option linter.unusedVariables false
set_option linter.unusedSimpArgs false
set_option maxRecDepth 100000
set_option maxHeartbeats 8000000
namespace Go.Proofs.YtcjlpklgnknpgaaGreatDoor.Pg
open Go
section
open Go
structure SmallN (n : Nms) : Prop where
 ok : n.ok
 c : ∀ s ∈ n.cs, s.size ≤ 100
 r : ∀ s ∈ n.rs, s.size ≤ 100
 i : ∀ s ∈ n.is, s.size ≤ 100
def AxOK (n : Nms) : Ax → Prop
 | .inc x => (x.sub.ok ∧ shaped n.cs.length n.rs.length x.sub = true ∧ x.sub.nodes ≤ 1000000) ∧ x.sup.ok ∧ shaped n.cs.length n.rs.length x.sup = true ∧ x.sup.nodes ≤ 1000000
 | .rol x => (0 ≤ x.sub ∧ x.sub < 2 * n.rs.length) ∧ 0 ≤ x.sup ∧ x.sup < 2 * n.rs.length
 | .fac x => (0 ≤ x.ind ∧ x.ind < n.is.length) ∧ x.con.ok ∧ shaped n.cs.length n.rs.length x.con = true ∧ x.con.nodes ≤ 1000000
 | .lnk x => (0 ≤ x.role ∧ x.role < n.rs.length) ∧ (0 ≤ x.fr ∧ x.fr < n.is.length) ∧ 0 ≤ x.to ∧ x.to < n.is.length
section
variable {G : Nat → Option (List AV)}
noncomputable def ir201 : IFn := ⟨15, [⟨4, none⟩], (.seq (.reg [oA 2 (.box 139 (.r 0)), oA 3 (.box 24 (.r 1)), oA 4 (.mov (.k (.v (.string ⟨#[]⟩))))]) (.seq (.draw [oL 5 3 (some 3), oA 6 (.fadr 0 (.r 2)), oL 7 6 (some 3), oA 8 (.call 202 [.r 5, .r 7]), oA 9 (.bin .add (.r 8) (.k (.v (.string ⟨#[32, 60, 32]⟩)))), oL 10 3 (some 3), oA 11 (.fadr 3 (.r 2)), oL 12 11 (some 3), oA 13 (.call 202 [.r 10, .r 12]), oA 14 (.bin .add (.r 9) (.r 13)), oA 4 (kM 14)] [(5, 3), (7, 3)]) .ret))⟩
theorem c201 : cfunc Tryz.prog 201 = some ir201 := by kernel_rfl
theorem k201 : okIR (max 2 ir201.n) ir201.ir = true := by decide +kernel
theorem s_inclText (n : Nms) (hn : SmallN n) (x : Inc) (hx : AxOK n (.inc x)) (j : JH) : JC Tryz.prog G 201 [.agg x.enc, .agg n.enc] j (RET (STR (Ax.str n (.inc x))) j) := by
 obtain ⟨⟨h1, h2, h3⟩, h4, h5, h6⟩ := hx
 have z1 := strC_size hn.c hn.r x.sub
 have z2 := strC_size hn.c hn.r x.sup
 refine JC.run hmix c201 (by exact k201) ?_
 (try simp only[↓jr,jw,seval,ir201])
 refine JDC.use (s_Text n.cs.length n.rs.length n rfl rfl hn.c hn.r hn.ok.1 hn.ok.2.1 x.sub _ h1 h2 h3) ?_
 (try simp only[↓jr,jw,seval])
 have q3 : (⟨#[32, 60, 32]⟩ : ByteArray).size = 3 := rfl
 refine wc.intro (by omega) ?_
 (try simp only[↓jr,jw,seval])
 refine JDC.use (s_Text n.cs.length n.rs.length n rfl rfl hn.c hn.r hn.ok.1 hn.ok.2.1 x.sup _ h4 h5 h6) ?_
 (try simp only[↓jr,jw,seval])
 refine wc.intro (by rw [ba_size_append]; omega) ?_
 (try simp only[↓jr,jw,seval])
 refine JDRAW.oc (by (try simp only[↓jr,jw,seval,jq]) <;> exact orq) ?_; (try simp only[↓jr,jw,seval])
 refine JFIN.rb ?_
 exact SubB.v
theorem nth_hd {l : List ByteArray} {i : Int} (h0 : 0 ≤ i) (h1 : i < l.length) : ∃ s r, l.drop i.toNat = s :: r ∧ nthS l i.toNat = s ∧ s ∈ l := by
 have h : i.toNat < l.length := by omega
 refine ⟨_, _, List.drop_eq_getElem_cons h, ?_, List.getElem_mem h⟩
 unfold nthS; rw [List.getElem?_eq_getElem h]; rfl
noncomputable def ir204 : IFn := ⟨16, [⟨4, none⟩], (.seq (.reg [oA 2 (.box 140 (.r 0)), oA 3 (.box 24 (.r 1)), oA 4 (.mov (.k (.v (.string ⟨#[]⟩))))]) (.seq (.draw [oL 5 3 (some 3), oA 6 (.fadr 0 (.r 2)), oL 7 6 none, oA 8 (.call 203 [.r 5, .r 7]), oA 9 (.bin .add (.k (.v (.string ⟨#[114, 111, 108, 101, 32]⟩))) (.r 8)), oA 10 (.bin .add (.r 9) (.k (.v (.string ⟨#[32, 60, 32]⟩)))), oL 11 3 (some 3), oA 12 (.fadr 1 (.r 2)), oL 13 12 none, oA 14 (.call 203 [.r 11, .r 13]), oA 15 (.bin .add (.r 10) (.r 14)), oA 4 (kM 15)] [(6, 3), (8, 3)]) .ret))⟩
theorem c204 : cfunc Tryz.prog 204 = some ir204 := by kernel_rfl
theorem k204 : okIR (max 2 ir204.n) ir204.ir = true := by decide +kernel
theorem s_roleText (n : Nms) (hn : SmallN n) (x : RIn) (hx : AxOK n (.rol x)) (j : JH) : JC Tryz.prog G 204 [.agg x.enc, .agg n.enc] j (RET (STR (Ax.str n (.rol x))) j) := by
 obtain ⟨⟨h1, h2⟩, h3, h4⟩ := hx
 have z1 := roleS_size (m := n) (r := x.sub) hn.r
 have z2 := roleS_size (m := n) (r := x.sup) hn.r
 have q3 : (⟨#[32, 60, 32]⟩ : ByteArray).size = 3 := rfl
 have q5 : (⟨#[114, 111, 108, 101, 32]⟩ : ByteArray).size = 5 := rfl
 refine JC.run hmix c204 (by exact k204) ?_
 (try simp only[↓jr,jw,seval,ir204])
 refine JDC.use (s_cRole n hn.r x.sub h1 h2 hn.ok.2.1 _) ?_
 (try simp only[↓jr,jw,seval])
 refine wc.intro (by omega) ?_
 (try simp only[↓jr,jw,seval])
 refine wc.intro (by rw [ba_size_append]; omega) ?_
 (try simp only[↓jr,jw,seval])
 refine JDC.use (s_cRole n hn.r x.sup h3 h4 hn.ok.2.1 _) ?_
 (try simp only[↓jr,jw,seval])
 refine wc.intro (by simp only [ba_size_append]; omega) ?_
 (try simp only[↓jr,jw,seval])
 refine JDRAW.oc (by (try simp only[↓jr,jw,seval,jq]) <;> exact orq) ?_; (try simp only[↓jr,jw,seval])
 refine JFIN.rb ?_
 exact SubB.v
noncomputable def ir205 : IFn := ⟨17, [⟨4, none⟩], (.seq (.reg [oA 2 (.box 141 (.r 0)), oA 3 (.box 24 (.r 1)), oA 4 (.mov (.k (.v (.string ⟨#[]⟩))))]) (.seq (.draw [oA 5 (.fadr 2 (.r 3)), oL 6 5 none, oA 7 (.fadr 0 (.r 2)), oL 8 7 none, oA 9 (.iasl 1 (.r 6) (.r 8)), oL 10 9 none, oA 11 (.bin .add (.r 10) (.k (.v (.string ⟨#[32, 58, 32]⟩)))), oL 12 3 (some 3), oA 13 (.fadr 1 (.r 2)), oL 14 13 (some 3), oA 15 (.call 202 [.r 12, .r 14]), oA 16 (.bin .add (.r 11) (.r 15)), oA 4 (kM 16)] [(1, 10), (3, 10), (5, 10)]) .ret))⟩
theorem c205 : cfunc Tryz.prog 205 = some ir205 := by kernel_rfl
theorem k205 : okIR (max 2 ir205.n) ir205.ir = true := by decide +kernel
theorem s_factText (n : Nms) (hn : SmallN n) (x : Fac) (hx : AxOK n (.fac x)) (j : JH) : JC Tryz.prog G 205 [.agg x.enc, .agg n.enc] j (RET (STR (Ax.str n (.fac x))) j) := by
 obtain ⟨⟨h1, h2⟩, h4, h5, h6⟩ := hx
 have z1 := strC_size hn.c hn.r x.con
 obtain ⟨s, r, hd, hs, hm⟩ := nth_hd h1 h2
 have z2 := hn.i s hm
 have q3 : (⟨#[32, 58, 32]⟩ : ByteArray).size = 3 := rfl
 have hl := hn.ok.2.2
 refine JC.run hmix c205 (by exact k205) ?_
 (try simp only[↓jr,jw,seval,ir205])
 (try simp only[↓jr,jw,seval,hd])
 refine wc.intro (by omega) ?_
 (try simp only[↓jr,jw,seval,hd])
 refine wc.intro (by omega) ?_
 (try simp only[↓jr,jw,seval,hd])
 refine JDC.use (s_Text n.cs.length n.rs.length n rfl rfl hn.c hn.r hn.ok.1 hn.ok.2.1 x.con _ h4 h5 h6) ?_
 (try simp only[↓jr,jw,seval])
 refine wc.intro (by rw [ba_size_append]; omega) ?_
 (try simp only[↓jr,jw,seval])
 refine JDRAW.oc (by (try simp only[↓jr,jw,seval,jq]) <;> exact orq) ?_; (try simp only[↓jr,jw,seval])
 refine JFIN.rb ?_
 simp only [Ax.str, hs]
 exact SubB.v
noncomputable def ir206 : IFn := ⟨28, [⟨4, none⟩], (.seq (.reg [oA 2 (.box 142 (.r 0)), oA 3 (.box 24 (.r 1)), oA 4 (.mov (.k (.v (.string ⟨#[]⟩))))]) (.seq (.draw [oA 5 (.fadr 2 (.r 3)), oL 6 5 none, oA 7 (.fadr 1 (.r 2)), oL 8 7 none, oA 9 (.iasl 1 (.r 6) (.r 8)), oL 10 9 none, oA 11 (.bin .add (.k (.v (.string ⟨#[40]⟩))) (.r 10)), oA 12 (.bin .add (.r 11) (.k (.v (.string ⟨#[44, 32]⟩)))), oA 13 (.fadr 2 (.r 3)), oL 14 13 none, oA 15 (.fadr 2 (.r 2)), oL 16 15 none, oA 17 (.iasl 1 (.r 14) (.r 16)), oL 18 17 none, oA 19 (.bin .add (.r 12) (.r 18)), oA 20 (.bin .add (.r 19) (.k (.v (.string ⟨#[41, 32, 58, 32]⟩)))), oA 21 (.fadr 1 (.r 3)), oL 22 21 none, oA 23 (.fadr 0 (.r 2)), oL 24 23 none, oA 25 (.iasl 1 (.r 22) (.r 24)), oL 26 25 none, oA 27 (.bin .add (.r 20) (.r 26)), oA 4 (kM 27)] []) .ret))⟩
theorem c206 : cfunc Tryz.prog 206 = some ir206 := by kernel_rfl
theorem k206 : okIR (max 2 ir206.n) ir206.ir = true := by decide +kernel
theorem s_linkText (n : Nms) (hn : SmallN n) (x : Lnk) (hx : AxOK n (.lnk x)) (j : JH) : JC Tryz.prog G 206 [.agg x.enc, .agg n.enc] j (RET (STR (Ax.str n (.lnk x))) j) := by
 obtain ⟨⟨h1, h2⟩, ⟨h3, h4⟩, h5, h6⟩ := hx
 obtain ⟨s, r, hd, hs, hm⟩ := nth_hd h1 h2
 obtain ⟨s1, r1, hd1, hs1, hm1⟩ := nth_hd h3 h4
 obtain ⟨s2, r2, hd2, hs2, hm2⟩ := nth_hd h5 h6
 have z1 := hn.r s hm
 have z2 := hn.i s1 hm1
 have z3 := hn.i s2 hm2
 have q1 : (⟨#[40]⟩ : ByteArray).size = 1 := rfl
 have q2 : (⟨#[44, 32]⟩ : ByteArray).size = 2 := rfl
 have q4 : (⟨#[41, 32, 58, 32]⟩ : ByteArray).size = 4 := rfl
 have hl := hn.ok.2.2
 have hl2 := hn.ok.2.1
 refine JC.run hmix c206 (by exact k206) ?_
 (try simp only[↓jr,jw,seval,ir206])
 (try simp only[↓jr,jw,seval,hd,hd1,hd2])
 refine wc.intro (by omega) ?_
 (try simp only[↓jr,jw,seval,hd,hd1,hd2])
 refine wc.intro (by omega) ?_
 (try simp only[↓jr,jw,seval,hd,hd1,hd2])
 refine wc.intro (by rw [ba_size_append]; omega) ?_
 (try simp only[↓jr,jw,seval,hd,hd1,hd2])
 refine wc.intro (by omega) ?_
 (try simp only[↓jr,jw,seval,hd,hd1,hd2])
 refine wc.intro (by simp only [ba_size_append]; omega) ?_
 (try simp only[↓jr,jw,seval,hd,hd1,hd2])
 refine wc.intro (by simp only [ba_size_append]; omega) ?_
 (try simp only[↓jr,jw,seval,hd,hd1,hd2])
 refine wc.intro (by omega) ?_
 (try simp only[↓jr,jw,seval,hd,hd1,hd2])
 refine wc.intro (by simp only [ba_size_append]; omega) ?_
 (try simp only[↓jr,jw,seval,hd,hd1,hd2])
 refine JDRAW.oc (by (try simp only[↓jr,jw,seval,jq]) <;> exact orq) ?_; (try simp only[↓jr,jw,seval])
 refine JFIN.rb ?_
 simp only [Ax.str, hs, hs1, hs2]
 exact SubB.v
end
end
section
open Go
theorem uo1 {j : JH} : ∀ ob : Nat, (none : Option Nat) = some ob → ob < j.next := fun _ q => by cases q
section
variable {m : GM}
end
end
section
open Go
end
section
open Go
theorem JAPP.ex {S : Nat → Prop} {j : JH} {tok : Tok} {es n : Nat} (h : CanP S j tok es n) (hS : ∀ t, S t → t < j.tnext) (m : Nat) : ∃ tok1 j1, CanP S j1 tok1 es (n + m) ∧ TokP S j j1 ∧
  ∀ {objs : List AObj} {bytes : Nat} {tok' : Tok} {cs cs' : List AV} {K : AV → JH → Prop}, cs.length = n * es → cs'.length = m * es → cs'.all AV.one = true → (n + m) * bytes ≤ 140737488355328 → n + m ≤ 9223372036854775807 →
   K (.sl tok1 (n + m) (cs ++ cs')) (ext j1 objs) → @JAPP (ext j objs) es bytes (.sl tok n cs) (.sl tok' m cs') ⟨K⟩ := by
 by_cases hm : m = 0
 ·subst hm
  refine ⟨tok, j, h, TokP.refl hS, ?_⟩
  intro objs bytes tok' cs cs' K h1 h2 h3 h4 h5 k
  have hc : cs' = [] := List.eq_nil_of_length_eq_zero (by rw [h2, Nat.zero_mul])
  subst hc
  refine ⟨⟨h1, h2, h3, h4, h5⟩, fun _ => ?_, fun e => absurd rfl e⟩
  simpa using k
 ·rcases h with ⟨rfl, rfl⟩ | ⟨t, q1, q2, rfl, q4⟩
  ·refine ⟨.own j.tnext 0 es, j.pushTok m, .inr ⟨j.tnext, fun q => absurd (hS _ q) (Nat.lt_irrefl _), Nat.lt_succ_self _, rfl, by show (if j.tnext = j.tnext then some m else _) = _; rw [if_pos rfl, Nat.zero_add]⟩, (TokP.refl hS).push m, ?_⟩
   intro objs bytes tok' cs cs' K h1 h2 h3 h4 h5 k
   have hcs : cs = [] := List.eq_nil_of_length_eq_zero (by rw [h1, Nat.zero_mul])
   subst hcs
   refine ⟨⟨h1, h2, h3, h4, h5⟩, fun e => absurd e hm, fun _ => ?_⟩
   rw [Nat.zero_add] at k; exact k
  ·refine ⟨.own t 0 es, j.setTok t (n + m), .inr ⟨t, q1, q2, rfl, by show (if t = t then some (n + m) else _) = _; rw [if_pos rfl]⟩, (TokP.refl hS).setT q1 _, ?_⟩
   intro objs bytes tok' cs cs' K h1 h2 h3 h4 h5 k
   refine ⟨⟨h1, h2, h3, h4, h5⟩, fun e => absurd e hm, fun _ => ⟨⟨by rw [ext_tok, Nat.zero_add]; exact q4, rfl⟩, ?_⟩⟩
   rw [Nat.zero_add]; exact k
section
variable {G : Nat → Option (List AV)}
end
section
variable {G : Nat → Option (List AV)}
end
end
end Go.Proofs.YtcjlpklgnknpgaaGreatDoor.Pg
