/-
  slices.Grow and slices.Concat at lists of strings.
-/
import Derived.Test.YtcjlpklgnknpgaaGreatDoorLe
import Derived.Shelf.Spec.SlicesGrow
set_option linter.unusedVariables false
set_option linter.unusedSimpArgs false
set_option maxRecDepth 20000
set_option maxHeartbeats 8000000
namespace Go.Proofs.YtcjlpklgnknpgaaGreatDoor.Pg
open Go
def growRen : Go.Shelf.Ren := ⟨fun | 4 => 146 | n => n, fun | 25 => 9 | n => n, fun | n => n⟩
theorem growLay : Lays8.n4 Tryz.prog growRen := {
 mixed := by kernel_rfl
 f4 := ⟨Tryz.f146.name, by decide, Tryz.func146.trans (congrArg some (by kernel_rfl))⟩
 t0 := Tryz.underlying0
 a0 := Tryz.isAgg0
 z0 := Tryz.sizeOf0
 v0 := Tryz.zeroValue0
 t3 := Tryz.underlying3
 a3 := Tryz.isAgg3
 z3 := Tryz.sizeOf3
 v3 := Tryz.zeroValue3
 t4 := Tryz.underlying4
 a4 := Tryz.isAgg4
 z4 := Tryz.sizeOf4
 v4 := Tryz.zeroValue4
 t9 := Tryz.underlying9
 a9 := Tryz.isAgg9
 z9 := Tryz.sizeOf9
 v9 := Tryz.zeroValue9
 t20 := Tryz.underlying20
 a20 := Tryz.isAgg20
 z20 := Tryz.sizeOf20
 v20 := Tryz.zeroValue20
 t22 := Tryz.underlying22
 a22 := Tryz.isAgg22
 z22 := Tryz.sizeOf22
 v22 := Tryz.zeroValue22 }
theorem zero9 : (Tryz.prog.info? 9).map (fun i => (i.zero, i.size, i.bytes)) = some (some (.string ⟨#[]⟩), 1, 16) := by kernel_rfl
variable {m : GM}
theorem JAPP.can' {j0 j : JH} {objs : List AObj} {es bytes n m : Nat} {tok tok' : Tok} {cs cs' : List AV} {K : AV → JH → Prop} (h : CanApp j0 j tok es n) (ht : TokExt j0 j)
  (h1 : cs.length = n * es) (h2 : cs'.length = m * es) (h3 : cs'.all AV.one = true) (h4 : (n + m) * bytes ≤ 140737488355328) (h5 : n + m ≤ 9223372036854775807)
  (k : ∀ tok1 j1, CanApp j0 j1 tok1 es (n + m) → TokExt j0 j1 → j.tnext ≤ j1.tnext → K (.sl tok1 (n + m) (cs ++ cs')) (ext j1 objs)) : @JAPP (ext j objs) es bytes (.sl tok n cs) (.sl tok' m cs') ⟨K⟩ := by
 by_cases hm : m = 0
 ·subst hm
  have hc : cs' = [] := List.eq_nil_of_length_eq_zero (by rw [h2, Nat.zero_mul])
  subst hc
  refine ⟨⟨h1, h2, h3, h4, h5⟩, fun _ => ?_, fun e => absurd rfl e⟩
  have := k tok j h ht (Nat.le_refl _)
  simpa using this
 ·exact JAPP.can h ht h1 h2 h3 h4 h5 hm k
theorem s_Grow (n : Nat) (hn : n ≤ 1000000) {G : Nat → Option (List AV)} (j : JH) : JC Tryz.prog G 146 [.sl .nil 0 [], I64 n] (ext j []) (fun o j' => ∃ tok j1, CanApp j j1 tok 1 0 ∧ TokExt j j1 ∧ o = .ret (.sl tok 0 []) ∧ j' = ext j1 []) := by
 intro h hj B0 μ w us r hv
 simp only [Vs, V] at hv
 obtain ⟨u, us', rfl, ⟨rfl, _, _⟩, u2, us2, rfl, ⟨_, rfl⟩, rfl⟩ := hv
 obtain ⟨i0, hi0, hz⟩ := Option.map_eq_some_iff.1 zero9
 simp only [Prod.mk.injEq] at hz
 obtain ⟨hz1, hz2, hz3⟩ := hz
 by_cases h0 : n = 0
 ·subst h0
  have := Any8.slices_Grow_room growLay none 0 0 0 w (Nat.le_refl _) (by omega) (by omega) (by omega)
  refine this.mono ?_
  rintro e w' ⟨rfl, rfl⟩
  exact ⟨.ret (.sl .nil 0 []), h, ⟨.nil, j, CanApp.nil, TokExt.refl _, rfl, hj⟩, μ, Step.refl r, _, rfl, by simp [V]⟩
 ·have := Any8.slices_Grow_grow growLay i0 (.string ⟨#[]⟩) hi0 hz1 (by omega) none 0 0 n [] w (Nat.le_refl _) (by omega) (by rw [hz3]; omega) (by omega) (by simp) (fun _ => rfl) (fun a e => by cases e)
  refine this.mono ?_
  rintro e w' ⟨rfl, rfl⟩
  have hge := grownCap_ge w (0 + n) 0 9
  have hsz : ((#[] : Array Value) ++ Builtin.zeroCells (Value.cells (.string ⟨#[]⟩)) (0 + n - 0) ++ Builtin.zeroCells (Value.cells (.string ⟨#[]⟩)) (grownCap w (0 + n) 0 9 - (0 + n))).size = 0 * 1 + grownCap w (0 + n) 0 9 * 1 := by
   rw [Array.size_append, Array.size_append, size_zeroCells, size_zeroCells, show (Value.cells (.string ⟨#[]⟩)).size = 1 from rfl, Array.size_empty]; omega
  have st := step_new_row (w' := w.drew.alloc (.cells (#[] ++ Builtin.zeroCells (Value.cells (.string ⟨#[]⟩)) (0 + n - 0) ++ Builtin.zeroCells (Value.cells (.string ⟨#[]⟩)) (grownCap w (0 + n) 0 9 - (0 + n))) 9)) r ⟨rfl, rfl, rfl, rfl⟩ (t := h.tnext) (F := 0) (n := 0) (sz := 1) (sp := grownCap w (0 + n) 0 9) (cs := []) (h' := h.pushTok 0)
   rfl hsz (by simp [Vs]) ⟨rfl, rfl, fun x => AH.tok_pushTok h 0 x, Nat.le_succ _, Nat.lt_succ_self _⟩ (fun i hi => by rw [r.tnext _ (Nat.le_refl _)] at hi; cases hi) (.inl (Nat.le_refl _))
  obtain ⟨s1, s2, s3⟩ := st
  refine ⟨.ret (.sl (.own h.tnext 0 1) 0 []), h.pushTok 0, ⟨.own h.tnext 0 1, j.pushTok 0, .inr ⟨h.tnext, ?_, ?_, rfl, ?_⟩, (TokExt.refl _).push 0, rfl, by rw [AH.j_pushTok, hj, ext_pushTok]⟩, _, s1, _, rfl, ?_⟩
  ·have : h.tnext = j.tnext := congrArg JH.tnext hj
   omega
  ·have : h.tnext = j.tnext := congrArg JH.tnext hj
   show h.tnext < j.tnext + 1
   omega
  ·have : h.tnext = j.tnext := congrArg JH.tnext hj
   show (if h.tnext = j.tnext then some 0 else _) = _
   exact if_pos this
  ·simp only [V]
   exact ⟨_, _, _, _, rfl, Nat.zero_le _, s2, s3, rfl, Nat.zero_le _, fun _ => ⟨rfl, by simp, by rw [Nat.zero_add, Nat.zero_add]; rfl⟩⟩
noncomputable def ir102 : IFn := ⟨36, [⟨2, none⟩], (.seq (.reg [oA 2 (.mov (.k (.sl .nil 0 [])))]) (.seq (.reg [oA 3 (.mov (kI 0))]) (.seq (.seq (.reg [oA 9 (kM 0), oT 10 9 (.lenl (.r 9)), oA 11 (.mov (kI 0))]) (.block 0 (.loop (.seq (.reg [oA 12 (.bin .lss (.r 11) (.r 10))]) (.seq (.cond (.r 12) .skip (.exit 0)) (.seq (.block 1 (.seq (.reg [oA 13 (.iasl 1 (.r 9) (.r 11)), oL 14 13 none, oA 5 (kM 14)]) (.seq (.reg [oA 15 (kM 3), oA 16 (kM 5), oT 17 16 (.lenl (.r 16)), oA 18 (.bin .add (.r 15) (.r 17)), oA 3 (kM 18)]) (.seq (.reg [oA 19 (kM 3), oA 20 (.bin .lss (.r 19) (kI 0))]) (.cond (.r 20) (.reg [oA 21 (.mki 9 (.k (.v (.string ⟨#[108, 101, 110, 32, 111, 117, 116, 32, 111, 102, 32, 114, 97, 110, 103, 101]⟩)))), oN (.pan (.r 21))]) .skip))))) (.reg [oA 22 (.bin .add (.r 11) (kI 1)), oA 11 (kM 22)]))))))) (.seq (.reg [oA 23 (kM 3), oA 24 (.call 146 [.k (.sl .nil 0 []), .r 23]), oA 6 (kM 24)]) (.seq (.seq (.reg [oA 25 (kM 0), oT 26 25 (.lenl (.r 25)), oA 27 (.mov (kI 0))]) (.block 2 (.loop (.seq (.reg [oA 28 (.bin .lss (.r 27) (.r 26))]) (.seq (.cond (.r 28) .skip (.exit 2)) (.seq (.block 3 (.seq (.reg [oA 29 (.iasl 1 (.r 25) (.r 27)), oL 30 29 none, oA 8 (kM 30)]) (.reg [oA 31 (kM 6), oA 32 (kM 8), oA 33 (.app 1 16 (.r 31) (.r 32)), oA 6 (kM 33)]))) (.reg [oA 34 (.bin .add (.r 27) (kI 1)), oA 27 (kM 34)]))))))) (.seq (.reg [oA 35 (kM 6), oA 2 (kM 35)]) .ret))))))⟩
theorem c102 : cfunc Tryz.prog 102 = some ir102 := by kernel_rfl
theorem k102 : okIR (max 1 ir102.n) ir102.ir = true := by decide +kernel
theorem strs_one' : ∀ l : List ByteArray, (strs l).all AV.one = true
 | [] => rfl
 | s :: l => by rw [d_cons7, List.all_cons, strs_one' l]; rfl
theorem s_Concat (ls : List (List ByteArray)) (tok : Tok) {G : Nat → Option (List AV)} (j : JH) (h1 : ls.length < 1000000) (h2 : ls.flatten.length ≤ 1000000) :
  JC Tryz.prog G 102 [.sl tok ls.length (encs SE ls)] j (RET (.sl .none ls.flatten.length (strs ls.flatten)) j) := by
 refine JC.run hmix c102 (by exact k102) ?_
 (try simp only[↓jr,jw,seval,ir102])
 refine JLOOP.of (σ := Nat × Nat) (fun s => s.1 ≤ ls.length ∧ s.2 + (ls.drop s.1).flatten.length = ls.flatten.length) (fun s => ls.length - s.1)
   (fun s => [(11, I64 s.1), (10, I64 ls.length), (9, .sl .none ls.length (encs SE ls)), (3, I64 s.2), (0, .sl .none ls.length (encs SE ls))]) (fun s => ext j []) (0, 0) ⟨by omega, by simp⟩ ?_ (JDropH.refl _) ?_
 ·(try simp only[↓jr,jw,seval,DL])
  exact ⟨SubB.v, SubB.v, SubB.sl rfl (SubBs.pure (SE.pur _)), SubB.v, SubB.sl rfl (SubBs.pure (SE.pur _))⟩
 ·rintro ⟨k, x⟩ ⟨hk, hx⟩
  simp only at hk hx
  (try simp only[↓jr,jw,seval])
  refine wq.intro (fun q1 => ?_) (fun q1 => ?_)
  ·have hlt : k < (ls).length := by omega
   obtain ⟨l, r, hd⟩ : ∃ c_ l_, List.drop k (ls) = c_ :: l_ := ⟨_, _, List.drop_eq_getElem_cons hlt⟩
   have hd1 : List.drop (k + 1) (ls) = r := by rw [← List.drop_drop, hd]; rfl
   have hmem : l ∈ ls := List.mem_of_mem_drop (hd ▸ List.mem_cons_self)
   (try simp only[↓jr,jw,seval,hd,je])
   rw [hd, List.flatten_cons, List.length_append] at hx
   refine wc.intro (by omega) ?_
   (try simp only[↓jr,jw,seval,hd,je])
   refine wc.intro (by unfold R64; omega) ?_
   (try simp only[↓jr,jw,seval])
   refine wq.intro (fun q2 => ?_) (fun q2 => ?_)
   ·omega
   ·(try simp only[↓jr,jw,seval])
    refine wc.intro (by unfold R64; omega) ?_
    (try simp only[↓jr,jw,seval])
    refine JNEXT.of (k + 1, x + l.length) ⟨by simp only; omega, by simp only [hd1]; omega⟩ (by simp only; omega) ?_ (JDropH.refl _)
    (try simp only[↓jr,jw,seval,DL])
    exact ⟨SubB.v, SubB.v, SubB.pure (by simp only [AV.pure]; exact SE.pur _), SubB.v, SubB.pure (by simp only [AV.pure]; exact SE.pur _)⟩
  ·(try simp only[↓jr,jw,seval])
   rw [List.drop_eq_nil_of_le (by omega), List.flatten_nil, List.length_nil, Nat.add_zero] at hx
   subst hx
   refine JCs.use (s_Grow _ h2 _) ?_
   rintro o j' ⟨tk, j1, hcan, htk, rfl, rfl⟩
   (try simp only[↓jr,jw,seval])
   refine JLOOP.of (σ := Nat × List ByteArray × Tok × JH) (fun s => s.1 ≤ ls.length ∧ TokExt j s.2.2.2 ∧ CanApp j s.2.2.2 s.2.2.1 1 s.2.1.length ∧ s.2.1 ++ (ls.drop s.1).flatten = ls.flatten) (fun s => ls.length - s.1)
     (fun s => [(27, I64 s.1), (26, I64 ls.length), (25, .sl .none ls.length (encs SE ls)), (6, .sl s.2.2.1 s.2.1.length (strs s.2.1))]) (fun s => ext s.2.2.2 []) (0, [], tk, j1)
     ⟨by omega, htk, hcan, by simp⟩ ?_ (JDropH.refl _) ?_
   ·(try simp only[↓jr,jw,seval,DL])
    exact ⟨SubB.v, SubB.v, SubB.pure (by simp only [AV.pure]; exact SE.pur _), SubB.can hcan rfl⟩
   ·rintro ⟨i, ac, tk, jx⟩ ⟨hi, ht, hc, hJ⟩
    simp only at hi ht hc hJ
    (try simp only[↓jr,jw,seval])
    refine wq.intro (fun q3 => ?_) (fun q3 => ?_)
    ·have hlt : i < (ls).length := by omega
     obtain ⟨l, r, hd⟩ : ∃ c_ l_, List.drop i (ls) = c_ :: l_ := ⟨_, _, List.drop_eq_getElem_cons hlt⟩
     have hd1 : List.drop (i + 1) (ls) = r := by rw [← List.drop_drop, hd]; rfl
     have hmem : l ∈ ls := List.mem_of_mem_drop (hd ▸ List.mem_cons_self)
     (try simp only[↓jr,jw,seval,hd,je])
     rw [hd, List.flatten_cons] at hJ
     have hl2 : ac.length + l.length ≤ ls.flatten.length := by rw [← hJ, List.length_append, List.length_append]; omega
     refine wc.intro (by omega) ?_
     (try simp only[↓jr,jw,seval,hd,je])
     refine JAPP.can' hc ht (by rw [d_len7, Nat.mul_one]) (by rw [d_len7, Nat.mul_one]) (strs_one' _) (by omega) (by omega) ?_
     intro tok1 j2 hcan2 ht2 hle
     (try simp only[↓jr,jw,seval])
     refine wc.intro (by unfold R64; omega) ?_
     (try simp only[↓jr,jw,seval])
     have e1 : (ac ++ l).length = ac.length + l.length := by simp
     refine JNEXT.of (i + 1, ac ++ l, tok1, j2) ⟨by simp only; omega, ht2, by rw [e1]; exact hcan2, by simp only [hd1]; rw [List.append_assoc]; exact hJ⟩ (by simp only; omega) ?_ (JDropH.nextT ht ht2 (TokExt.refl _) hle (by simp only [LSub]))
     (try simp only[↓jr,jw,seval,DL,e1,strs_append])
     refine ⟨SubB.v, SubB.v, SubB.pure (by simp only [AV.pure]; exact SE.pur _), SubB.can hcan2 (by rw [pures_append, strs_pur, strs_pur]; rfl)⟩
    ·(try simp only[↓jr,jw,seval])
     rw [List.drop_eq_nil_of_le (by omega), List.flatten_nil, List.append_nil] at hJ
     refine JFIN.ret ((JDropH.back ht).of_ext) ?_
     rw [hJ]
     exact SubB.sl rfl (SubBs.pure (strs_pur _))
end Go.Proofs.YtcjlpklgnknpgaaGreatDoor.Pg
