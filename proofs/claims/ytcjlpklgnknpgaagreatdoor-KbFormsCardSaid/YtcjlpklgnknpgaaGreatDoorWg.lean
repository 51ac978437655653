/-
  The names that a knowledge base uses: the reference.
-/
import Derived.Test.YtcjlpklgnknpgaaGreatDoorWf
import Derived.Test.YtcjlpklgnknpgaaGreatDoorLj
set_option linter.unusedVariables false
set_option linter.unusedSimpArgs false
set_option maxRecDepth 100000
set_option maxHeartbeats 8000000
namespace Go.Proofs.YtcjlpklgnknpgaaGreatDoor.Pg
open Go
theorem wcA_len : ∀ (l : List Con) (a : List Int), (wcA a l).length ≤ a.length + sumN l
  | [], a => by simp [wcA]
  | c :: l, a => by
    have h1 := wcA_len l (rcI a (pre c))
    have h2 := rcI_len (pre c) a
    rw [pre_len] at h2
    simp only [wcA, sumN]; omega
theorem wcR_len : ∀ (l : List Con) (a : List Int), (wcR a l).length ≤ a.length + sumN l
  | [], a => by simp [wcR]
  | c :: l, a => by
    have h1 := wcR_len l (rrI a (pre c))
    have h2 := rrI_len (pre c) a
    rw [pre_len] at h2
    simp only [wcR, sumN]; omega
theorem wrR_len : ∀ (l : List RIn) (a : List Int), (wrR a l).length ≤ a.length + 2 * l.length
  | [], a => by simp [wrR]
  | x :: l, a => by
    have h1 := wrR_len l (insR (insR a (x.sub.tdiv 2)) (x.sup.tdiv 2))
    have h2 := insR_len a (x.sub.tdiv 2)
    have h3 := insR_len (insR a (x.sub.tdiv 2)) (x.sup.tdiv 2)
    simp only [wrR, List.length_cons]; omega
/-- How a row grows is determined. -/
theorem JAPP.ex {S : Nat → Prop} {j : JH} {tok : Tok} {es n : Nat} (h : CanP S j tok es n) (hS : ∀ t, S t → t < j.tnext) (m : Nat) : ∃ tok1 j1, CanP S j1 tok1 es (n + m) ∧ TokP S j j1 ∧
    ∀ {objs : List AObj} {bytes : Nat} {tok' : Tok} {cs cs' : List AV} {K : AV → JH → Prop}, cs.length = n * es → cs'.length = m * es → cs'.all AV.one = true → (n + m) * bytes ≤ 140737488355328 → n + m ≤ 9223372036854775807 →
      K (.sl tok1 (n + m) (cs ++ cs')) (ext j1 objs) → @JAPP (ext j objs) es bytes (.sl tok n cs) (.sl tok' m cs') ⟨K⟩ := by
  by_cases hm : m = 0
  · subst hm
    refine ⟨tok, j, h, TokP.refl hS, ?_⟩
    intro objs bytes tok' cs cs' K h1 h2 h3 h4 h5 k
    have hc : cs' = [] := List.eq_nil_of_length_eq_zero (by rw [h2, Nat.zero_mul])
    subst hc
    refine ⟨⟨h1, h2, h3, h4, h5⟩, fun _ => ?_, fun e => absurd rfl e⟩
    simpa using k
  · rcases h with ⟨rfl, rfl⟩ | ⟨t, q1, q2, rfl, q4⟩
    · refine ⟨.own j.tnext 0 es, j.pushTok m, .inr ⟨j.tnext, fun q => absurd (hS _ q) (Nat.lt_irrefl _), Nat.lt_succ_self _, rfl, by show (if j.tnext = j.tnext then some m else _) = _; rw [if_pos rfl, Nat.zero_add]⟩, (TokP.refl hS).push m, ?_⟩
      intro objs bytes tok' cs cs' K h1 h2 h3 h4 h5 k
      have hcs : cs = [] := List.eq_nil_of_length_eq_zero (by rw [h1, Nat.zero_mul])
      subst hcs
      refine ⟨⟨h1, h2, h3, h4, h5⟩, fun e => absurd e hm, fun _ => ?_⟩
      rw [Nat.zero_add] at k; exact k
    · refine ⟨.own t 0 es, j.setTok t (n + m), .inr ⟨t, q1, q2, rfl, by show (if t = t then some (n + m) else _) = _; rw [if_pos rfl]⟩, (TokP.refl hS).setT q1 _, ?_⟩
      intro objs bytes tok' cs cs' K h1 h2 h3 h4 h5 k
      refine ⟨⟨h1, h2, h3, h4, h5⟩, fun e => absurd e hm, fun _ => ⟨⟨by rw [ext_tok, Nat.zero_add]; exact q4, rfl⟩, ?_⟩⟩
      rw [Nat.zero_add]; exact k
/-- Where a number belongs. -/
theorem ins_cases (l : List Int) (n : Int) : (∃ k x r, k < l.length ∧ l.drop k = x :: r ∧ (∀ y ∈ l.take k, y < n) ∧ x = n ∧ insR l n = l) ∨ (∃ k x r, k < l.length ∧ l.drop k = x :: r ∧ (∀ y ∈ l.take k, y < n) ∧ n < x ∧ insR l n = l.take k ++ [n] ++ l.drop k) ∨ ((∀ y ∈ l, y < n) ∧ insR l n = l ++ [n]) := by
  induction l with
  | nil => exact .inr (.inr ⟨fun y h => (by cases h), rfl⟩)
  | cons x l ih =>
    by_cases h1 : x = n
    · exact .inl ⟨0, x, l, by simp, rfl, fun y h => by simp at h, h1, by simp [insR, h1]⟩
    · by_cases h2 : n < x
      · exact .inr (.inl ⟨0, x, l, by simp, rfl, fun y h => by simp at h, h2, by simp [insR, h1, h2]⟩)
      · have hx : x < n := by omega
        have e : insR (x :: l) n = x :: insR l n := by simp [insR, h1, h2]
        rcases ih with ⟨k, y, r, a1, a2, a3, a4, a5⟩ | ⟨k, y, r, a1, a2, a3, a4, a5⟩ | ⟨a1, a2⟩
        · exact .inl ⟨k + 1, y, r, by simpa using a1, a2, fun z hz => by simp only [List.take_succ_cons, List.mem_cons] at hz; rcases hz with rfl | hz; exact hx; exact a3 z hz, a4, by rw [e, a5]⟩
        · exact .inr (.inl ⟨k + 1, y, r, by simpa using a1, a2, fun z hz => by simp only [List.take_succ_cons, List.mem_cons] at hz; rcases hz with rfl | hz; exact hx; exact a3 z hz, a4, by rw [e, a5]; simp⟩)
        · exact .inr (.inr ⟨fun z hz => by rcases List.mem_cons.1 hz with rfl | hz; exact hx; exact a1 z hz, by rw [e, a2]; simp⟩)
theorem take_lt {l : List Int} {k i : Nat} {x : Int} {r : List Int} {n : Int} (h : ∀ y ∈ l.take k, y < n) (hi : i < k) (hd : l.drop i = x :: r) : x < n := by
  apply h
  have h1 : l[i]? = some x := by rw [← List.head?_drop, hd]; rfl
  exact List.mem_of_getElem? (i := i) (by rw [List.getElem?_take, if_pos hi]; exact h1)
section
variable {G : Nat → Option (List AV)}
/-- Insert, its answer determined. -/
theorem s_InsertD (S : Nat → Prop) (l : List Int) (n : Int) (tok : Tok) (j : JH) (hc : CanP S j tok 1 l.length) (hS : ∀ t, S t → t < j.tnext) (hl : l.length ≤ 1000000) (hn : R64 n) :
    ∃ tok1 j1, CanP S j1 tok1 1 (insR l n).length ∧ TokP S j j1 ∧ JC Tryz.prog G 66 [.sl tok l.length (ints l), I64 n] j (RET (.sl tok1 (insR l n).length (ints (insR l n))) (Pg.ext j1 [])) := by
  rcases ins_cases l n with ⟨k, x, r, hk, hdk, hlo, hx, hI⟩ | ⟨k, x, r, hk, hdk, hlo, hx, hI⟩ | ⟨hlo, hI⟩
  · refine ⟨tok, j, by rw [hI]; exact hc, TokP.refl hS, ?_⟩
    rw [hI]
    refine JC.run hmix c66 (by exact k66) ?_
    (try simp only[↓jr,jw,seval,ints_dr,ints_co,ints_le,ir66])
    refine JLOOP.of (σ := Nat) (fun i => i ≤ k) (fun i => l.length - i) (fun k => [(9, I64 k), (8, I64 l.length), (7, .sl .none l.length (ints l)), (0, .sl tok l.length (ints l)), (1, I64 n)]) (fun k => ext j []) 0 (Nat.zero_le _) ?_ (JDropH.refl _) ?_
    · (try simp only[↓jr,jw,seval,ints_dr,ints_co,ints_le,DL])
      exact ⟨SubB.v, SubB.v, SubB.sl rfl (SubBs.pure (ints_pur _)), SubB.canP hc (ints_pur _), SubB.v⟩
    intro i hi
    (try simp only[↓jr,jw,seval,ints_dr,ints_co,ints_le])
    refine wq.intro (fun q1 => ?_) (fun q1 => by omega)
    have hlt : i < (l).length := by omega
    obtain ⟨y, u, hd⟩ : ∃ c_ l_, List.drop i (l) = c_ :: l_ := ⟨_, _, List.drop_eq_getElem_cons hlt⟩
    have hd1 : List.drop (i + 1) (l) = u := by rw [← List.drop_drop, hd]; rfl
    have hmem : y ∈ l := List.mem_of_mem_drop (hd ▸ List.mem_cons_self)
    (try simp only[↓jr,jw,seval,ints_dr,ints_co,ints_le,hd])
    refine wc.intro (by omega) ?_
    (try simp only[↓jr,jw,seval,ints_dr,ints_co,ints_le,hd])
    have hyx : i = k → y = x := fun e => by subst e; rw [hd] at hdk; cases hdk; rfl
    refine wq.intro (fun e1 => ?_) (fun e1 => ?_)
    · (try simp only[↓jr,jw,seval,ints_dr,ints_co,ints_le])
      exact JFIN.of (JDropH.refl' (j0 := j) (j := j) (l := [])) (SubB.canP hc (ints_pur _)) ⟨rfl, rfl⟩
    have hik : i < k := by
      rcases Nat.lt_or_ge i k with q | q
      · exact q
      · exact absurd ((hyx (by omega)).trans hx) e1
    (try simp only[↓jr,jw,seval,ints_dr,ints_co,ints_le])
    have hyn := take_lt hlo hik hd
    refine wq.intro (fun e2 => absurd e2 (by omega)) (fun e2 => ?_)
    (try simp only[↓jr,jw,seval,ints_dr,ints_co,ints_le])
    refine wc.intro (R64_add hlt (by omega)) ?_
    (try simp only[↓jr,jw,seval,ints_dr,ints_co,ints_le])
    refine JNEXT.of (i + 1) (by omega) (by omega) ?_ JDropH.nx
    (try simp only[↓jr,jw,seval,ints_dr,ints_co,ints_le,DL])
    exact ⟨SubB.v, SubB.v, SubB.sl rfl (SubBs.pure (ints_pur _)), SubB.canP hc (ints_pur _), SubB.v⟩
  · have hS' : ∀ t, (S t ∨ t = j.tnext) → t < (j.pushTok 1).tnext := fun t q => by
      rcases q with q | rfl
      · exact Nat.lt_succ_of_lt (hS t q)
      · exact Nat.lt_succ_self _
    obtain ⟨t, hS1, ht, rfl, htk⟩ : ∃ t, ¬ S t ∧ t < j.tnext ∧ tok = .own t 0 1 ∧ j.tok t = some l.length := by
      rcases hc with ⟨_, h⟩ | h
      · omega
      · exact h
    obtain ⟨tok1, j1, h1, h2, k1⟩ := JAPP.ex (S := fun t => S t ∨ t = j.tnext) (j := j.pushTok 1) (tok := .nil) (es := 1) CanP.nil hS' k
    obtain ⟨tok2, j2, h3, h4, k2⟩ := JAPP.ex h1 (fun t q => Nat.lt_of_lt_of_le (hS' t q) h2.tnext) 1
    obtain ⟨tok3, j3, h5, h6, k3⟩ := JAPP.ex h3 (fun t q => Nat.lt_of_lt_of_le (Nat.lt_of_lt_of_le (hS' t q) h2.tnext) h4.tnext) (l.length - k)
    simp only [Nat.zero_add] at h1 k1 h3 k2 h5 k3
    have hlk : k + 1 + (l.length - k) = (insR l n).length := by rw [hI]; simp; omega
    have h7 : TokP S j j3 := (TokP.push (TokP.refl hS) 1).trans ((h2.trans (h4.trans h6)).sub fun t q => .inl q)
    have h8 := h2.tok j.tnext (.inr rfl)
    have n2 := h2.next
    have n4 := h4.next
    have n6 := h6.next
    have t2 := h2.tnext
    have t4 := h4.tnext
    have t6 := h6.tnext
    refine ⟨tok3, j3, by rw [← hlk]; exact h5.low (fun t q => .inl q), h7, ?_⟩
    have e1 : ints (l.take k) ++ [I64 n] ++ ints (l.drop k) = ints (insR l n) := by rw [hI, show [I64 n] = ints [n] from rfl, ints_ap, ints_ap]
    rw [← e1, ← hlk]
    refine JC.run hmix c66 (by exact k66) ?_
    (try simp only[↓jr,jw,seval,ints_dr,ints_co,ints_le,ir66])
    refine JLOOP.of (σ := Nat) (fun i => i ≤ k) (fun i => l.length - i) (fun k => [(9, I64 k), (8, I64 l.length), (7, .sl .none l.length (ints l)), (0, .sl (.own t 0 1) l.length (ints l)), (1, I64 n)]) (fun k => ext j []) 0 (Nat.zero_le _) ?_ (JDropH.refl _) ?_
    · (try simp only[↓jr,jw,seval,ints_dr,ints_co,ints_le,DL])
      exact ⟨SubB.v, SubB.v, SubB.sl rfl (SubBs.pure (ints_pur _)), SubB.canP (S := S) (.inr ⟨t, hS1, ht, rfl, htk⟩) (ints_pur _), SubB.v⟩
    intro i hi
    (try simp only[↓jr,jw,seval,ints_dr,ints_co,ints_le])
    refine wq.intro (fun q1 => ?_) (fun q1 => by omega)
    have hlt : i < (l).length := by omega
    obtain ⟨y, u, hd⟩ : ∃ c_ l_, List.drop i (l) = c_ :: l_ := ⟨_, _, List.drop_eq_getElem_cons hlt⟩
    have hd1 : List.drop (i + 1) (l) = u := by rw [← List.drop_drop, hd]; rfl
    have hmem : y ∈ l := List.mem_of_mem_drop (hd ▸ List.mem_cons_self)
    (try simp only[↓jr,jw,seval,ints_dr,ints_co,ints_le,hd])
    refine wc.intro (by omega) ?_
    (try simp only[↓jr,jw,seval,ints_dr,ints_co,ints_le,hd])
    have hyx : i = k → y = x := fun e => by subst e; rw [hd] at hdk; cases hdk; rfl
    refine wq.intro (fun e1 => ?_) (fun e1 => ?_)
    · exfalso
      rcases Nat.lt_or_ge i k with q | q
      · have := take_lt hlo q hd; omega
      · have := hyx (by omega); omega
    (try simp only[↓jr,jw,seval,ints_dr,ints_co,ints_le])
    refine wq.intro (fun e2 => ?_) (fun e2 => ?_)
    · have hik : i = k := by
        rcases Nat.lt_or_ge i k with q | q
        · have := take_lt hlo q hd; omega
        · omega
      subst hik
      (try simp only[↓jr,jw,seval,ints_dr,ints_co,ints_le])
      have q1' : i < l.length := hlt
      rw [islc_lo q1' ints_le]
      (try simp only[↓jr,jw,seval,ints_dr,ints_co,ints_le])
      rw [islc_hi q1' ints_le]
      (try simp only[↓jr,jw,seval,ints_dr,ints_co,ints_le])
      rw [ints_tk]
      refine k1 rfl (by rw [ints_le, List.length_take]; omega) (ints_on _) (by omega) (by omega) ?_
      rw [List.nil_append]
      (try simp only[↓jr,jw,seval,ints_dr,ints_co,ints_le])
      refine k2 (by rw [ints_le, List.length_take]; omega) rfl rfl (by omega) (by omega) ?_
      (try simp only[↓jr,jw,seval,ints_dr,ints_co,ints_le])
      refine k3 (by rw [List.length_append, ints_le, List.length_take]; simp; omega) (by rw [ints_le, List.length_drop]; omega) (ints_on (l.drop i)) (by omega) (by omega) ?_
      (try simp only[↓jr,jw,seval,ints_dr,ints_co,ints_le,n2,n4,n6,pushTok_next])
      refine JDRAW.oc (by (try simp only[↓jr,jw,seval,ints_dr,ints_co,ints_le,jq,qe2,qe3,ext_next,ext_tnext,pushTok_next,List.length_cons,List.length_nil,n2,n4,n6]) <;> (repeat' (first | exact trivial | exact pr_tokq h8 | refine And.intro ?_ ?_ | exact Nat.le_refl _ | assumption | omega | (unfold pid; omega)))) ?_
      (try simp only[↓jr,jw,seval,ints_dr,ints_co,ints_le])
      exact JFIN.of (JDropH.tokP h7) (SubB.canP (h5.low (S' := S) fun t q => .inl q) (by rw [e1]; exact ints_pur _)) ⟨rfl, rfl⟩
    have hik : i < k := by
      rcases Nat.lt_or_ge i k with q | q
      · exact q
      · have := hyx (by omega); omega
    (try simp only[↓jr,jw,seval,ints_dr,ints_co,ints_le])
    refine wc.intro (R64_add hlt (by omega)) ?_
    (try simp only[↓jr,jw,seval,ints_dr,ints_co,ints_le])
    refine JNEXT.of (i + 1) (by omega) (by omega) ?_ JDropH.nx
    (try simp only[↓jr,jw,seval,ints_dr,ints_co,ints_le,DL])
    exact ⟨SubB.v, SubB.v, SubB.sl rfl (SubBs.pure (ints_pur _)), SubB.canP (S := S) (.inr ⟨t, hS1, ht, rfl, htk⟩) (ints_pur _), SubB.v⟩
  · obtain ⟨tok1, j1, h1, h2, k1⟩ := JAPP.ex (j := j.pushTok 1) hc.push (fun t q => Nat.lt_succ_of_lt (hS t q)) 1
    have h2' : TokP S j j1 := (TokP.push (TokP.refl hS) 1).trans ⟨h2.next, h2.get, h2.tnext, h2.tok, h2.lo⟩
    have e1 : ints l ++ [I64 n] = ints (insR l n) := by rw [hI]; exact ints_ap (b := [n])
    have e2 : l.length + 1 = (insR l n).length := by rw [hI]; simp
    refine ⟨tok1, j1, by rw [← e2]; exact h1, h2', ?_⟩
    rw [← e1, ← e2]
    refine JC.run hmix c66 (by exact k66) ?_
    (try simp only[↓jr,jw,seval,ints_dr,ints_co,ints_le,ir66])
    refine JLOOP.of (σ := Nat) (fun i => i ≤ l.length) (fun i => l.length - i) (fun k => [(9, I64 k), (8, I64 l.length), (7, .sl .none l.length (ints l)), (0, .sl tok l.length (ints l)), (1, I64 n)]) (fun k => ext j []) 0 (Nat.zero_le _) ?_ (JDropH.refl _) ?_
    · (try simp only[↓jr,jw,seval,ints_dr,ints_co,ints_le,DL])
      exact ⟨SubB.v, SubB.v, SubB.sl rfl (SubBs.pure (ints_pur _)), SubB.canP hc (ints_pur _), SubB.v⟩
    intro i hi
    (try simp only[↓jr,jw,seval,ints_dr,ints_co,ints_le])
    refine wq.intro (fun q1 => ?_) (fun q1 => ?_)
    · have hlt : i < (l).length := by omega
      obtain ⟨y, u, hd⟩ : ∃ c_ l_, List.drop i (l) = c_ :: l_ := ⟨_, _, List.drop_eq_getElem_cons hlt⟩
      have hd1 : List.drop (i + 1) (l) = u := by rw [← List.drop_drop, hd]; rfl
      have hmem : y ∈ l := List.mem_of_mem_drop (hd ▸ List.mem_cons_self)
      have hyn : y < n := hlo y hmem
      (try simp only[↓jr,jw,seval,ints_dr,ints_co,ints_le,hd])
      refine wc.intro (by omega) ?_
      (try simp only[↓jr,jw,seval,ints_dr,ints_co,ints_le,hd])
      refine wq.intro (fun e1 => absurd e1 (by omega)) (fun e1 => ?_)
      (try simp only[↓jr,jw,seval,ints_dr,ints_co,ints_le])
      refine wq.intro (fun e2 => absurd e2 (by omega)) (fun e2 => ?_)
      (try simp only[↓jr,jw,seval,ints_dr,ints_co,ints_le])
      refine wc.intro (R64_add hlt (by omega)) ?_
      (try simp only[↓jr,jw,seval,ints_dr,ints_co,ints_le])
      refine JNEXT.of (i + 1) (by omega) (by omega) ?_ JDropH.nx
      (try simp only[↓jr,jw,seval,ints_dr,ints_co,ints_le,DL])
      exact ⟨SubB.v, SubB.v, SubB.sl rfl (SubBs.pure (ints_pur _)), SubB.canP hc (ints_pur _), SubB.v⟩
    · (try simp only[↓jr,jw,seval,ints_dr,ints_co,ints_le])
      refine k1 (by simp [ints]) rfl rfl (by omega) (by omega) ?_
      (try simp only[↓jr,jw,seval,ints_dr,ints_co,ints_le])
      exact JFIN.of (JDropH.tokP h2') (SubB.canP h1 (by rw [e1]; exact ints_pur _)) ⟨rfl, rfl⟩
end
section
variable {G : Nat → Option (List AV)}
noncomputable def ir27 : IFn := ⟨79, [⟨2, none⟩, ⟨3, none⟩, ⟨4, none⟩], (.seq (.reg [oA 1 (.box 30 (.r 0)), oA 2 (.mov (.k (.sl .nil 0 []))), oA 3 (.mov (.k (.sl .nil 0 []))), oA 4 (.mov (.k (.sl .nil 0 [])))]) (.seq (.seq (.reg [oL 13 1 (some 7), oT 14 13 (.call 32 [.r 13]), oT 15 14 (.lenl (.r 14)), oA 16 (.mov (kI 0))]) (.block 0 (.loop (.seq (.reg [oA 17 (.bin .lss (.r 16) (.r 15))]) (.seq (.cond (.r 17) .skip (.exit 0)) (.seq (.block 1 (.seq (.reg [oA 18 (.iasl 3 (.r 14) (.r 16)), oL 19 18 (some 3), oA 6 (.alloc 71 [.v (.int .i64 0), .v (.int .i64 0), .sl .nil 0 []]), oN (.store 3 (.r 6) (.r 19))]) (.reg [oL 21 6 (some 3), oA 22 (kM 2), oA 23 (kM 3), oA 24 (.call 65 [.r 21, .r 22, .r 23]), oA 20 (kM 24), oA 25 (.ext (.r 20) 0), oA 26 (.ext (.r 20) 1), oA 2 (kM 25), oA 3 (kM 26)]))) (.reg [oA 27 (.bin .add (.r 16) (kI 1)), oA 16 (kM 27)]))))))) (.seq (.seq (.reg [oA 28 (.fadr 4 (.r 1)), oL 29 28 none, oT 30 29 (.lenl (.r 29)), oA 31 (.mov (kI 0))]) (.block 2 (.loop (.seq (.reg [oA 32 (.bin .lss (.r 31) (.r 30))]) (.seq (.cond (.r 32) .skip (.exit 2)) (.seq (.block 3 (.seq (.reg [oA 33 (.iasl 2 (.r 29) (.r 31)), oL 34 33 (some 2), oA 8 (.alloc 116 [.v (.int .i64 0), .v (.int .i64 0)]), oN (.store 2 (.r 8) (.r 34))]) (.draw [oA 35 (kM 3), oA 36 (.fadr 0 (.r 8)), oL 37 36 none, oA 38 (.bin .quo (.r 37) (kI 2)), oA 39 (.call 66 [.r 35, .r 38]), oA 40 (.fadr 1 (.r 8)), oL 41 40 none, oA 42 (.bin .quo (.r 41) (kI 2)), oA 43 (.call 66 [.r 39, .r 42]), oA 3 (kM 43)] [(6, 4)]))) (.reg [oA 44 (.bin .add (.r 31) (kI 1)), oA 31 (kM 44)]))))))) (.seq (.seq (.reg [oA 45 (.fadr 5 (.r 1)), oL 46 45 none, oT 47 46 (.lenl (.r 46)), oA 48 (.mov (kI 0))]) (.block 4 (.loop (.seq (.reg [oA 49 (.bin .lss (.r 48) (.r 47))]) (.seq (.cond (.r 49) .skip (.exit 4)) (.seq (.block 5 (.seq (.reg [oA 50 (.iasl 4 (.r 46) (.r 48)), oL 51 50 (some 4), oA 10 (.alloc 118 [.v (.int .i64 0), .v (.int .i64 0), .v (.int .i64 0), .sl .nil 0 []]), oN (.store 4 (.r 10) (.r 51))]) (.reg [oA 52 (kM 4), oA 53 (.fadr 0 (.r 10)), oL 54 53 none, oA 55 (.call 66 [.r 52, .r 54]), oA 4 (kM 55)]))) (.reg [oA 56 (.bin .add (.r 48) (kI 1)), oA 48 (kM 56)]))))))) (.seq (.seq (.reg [oA 57 (.fadr 6 (.r 1)), oL 58 57 none, oT 59 58 (.lenl (.r 58)), oA 60 (.mov (kI 0))]) (.block 6 (.loop (.seq (.reg [oA 61 (.bin .lss (.r 60) (.r 59))]) (.seq (.cond (.r 61) .skip (.exit 6)) (.seq (.block 7 (.seq (.reg [oA 62 (.iasl 3 (.r 58) (.r 60)), oL 63 62 (some 3), oA 12 (.alloc 120 [.v (.int .i64 0), .v (.int .i64 0), .v (.int .i64 0)]), oN (.store 3 (.r 12) (.r 63))]) (.seq (.reg [oA 64 (kM 3), oA 65 (.fadr 0 (.r 12)), oL 66 65 none, oA 67 (.call 66 [.r 64, .r 66]), oA 3 (kM 67)]) (.draw [oA 68 (kM 4), oA 69 (.fadr 1 (.r 12)), oL 70 69 none, oA 71 (.call 66 [.r 68, .r 70]), oA 72 (.fadr 2 (.r 12)), oL 73 72 none, oA 74 (.call 66 [.r 71, .r 73]), oA 4 (kM 74)] [(5, 3)])))) (.reg [oA 75 (.bin .add (.r 60) (kI 1)), oA 60 (kM 75)]))))))) (.seq (.reg [oA 76 (kM 2), oA 77 (kM 3), oA 78 (kM 4), oA 2 (kM 76), oA 3 (kM 77), oA 4 (kM 78)]) .ret))))))⟩
theorem c27 : cfunc Tryz.prog 27 = some ir27 := by kernel_rfl
theorem k27 : okIR (max 1 ir27.n) ir27.ir = true := by decide +kernel
theorem s_rKbUses (b : Bas) (hb : b.ok) (hs : sumN b.cons ≤ 3000) (hc : ∀ c ∈ b.cons, c.ok) (h1 : b.incls.length ≤ 200) (h2 : b.roles.length ≤ 200) (h3 : b.facts.length ≤ 200) (h4 : b.links.length ≤ 200) (hcl : b.cons.length ≤ 3000) (j : JH) :
    JC Tryz.prog G 27 [.agg b.enc] j (RET (.tup [SLI (wcA [] b.cons), SLI (wlR (wrR (wcR [] b.cons) b.roles) b.links), SLI (wlI (wfI [] b.facts) b.links)]) j) := by
  refine JC.run hmix c27 (by exact k27) ?_
  (try simp only[↓jr,jw,seval,ir27])
  refine JCs.ret (s_Concepts b (by omega) (by omega) _) ?_
  (try simp only[↓jr,jw,seval])
  refine JLOOP.of (σ := Nat × Tok × Tok × List Int × List Int × JH) (fun s => s.1 ≤ b.cons.length ∧ Two (fun t => t < j.tnext) s.2.2.2.2.2 s.2.1 s.2.2.1 s.2.2.2.1 s.2.2.2.2.1 ∧ TokP (fun t => t < j.tnext) j s.2.2.2.2.2 ∧ wcA s.2.2.2.1 (b.cons.drop s.1) = wcA [] b.cons ∧ wcR s.2.2.2.2.1 (b.cons.drop s.1) = wcR [] b.cons ∧ s.2.2.2.1.length + sumN (b.cons.drop s.1) ≤ 3000 ∧ s.2.2.2.2.1.length + sumN (b.cons.drop s.1) ≤ 3000) (fun s => b.cons.length - s.1)
    (fun s => [(16, I64 s.1), (15, I64 b.cons.length), (14, .sl .none b.cons.length (encs Con.enc b.cons)), (1, .ptr (pid j.next 0) 0), (2, .sl s.2.1 s.2.2.2.1.length (ints s.2.2.2.1)), (3, .sl s.2.2.1 s.2.2.2.2.1.length (ints s.2.2.2.2.1)), (4, .sl .nil 0 [])])
    (fun s => Pg.ext s.2.2.2.2.2 [.cells 30 b.enc]) (0, .nil, .nil, [], [], j) ⟨Nat.zero_le _, ⟨CanP.nil, CanP.nil, fun t e => by cases e⟩, TokP.refl (fun t h => h), rfl, rfl, by simpa using hs, by simpa using hs⟩ ?_ (JDropH.refl _) ?_
  · (try simp only[↓jr,jw,seval,DL])
    exact ⟨SubB.v, SubB.v, SubB.sl rfl (SubBs.pure (encs_pur Con.pur _)), SubB.ptr (by unfold pid; omega), SubB.pure rfl, SubB.pure rfl, SubB.pure rfl⟩
  rintro ⟨k, tx, ty, A, R, jx⟩ ⟨hk, hTx, hPx, hA, hR, lA, lR⟩
  simp only at hk hTx hPx hA hR lA lR
  have hnx := hPx.next
  (try simp only[↓jr,jw,seval,hnx])
  refine wq.intro (fun g1 => ?_) (fun g1 => ?_)
  · have hlt : k < (b.cons).length := by omega
    obtain ⟨x, r, hd⟩ : ∃ c_ l_, List.drop k (b.cons) = c_ :: l_ := ⟨_, _, List.drop_eq_getElem_cons hlt⟩
    have hd1 : List.drop (k + 1) (b.cons) = r := by rw [← List.drop_drop, hd]; rfl
    have hmem : x ∈ b.cons := List.mem_of_mem_drop (hd ▸ List.mem_cons_self)
    rw [hd] at hA hR lA lR
    simp only [wcA, wcR, sumN] at hA hR lA lR
    (try simp only[↓jr,jw,seval,hd,hnx])
    refine wc.intro (by omega) ?_
    (try simp only[↓jr,jw,seval,hd,hnx])
    refine JCs.use (s_rUses x (fun t => t < j.tnext) tx ty A R (Pg.ext jx [.cells 30 b.enc, .cells 71 x.enc]) (hTx.eq rfl rfl) (fun t q => Nat.lt_of_lt_of_le q hPx.tnext) (hc x hmem) (by omega) (by omega)) ?_
    rintro o j' ⟨t3, t4, j3, h1, h2, rfl, rfl⟩
    obtain ⟨j4, e, h3, e1, e2⟩ := h2.unbox
    rw [e]
    have h4 := h1.eq e1 e2
    have h5 := hPx.trans h3
    have hn4 := h3.next
    have hn5 := h5.next
    have b1 := rcI_len (pre x) A
    have b2 := rrI_len (pre x) R
    rw [pre_len] at b1 b2
    (try simp only[↓jr,jw,seval,hn5])
    refine wc.intro (by unfold R64; omega) ?_
    (try simp only[↓jr,jw,seval,hn5])
    refine JNEXT.of (k + 1, t3, t4, rcI A (pre x), rrI R (pre x), j4) ⟨by simp only; omega, h4, h5, by simp only [hd1]; exact hA, by simp only [hd1]; exact hR, by simp only [hd1]; omega, by simp only [hd1]; omega⟩ (by simp only; omega) ?_ ?_
    · (try simp only[↓jr,jw,seval,DL])
      exact ⟨SubB.v, SubB.v, SubB.sl rfl (SubBs.pure (encs_pur Con.pur _)), SubB.ptr (by unfold pid; omega), SubB.canP h4.a (ints_pur _), SubB.canP h4.b (ints_pur _), SubB.pure rfl⟩
    · exact JDropH.next (TokExt.refl _) hn4 h3.tnext (fun o ob ho q => .inl (by rw [← h3.get o ho]; exact q)) ⟨.inl ⟨rfl, rfl⟩, True.intro⟩
  (try simp only[↓jr,jw,seval,hnx])
  rw [List.drop_eq_nil_of_le (by omega)] at hA hR lA lR
  simp only [wcA, wcR, sumN] at hA hR lA lR
  rw [← hA, ← hR]
  clear hA hR
  refine JLOOP.of (σ := Nat × Tok × List Int × JH) (fun s => s.1 ≤ b.roles.length ∧ Two (fun t => t < j.tnext) s.2.2.2 tx s.2.1 A s.2.2.1 ∧ TokP (fun t => t < j.tnext) j s.2.2.2 ∧ wrR s.2.2.1 (b.roles.drop s.1) = wrR R b.roles ∧ s.2.2.1.length ≤ 3000 + 2 * s.1) (fun s => b.roles.length - s.1)
    (fun s => [(31, I64 s.1), (30, I64 b.roles.length), (29, .sl .none b.roles.length (encs RIn.enc b.roles)), (1, .ptr (pid j.next 0) 0), (2, .sl tx A.length (ints A)), (3, .sl s.2.1 s.2.2.1.length (ints s.2.2.1)), (4, .sl .nil 0 [])])
    (fun s => Pg.ext s.2.2.2 [.cells 30 b.enc]) (0, ty, R, jx) ⟨Nat.zero_le _, hTx, hPx, rfl, by simpa using lR⟩ ?_ (JDropH.refl _) ?_
  · (try simp only[↓jr,jw,seval,DL])
    exact ⟨SubB.v, SubB.v, SubB.sl rfl (SubBs.pure (encs_pur RIn.pur _)), SubB.ptr (by unfold pid; omega), SubB.canP hTx.a (ints_pur _), SubB.canP hTx.b (ints_pur _), SubB.pure rfl⟩
  rintro ⟨k2, ty, R2, jx⟩ ⟨hk, hTx, hPx, hR, lR⟩
  simp only at hk hTx hPx hR lR
  have hnx := hPx.next
  (try simp only[↓jr,jw,seval,hnx])
  refine wq.intro (fun g1 => ?_) (fun g1 => ?_)
  · have hlt : k2 < (b.roles).length := by omega
    obtain ⟨x, r, hd⟩ : ∃ c_ l_, List.drop k2 (b.roles) = c_ :: l_ := ⟨_, _, List.drop_eq_getElem_cons hlt⟩
    have hd1 : List.drop (k2 + 1) (b.roles) = r := by rw [← List.drop_drop, hd]; rfl
    have hmem : x ∈ b.roles := List.mem_of_mem_drop (hd ▸ List.mem_cons_self)
    rw [hd] at hR
    simp only [wrR] at hR
    obtain ⟨x1, x2⟩ := hb.roles x hmem
    (try simp only[↓jr,jw,seval,hd,hnx])
    refine wc.intro (by omega) ?_
    (try simp only[↓jr,jw,seval,hd,hnx])
    refine wc.intro (R64_tdiv2 x1) ?_
    (try simp only[↓jr,jw,seval,hd,hnx])
    obtain ⟨t1, j1, f1, f2, c1⟩ := s_InsertD (G := G) (fun t => t < j.tnext ∨ tx = .own t 0 1) R2 (x.sub.tdiv 2) ty (Pg.ext jx [.cells 30 b.enc, .cells 116 x.enc]) ((hTx.eq rfl rfl).subB) ((hTx.eq rfl rfl).loA (fun t q => Nat.lt_of_lt_of_le q hPx.tnext)) (by omega) (R64_tdiv2 x1)
    obtain ⟨j2, e, f3, e1, e2⟩ := f2.unbox
    rw [e] at c1
    have f4 := hTx.goB (f1.eq e1 e2) f3
    have f5 := hPx.trans (f3.sub (S' := fun t => t < j.tnext) fun t q => .inl q)
    have hn2 := f5.next
    have i1 := insR_len R2 (x.sub.tdiv 2)
    refine JDC.use c1 ?_
    (try simp only[↓jr,jw,seval,hnx,hn2])
    refine wc.intro (R64_tdiv2 x2) ?_
    (try simp only[↓jr,jw,seval,hnx,hn2])
    obtain ⟨t2, j3, g2, g3, c2⟩ := s_InsertD (G := G) (fun t => t < j.tnext ∨ tx = .own t 0 1) (insR R2 (x.sub.tdiv 2)) (x.sup.tdiv 2) t1 (Pg.ext j2 [.cells 30 b.enc, .cells 116 x.enc]) ((f4.eq rfl rfl).subB) ((f4.eq rfl rfl).loA (fun t q => Nat.lt_of_lt_of_le q f5.tnext)) (by omega) (R64_tdiv2 x2)
    obtain ⟨j4, e', g4, e3, e4⟩ := g3.unbox
    rw [e'] at c2
    have g5 := f4.goB (g2.eq e3 e4) g4
    have g6 := f5.trans (g4.sub (S' := fun t => t < j.tnext) fun t q => .inl q)
    have hn4 := g6.next
    have i2 := insR_len (insR R2 (x.sub.tdiv 2)) (x.sup.tdiv 2)
    refine JDC.use c2 ?_
    (try simp only[↓jr,jw,seval,hnx,hn2,hn4])
    have tn2 := f3.tnext
    have tn4 := g4.tnext
    have gx : (Pg.ext jx [.cells 30 b.enc, .cells 116 x.enc]).get (pid j.next 1) = some (.cells 116 x.enc) := by rw [← hnx]; exact ext_get_new rfl
    have g2' : (Pg.ext j2 [.cells 30 b.enc, .cells 116 x.enc]).get (pid j.next 1) = some (.cells 116 x.enc) := by rw [← hn2]; exact ext_get_new rfl
    refine JDRAW.oc (by (try simp only[↓jr,jw,seval,jq,qe2,qe3,ext_next,ext_tnext,hnx,hn2,hn4,List.length_cons,List.length_nil]) <;> (repeat' (first | exact trivial | refine And.intro ?_ ?_ | exact Nat.le_refl _ | assumption | exact uo1 | exact (fun h => absurd rfl h) | exact uo2 rfl gx g2' | exact (fun _ _ => ⟨uo2 rfl gx g2', fun h => absurd rfl h, fun h => absurd rfl h⟩) | (unfold pid; omega)))) ?_
    (try simp only[↓jr,jw,seval,hnx,hn2,hn4])
    refine wc.intro (by unfold R64; omega) ?_
    (try simp only[↓jr,jw,seval,hnx,hn2,hn4])
    refine JNEXT.of (k2 + 1, t2, insR (insR R2 (x.sub.tdiv 2)) (x.sup.tdiv 2), j4) ⟨by simp only; omega, g5, g6, by simp only [hd1]; exact hR, by simp only; omega⟩ (by simp only; omega) ?_ ?_
    · (try simp only[↓jr,jw,seval,DL])
      exact ⟨SubB.v, SubB.v, SubB.sl rfl (SubBs.pure (encs_pur RIn.pur _)), SubB.ptr (by unfold pid; omega), SubB.canP g5.a (ints_pur _), SubB.canP g5.b (ints_pur _), SubB.pure rfl⟩
    · exact JDropH.next (TokExt.refl _) (g4.next.trans f3.next) (Nat.le_trans tn2 tn4) (fun o ob ho q => .inl (by rw [← f3.get o ho, ← g4.get o (by rw [f3.next]; exact ho)]; exact q)) ⟨.inl ⟨rfl, rfl⟩, True.intro⟩
  (try simp only[↓jr,jw,seval,hnx])
  rw [List.drop_eq_nil_of_le (by omega)] at hR
  simp only [wrR] at hR
  rw [← hR]
  clear hR
  have hS3 : ∀ t, (t < j.tnext ∨ tx = .own t 0 1 ∨ ty = .own t 0 1) → t < jx.tnext := fun t q => by
    rcases q with q | q | q
    · exact Nat.lt_of_lt_of_le q hPx.tnext
    · exact hTx.a.lt q
    · exact hTx.b.lt q
  refine JLOOP.of (σ := Nat × Tok × List Int × JH) (fun s => s.1 ≤ b.facts.length ∧ CanP (fun t => t < j.tnext ∨ tx = .own t 0 1 ∨ ty = .own t 0 1) s.2.2.2 s.2.1 1 s.2.2.1.length ∧ TokP (fun t => t < j.tnext ∨ tx = .own t 0 1 ∨ ty = .own t 0 1) jx s.2.2.2 ∧ wfI s.2.2.1 (b.facts.drop s.1) = wfI [] b.facts ∧ s.2.2.1.length ≤ s.1) (fun s => b.facts.length - s.1)
    (fun s => [(48, I64 s.1), (47, I64 b.facts.length), (46, .sl .none b.facts.length (encs Fac.enc b.facts)), (1, .ptr (pid j.next 0) 0), (2, .sl tx A.length (ints A)), (3, .sl ty R2.length (ints R2)), (4, .sl s.2.1 s.2.2.1.length (ints s.2.2.1))])
    (fun s => Pg.ext s.2.2.2 [.cells 30 b.enc]) (0, .nil, [], jx) ⟨Nat.zero_le _, CanP.nil, TokP.refl hS3, rfl, Nat.le_refl _⟩ ?_ (JDropH.refl _) ?_
  · (try simp only[↓jr,jw,seval,DL])
    exact ⟨SubB.v, SubB.v, SubB.sl rfl (SubBs.pure (encs_pur Fac.pur _)), SubB.ptr (by unfold pid; omega), SubB.canP hTx.a (ints_pur _), SubB.canP hTx.b (ints_pur _), SubB.pure rfl⟩
  rintro ⟨k3, ti, I, jy⟩ ⟨hk3, hCi, hPy, hI, lI⟩
  simp only at hk3 hCi hPy hI lI
  have hny : jy.next = j.next := hPy.next.trans hnx
  have hT3 : ∀ {jz : JH}, TokP (fun t => t < j.tnext ∨ tx = .own t 0 1 ∨ ty = .own t 0 1) jx jz → CanP (fun t => t < j.tnext) jz tx 1 A.length ∧ CanP (fun t => t < j.tnext) jz ty 1 R2.length := fun q => ⟨hTx.a.stay q (fun t e => .inr (.inl e)), hTx.b.stay q (fun t e => .inr (.inr e))⟩
  (try simp only[↓jr,jw,seval,hny])
  refine wq.intro (fun g1 => ?_) (fun g1 => ?_)
  · have hlt : k3 < (b.facts).length := by omega
    obtain ⟨x, r, hd⟩ : ∃ c_ l_, List.drop k3 (b.facts) = c_ :: l_ := ⟨_, _, List.drop_eq_getElem_cons hlt⟩
    have hd1 : List.drop (k3 + 1) (b.facts) = r := by rw [← List.drop_drop, hd]; rfl
    have hmem : x ∈ b.facts := List.mem_of_mem_drop (hd ▸ List.mem_cons_self)
    rw [hd] at hI
    simp only [wfI] at hI
    obtain ⟨x1, x2⟩ := hb.facts x hmem
    (try simp only[↓jr,jw,seval,hd,hny])
    refine wc.intro (by omega) ?_
    (try simp only[↓jr,jw,seval,hd,hny])
    obtain ⟨t1, j1, f1, f2, c1⟩ := s_InsertD (G := G) (fun t => t < j.tnext ∨ tx = .own t 0 1 ∨ ty = .own t 0 1) I x.ind ti (Pg.ext jy [.cells 30 b.enc, .cells 118 x.enc]) (hCi.eq rfl rfl) (fun t q => Nat.lt_of_lt_of_le (hS3 t q) hPy.tnext) (by omega) x1
    obtain ⟨j2, e, f3, e1, e2⟩ := f2.unbox
    rw [e] at c1
    have f4 := f1.eq e1 e2
    have f5 := hPy.trans f3
    have hn2 : j2.next = j.next := f5.next.trans hnx
    have i1 := insR_len I x.ind
    refine JCs.ret c1 ?_
    (try simp only[↓jr,jw,seval,hny,hn2])
    refine wc.intro (by unfold R64; omega) ?_
    (try simp only[↓jr,jw,seval,hny,hn2])
    refine JNEXT.of (k3 + 1, t1, insR I x.ind, j2) ⟨by simp only; omega, f4, f5, by simp only [hd1]; exact hI, by simp only; omega⟩ (by simp only; omega) ?_ ?_
    · (try simp only[↓jr,jw,seval,DL])
      exact ⟨SubB.v, SubB.v, SubB.sl rfl (SubBs.pure (encs_pur Fac.pur _)), SubB.ptr (by unfold pid; omega), SubB.canP (hT3 f5).1 (ints_pur _), SubB.canP (hT3 f5).2 (ints_pur _), SubB.canP f4 (ints_pur _)⟩
    · exact JDropH.next (TokExt.refl _) f3.next f3.tnext (fun o ob ho q => .inl (by rw [← f3.get o ho]; exact q)) ⟨.inl ⟨rfl, rfl⟩, True.intro⟩
  (try simp only[↓jr,jw,seval,hny])
  rw [List.drop_eq_nil_of_le (by omega)] at hI
  simp only [wfI] at hI
  rw [← hI]
  clear hI
  have hS4 : ∀ t, (t < j.tnext ∨ tx = .own t 0 1) → t < jy.tnext := fun t q => Nat.lt_of_lt_of_le (hS3 t (q.imp id .inl)) hPy.tnext
  have hTy : Two (fun t => t < j.tnext ∨ tx = .own t 0 1) jy ty ti R2 I := ⟨hTx.subB.stay hPy (fun t e => .inr (.inr e)), hCi.low (fun t q => q.imp id .inl), fun t e q => by
    rcases hCi with ⟨rfl, _⟩ | ⟨t', h3, _, h4, _⟩
    · cases q
    · rw [h4] at q; cases q; exact h3 (.inr (.inr e))⟩
  have hTxy : CanP (fun t => t < j.tnext) jy tx 1 A.length := (hT3 hPy).1
  refine JLOOP.of (σ := Nat × Tok × Tok × List Int × List Int × JH) (fun s => s.1 ≤ b.links.length ∧ Two (fun t => t < j.tnext ∨ tx = .own t 0 1) s.2.2.2.2.2 s.2.1 s.2.2.1 s.2.2.2.1 s.2.2.2.2.1 ∧ TokP (fun t => t < j.tnext ∨ tx = .own t 0 1) jy s.2.2.2.2.2 ∧ wlR s.2.2.2.1 (b.links.drop s.1) = wlR R2 b.links ∧ wlI s.2.2.2.2.1 (b.links.drop s.1) = wlI I b.links ∧ s.2.2.2.1.length ≤ 3400 + s.1 ∧ s.2.2.2.2.1.length ≤ 200 + 2 * s.1) (fun s => b.links.length - s.1)
    (fun s => [(60, I64 s.1), (59, I64 b.links.length), (58, .sl .none b.links.length (encs Lnk.enc b.links)), (1, .ptr (pid j.next 0) 0), (2, .sl tx A.length (ints A)), (3, .sl s.2.1 s.2.2.2.1.length (ints s.2.2.2.1)), (4, .sl s.2.2.1 s.2.2.2.2.1.length (ints s.2.2.2.2.1))])
    (fun s => Pg.ext s.2.2.2.2.2 [.cells 30 b.enc]) (0, ty, ti, R2, I, jy) ⟨Nat.zero_le _, hTy, TokP.refl hS4, rfl, rfl, by simp only; omega, by simp only; omega⟩ ?_ (JDropH.refl _) ?_
  · (try simp only[↓jr,jw,seval,DL])
    exact ⟨SubB.v, SubB.v, SubB.sl rfl (SubBs.pure (encs_pur Lnk.pur _)), SubB.ptr (by unfold pid; omega), SubB.canP hTxy (ints_pur _), SubB.canP hTy.a (ints_pur _), SubB.canP hTy.b (ints_pur _)⟩
  rintro ⟨k4, tr, ti2, R4, I4, jz⟩ ⟨hk4, hTz, hPz, hR4, hI4, lR4, lI4⟩
  simp only at hk4 hTz hPz hR4 hI4 lR4 lI4
  have hnz : jz.next = j.next := hPz.next.trans hny
  have hT4 : ∀ {jw : JH}, TokP (fun t => t < j.tnext ∨ tx = .own t 0 1) jy jw → CanP (fun t => t < j.tnext) jw tx 1 A.length := fun q => hTxy.stay q (fun t e => .inr e)
  (try simp only[↓jr,jw,seval,hnz])
  refine wq.intro (fun g1 => ?_) (fun g1 => ?_)
  · have hlt : k4 < (b.links).length := by omega
    obtain ⟨x, r, hd⟩ : ∃ c_ l_, List.drop k4 (b.links) = c_ :: l_ := ⟨_, _, List.drop_eq_getElem_cons hlt⟩
    have hd1 : List.drop (k4 + 1) (b.links) = r := by rw [← List.drop_drop, hd]; rfl
    have hmem : x ∈ b.links := List.mem_of_mem_drop (hd ▸ List.mem_cons_self)
    rw [hd] at hR4 hI4
    simp only [wlR, wlI] at hR4 hI4
    obtain ⟨x1, x2, x3⟩ := hb.links x hmem
    (try simp only[↓jr,jw,seval,hd,hnz])
    refine wc.intro (by omega) ?_
    (try simp only[↓jr,jw,seval,hd,hnz])
    obtain ⟨t1, j1, f1, f2, c1⟩ := s_InsertD (G := G) (fun t => (t < j.tnext ∨ tx = .own t 0 1) ∨ ti2 = .own t 0 1) R4 x.role tr (Pg.ext jz [.cells 30 b.enc, .cells 120 x.enc]) ((hTz.eq rfl rfl).subA) ((hTz.eq rfl rfl).loB (fun t q => Nat.lt_of_lt_of_le (hS4 t q) hPz.tnext)) (by omega) x1
    obtain ⟨j2, e, f3, e1, e2⟩ := f2.unbox
    rw [e] at c1
    have f4 := hTz.goA (f1.eq e1 e2) f3
    have f5 := hPz.trans (f3.sub (S' := fun t => t < j.tnext ∨ tx = .own t 0 1) fun t q => .inl q)
    have hn2 : j2.next = j.next := f5.next.trans hny
    have i1 := insR_len R4 x.role
    refine JCs.ret c1 ?_
    (try simp only[↓jr,jw,seval,hnz,hn2])
    obtain ⟨t2, j3, g2, g3, c2⟩ := s_InsertD (G := G) (fun t => (t < j.tnext ∨ tx = .own t 0 1) ∨ t1 = .own t 0 1) I4 x.fr ti2 (Pg.ext j2 [.cells 30 b.enc, .cells 120 x.enc]) ((f4.eq rfl rfl).subB) ((f4.eq rfl rfl).loA (fun t q => Nat.lt_of_lt_of_le (hS4 t q) f5.tnext)) (by omega) x2
    obtain ⟨j4, e', g4, e3, e4⟩ := g3.unbox
    rw [e'] at c2
    have g5 := f4.goB (g2.eq e3 e4) g4
    have g6 := f5.trans (g4.sub (S' := fun t => t < j.tnext ∨ tx = .own t 0 1) fun t q => .inl q)
    have hn4 : j4.next = j.next := g6.next.trans hny
    have i2 := insR_len I4 x.fr
    refine JDC.use c2 ?_
    (try simp only[↓jr,jw,seval,hnz,hn2,hn4])
    obtain ⟨t3, j5, m2, m3, c3⟩ := s_InsertD (G := G) (fun t => (t < j.tnext ∨ tx = .own t 0 1) ∨ t1 = .own t 0 1) (insR I4 x.fr) x.to t2 (Pg.ext j4 [.cells 30 b.enc, .cells 120 x.enc]) ((g5.eq rfl rfl).subB) ((g5.eq rfl rfl).loA (fun t q => Nat.lt_of_lt_of_le (hS4 t q) g6.tnext)) (by omega) x3
    obtain ⟨j6, e'', m4, e5, e6⟩ := m3.unbox
    rw [e''] at c3
    have m5 := g5.goB (m2.eq e5 e6) m4
    have m6 := g6.trans (m4.sub (S' := fun t => t < j.tnext ∨ tx = .own t 0 1) fun t q => .inl q)
    have hn6 : j6.next = j.next := m6.next.trans hny
    have i3 := insR_len (insR I4 x.fr) x.to
    refine JDC.use c3 ?_
    (try simp only[↓jr,jw,seval,hnz,hn2,hn4,hn6])
    have tn2 := f3.tnext
    have tn4 := g4.tnext
    have tn6 := m4.tnext
    have gx : (Pg.ext j2 [.cells 30 b.enc, .cells 120 x.enc]).get (pid j.next 1) = some (.cells 120 x.enc) := by rw [← hn2]; exact ext_get_new rfl
    have g2' : (Pg.ext j4 [.cells 30 b.enc, .cells 120 x.enc]).get (pid j.next 1) = some (.cells 120 x.enc) := by rw [← hn4]; exact ext_get_new rfl
    refine JDRAW.oc (by (try simp only[↓jr,jw,seval,jq,qe2,qe3,ext_next,ext_tnext,hnz,hn2,hn4,hn6,List.length_cons,List.length_nil]) <;> (repeat' (first | exact trivial | refine And.intro ?_ ?_ | exact Nat.le_refl _ | assumption | exact uo1 | exact (fun h => absurd rfl h) | exact uo2 rfl gx g2' | exact (fun _ _ => ⟨uo2 rfl gx g2', fun h => absurd rfl h, fun h => absurd rfl h⟩) | (unfold pid; omega)))) ?_
    (try simp only[↓jr,jw,seval,hnz,hn2,hn4,hn6])
    refine wc.intro (by unfold R64; omega) ?_
    (try simp only[↓jr,jw,seval,hnz,hn2,hn4,hn6])
    refine JNEXT.of (k4 + 1, t1, t3, insR R4 x.role, insR (insR I4 x.fr) x.to, j6) ⟨by simp only; omega, m5, m6, by simp only [hd1]; exact hR4, by simp only [hd1]; exact hI4, by simp only; omega, by simp only; omega⟩ (by simp only; omega) ?_ ?_
    · (try simp only[↓jr,jw,seval,DL])
      exact ⟨SubB.v, SubB.v, SubB.sl rfl (SubBs.pure (encs_pur Lnk.pur _)), SubB.ptr (by unfold pid; omega), SubB.canP (hT4 m6) (ints_pur _), SubB.canP m5.a (ints_pur _), SubB.canP m5.b (ints_pur _)⟩
    · exact JDropH.next (TokExt.refl _) (m4.next.trans (g4.next.trans f3.next)) (Nat.le_trans tn2 (Nat.le_trans tn4 tn6)) (fun o ob ho q => .inl (by rw [← f3.get o ho, ← g4.get o (by rw [f3.next]; exact ho), ← m4.get o (by rw [g4.next, f3.next]; exact ho)]; exact q)) ⟨.inl ⟨rfl, rfl⟩, True.intro⟩
  (try simp only[↓jr,jw,seval,hnz])
  rw [List.drop_eq_nil_of_le (by omega)] at hR4 hI4
  simp only [wlR, wlI] at hR4 hI4
  rw [← hR4, ← hI4]
  have hP : TokP (fun t => t < j.tnext) j jz := hPx.trans ((hPy.sub fun t q => .inl q).trans (hPz.sub fun t q => .inl q))
  have hb3 : ∀ {l : List Int}, SubB j.next j.tnext (.sl .none l.length (ints l)) (SLI l) := fun {l} => SubB.sl rfl (SubBs.pure (ints_pur _))
  exact JFIN.ret (JDropH.back hP.ext).of_ext (SubB.tup ⟨SubB.sl rfl (SubBs.pure (ints_pur _)), SubB.sl rfl (SubBs.pure (ints_pur _)), SubB.sl rfl (SubBs.pure (ints_pur _)), True.intro⟩)
end
end Go.Proofs.YtcjlpklgnknpgaaGreatDoor.Pg
