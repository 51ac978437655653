/-
  Pairs of numbers as keys of maps; pairs searched in lists.
-/
import Derived.Test.YtnkkeenclhncmaaDoorIp
set_option linter.unusedVariables false
set_option linter.unusedSimpArgs false
set_option maxRecDepth 100000
set_option maxHeartbeats 8000000
namespace Go.Proofs.YtnkkeenclhncmaaDoor.Pg
open Go
def pairV (p : Int × Int) : Value := .agg #[.int .i64 p.1, .int .i64 p.2]
def mapP (l : List (Int × Int)) : List (Value × AV) := l.map fun p => (pairV p, BOO true)
theorem mapP_append {l : List (Int × Int)} {p : Int × Int} : mapP (l ++ [p]) = mapP l ++ [(pairV p, BOO true)] := by simp [mapP]
theorem lit_pair {p : Int × Int} : lit (.agg (PR p)) = some (pairV p) := by simp [lit, lits, pairV]
theorem pairOf_pair {p : Int × Int} : pairOf (pairV p) = some p := rfl
theorem afind_pair {n : Nat} {e : TypeId} {p : Int × Int} : ∀ {l : List (Int × Int)} {i : Nat}, ∃ q, afind (.array n e) (pairV p) (mapP l) i = some q ∧ (q.isSome = decide (p ∈ l)) ∧ ∀ k x, q = some (k, x) → x = BOO true
  | [], i => ⟨none, by simp [mapP, afind, keyOK, pairOf_pair], by simp, fun k x h => by cases h⟩
  | y :: l, i => by
    obtain ⟨q, h1, h2, h3⟩ := afind_pair (n := n) (e := e) (p := p) (l := l) (i := i + 1)
    have hs : asame (.array n e) (pairV p) (pairV y) = some (p.1 == y.1 && p.2 == y.2) := by simp only [asame, pairOf_pair]
    by_cases h : p = y
    · subst h
      refine ⟨some (i, BOO true), ?_, by simp, fun k x h => by cases h; rfl⟩
      simp only [mapP, List.map_cons, afind, hs]
      simp
    · have hne : (p.1 == y.1 && p.2 == y.2) = false := by
        rw [Bool.eq_false_iff]; intro hh
        simp only [Bool.and_eq_true, beq_iff_eq] at hh
        exact h (Prod.ext hh.1 hh.2)
      refine ⟨q, ?_, by rw [h2]; simp [h], h3⟩
      simp only [mapP, List.map_cons, afind, hs, hne]
      exact h1
theorem lookup_mapP {C : Nat → Option AObj} {o n : Nat} {e : TypeId} {l : List (Int × Int)} {a b : Int} (h : C o = some (.map (mapP l))) : ilookup C (.array n e) (.v (.bool false)) false (.mp o) (.agg [I64 a, I64 b]) = some (.v (.bool (decide ((a, b) ∈ l)))) := by
  obtain ⟨q, h1, h2, h3⟩ := afind_pair (n := n) (e := e) (p := (a, b)) (l := l) (i := 0)
  have hl : lit (.agg [I64 a, I64 b]) = some (pairV (a, b)) := lit_pair (p := (a, b))
  simp only [ilookup, mapOf, h, hl, h1]
  cases q with
  | none => simp only [Option.isSome_none] at h2; rw [← h2]; rfl
  | some kx =>
    obtain ⟨k, x⟩ := kx
    rw [h3 k x rfl]
    simp only [Option.isSome_some] at h2
    rw [← h2]; rfl
theorem JMAPUP.newP {j : JH} {o n : Nat} {e : TypeId} {l : List (Int × Int)} {a b : Int} {K : JH → Prop} (h : j.get o = some (.map (mapP l))) (hn : ¬ (a, b) ∈ l) (k : K (j.set o (.map (mapP (l ++ [(a, b)]))))) : @JMAPUP j (.array n e) (.mp o) (.agg [I64 a, I64 b]) (.v (.bool true)) ⟨K⟩ := by
  unfold JMAPUP jmapup
  obtain ⟨q, h1, h2, h3⟩ := afind_pair (n := n) (e := e) (p := (a, b)) (l := l) (i := 0)
  have hl : lit (.agg [I64 a, I64 b]) = some (pairV (a, b)) := lit_pair (p := (a, b))
  have hq : q = none := by
    cases q with
    | none => rfl
    | some _ => simp [hn] at h2
  subst hq
  simp only [hl, wv_some, h, h1]
  rw [← mapP_append]; exact k
theorem OSub.mapP {no nt : Nat} {l : List (Int × Int)} : OSub no nt (.map (mapP l)) (.map (mapP l)) := by
  refine ⟨rfl, SubBs.pure ?_⟩
  unfold Pg.mapP
  induction l with
  | nil => rfl
  | cons x l ih => simp only [List.map_cons, AV.pures, AV.pure, Bool.true_and] at ih ⊢; exact ih
/-- The place of the first element with a property, or -1. -/
def firstI {α : Type} (f : α → Bool) : List α → Int
  | [] => -1
  | x :: l => if f x then 0 else if firstI f l = -1 then -1 else firstI f l + 1
theorem firstI_ge {α : Type} {f : α → Bool} : ∀ {l : List α}, -1 ≤ firstI f l
  | [] => by simp [firstI]
  | x :: l => by
    have := @firstI_ge α f l
    simp only [firstI]
    repeat' split
    all_goals omega
theorem firstI_iff {α : Type} {f : α → Bool} : ∀ {l : List α}, 0 ≤ firstI f l ↔ l.any f = true
  | [] => by simp [firstI]
  | x :: l => by
    have ih := @firstI_iff α f l
    have hg := @firstI_ge α f l
    rw [List.any_cons, Bool.or_eq_true, ← ih, show firstI f (x :: l) = if f x then 0 else if firstI f l = -1 then -1 else firstI f l + 1 from rfl]
    by_cases hx : f x = true
    · rw [if_pos hx]; simp [hx]
    · rw [if_neg hx]
      have hx' : ¬ f x = true := hx
      split
      · constructor
        · intro h; omega
        · rintro (h | h)
          · exact absurd h hx'
          · omega
      · constructor
        · intro h; exact .inr (by omega)
        · rintro (h | h)
          · exact absurd h hx'
          · omega
theorem firstI_any {α : Type} {f : α → Bool} {l : List α} : decide (0 ≤ firstI f l) = l.any f := by
  rw [Bool.eq_iff_iff, decide_eq_true_eq]; exact firstI_iff
theorem firstI_hit {α : Type} {f : α → Bool} {x : α} {r : List α} : ∀ {l : List α} {k : Nat}, l.drop k = x :: r → (l.take k).any f = false → f x = true → firstI f l = k
  | [], k, h, _, _ => by simp at h
  | y :: l, 0, h, _, hx => by
    simp only [List.drop_zero, List.cons.injEq] at h
    simp only [firstI]
    rw [h.1, if_pos hx]; rfl
  | y :: l, k + 1, h, ha, hx => by
    simp only [List.drop_succ_cons] at h
    simp only [List.take_succ_cons, List.any_cons, Bool.or_eq_false_iff] at ha
    have ih := firstI_hit h ha.2 hx
    simp only [firstI]
    rw [ha.1, ih]
    simp only [Bool.false_eq_true, if_false]
    rw [if_neg (by omega)]; omega
theorem firstI_none {α : Type} {f : α → Bool} {l : List α} (h : l.any f = false) : firstI f l = -1 := by
  have h1 := @firstI_any α f l
  have h2 := @firstI_ge α f l
  rw [h, decide_eq_false_iff_not] at h1
  omega
theorem take_snoc {α : Type} {l : List α} {k : Nat} {c : α} {r : List α} (h : l.drop k = c :: r) : l.take (k + 1) = l.take k ++ [c] := by
  have : l[k]? = some c := by rw [← List.head?_drop, h]; rfl
  rw [List.take_add_one, this]; rfl
section
variable {m : GM} {G : Nat → Option (List AV)}
def ir102 : IFn := ⟨19, [⟨4, none⟩], (.seq (.reg [oA 3 (.box 58 (.r 1)), oA 4 (.mov (kI 0))]) (.seq (.seq (.reg [oA 6 (kM 0), oT 7 6 (.lenl (.r 6)), oA 8 (.mov (kI 0))]) (.block 0 (.loop (.seq (.reg [oA 9 (.bin .lss (.r 8) (.r 7))]) (.seq (.cond (.r 9) .skip (.exit 0)) (.seq (.block 1 (.seq (.reg [oA 10 (kM 8), oA 5 (kM 10)]) (.seq (.draw [oL 11 3 (some 2), oA 12 (kM 0), oA 13 (kM 5), oA 14 (.iasl 2 (.r 12) (.r 13)), oL 15 14 (some 2), oA 16 (.beqA false (.r 11) (.r 15))] []) (.cond (.r 16) (.seq (.reg [oA 17 (kM 5), oA 4 (kM 17)]) .ret) .skip)))) (.reg [oA 18 (.bin .add (.r 8) (kI 1)), oA 8 (kM 18)]))))))) (.seq (.reg [oA 4 (.mov (kI (-1)))]) .ret)))⟩
theorem c102 : cfunc Tryd.prog 102 = some ir102 := by kernel_rfl
theorem k102 : okIR (max 2 ir102.n) ir102.ir = true := by decide +kernel
theorem s_IndexP (l : List (Int × Int)) (hl : l.length < 4611686018427387904) (tok : Tok) (p : Int × Int) (j : JH) : JC Tryd.prog G 102 [.sl tok l.length (encs PR l), .agg (PR p)] j (RET (I64 (firstI (fun q => decide (p = q)) l)) j) := by
  refine JC.run hmix c102 (by exact k102) ?_
  (try simp only[↓jr,jw,seval,ji,ext_ext,pid_pid,ir102])
  refine JLOOP.of (σ := Nat) (fun k => k ≤ l.length ∧ (l.take k).any (fun q => decide (p = q)) = false) (fun k => l.length - k)
    (fun k => [(8, I64 k), (7, I64 l.length), (0, .sl .none l.length (encs PR l)), (3, .ptr (pid j.next 0) 0)]) (fun k => ext j [.cells AE (PR p)]) 0 ⟨Nat.zero_le _, by simp⟩ ?_ (JDropH.refl _) ?_
  · (try simp only[↓jr,jw,seval,ji,ext_ext,pid_pid,DL])
    exact ⟨SubB.v, SubB.v, SubB.sl rfl (SubBs.pure (PR.pur _)), SubB.ptr (by unfold pid; omega)⟩
  rintro k ⟨hk, hI⟩
  (try simp only[↓jr,jw,seval,ji,ext_ext,pid_pid])
  refine wq.intro (fun g1 => ?_) (fun g1 => ?_)
  · have hlt : k < (l).length := by omega
    obtain ⟨x, r, hd⟩ : ∃ c_ l_, List.drop k (l) = c_ :: l_ := ⟨_, _, List.drop_eq_getElem_cons hlt⟩
    have hd1 : List.drop (k + 1) (l) = r := by rw [← List.drop_drop, hd]; rfl
    have hmem : x ∈ l := List.mem_of_mem_drop (hd ▸ List.mem_cons_self)
    (try simp only[↓jr,jw,seval,ji,ext_ext,pid_pid,hd])
    refine wc.intro (by omega) ?_
    (try simp only[↓jr,jw,seval,ji,ext_ext,pid_pid,hd])
    refine JDRAW.oc (by (try simp only[↓jr,jw,seval,ji,ext_ext,pid_pid,jq,qe2,qe3,ext_next,ext_tnext,pushTok_next,List.length_cons,List.length_nil]) <;> (repeat' (first | exact trivial | refine And.intro ?_ ?_ | exact Nat.le_refl _ | (refine pr_extp ⟨_, rfl⟩ (some_lt ?_)) | (refine pr_extp ⟨_, rfl⟩ (fun _ q => by cases q)) | omega | (unfold pid; omega) | (simp only [pushTok_next, List.length_cons, List.length_nil]; unfold pid; omega)))) ?_; (try simp only[↓jr,jw,seval,ji,ext_ext,pid_pid])
    have exy : ((p.1 == x.1) && (p.2 == x.2)) = decide (p = x) := by
      obtain ⟨a, b⟩ := p
      obtain ⟨c, d⟩ := x
      rw [Bool.eq_iff_iff]
      simp
    rw [exy]
    refine ww.intro (fun q2 => ?_) (fun q2 => ?_)
    · (try simp only[↓jr,jw,seval,ji,ext_ext,pid_pid])
      refine JFIN.rb ?_
      rw [firstI_hit hd hI q2]
      exact SubB.v
    · (try simp only[↓jr,jw,seval,ji,ext_ext,pid_pid])
      refine wc.intro (by unfold R64; omega) ?_
      (try simp only[↓jr,jw,seval,ji,ext_ext,pid_pid])
      refine JNEXT.of (k + 1) ⟨by omega, by rw [take_snoc hd, List.any_append, hI]; simp [q2]⟩ (by omega) ?_ JDropH.nx
      (try simp only[↓jr,jw,seval,ji,ext_ext,pid_pid,DL])
      exact ⟨SubB.v, SubB.v, SubB.sl rfl (SubBs.pure (PR.pur _)), SubB.ptr (by unfold pid; omega)⟩
  · (try simp only[↓jr,jw,seval,ji,ext_ext,pid_pid])
    rw [List.take_of_length_le (by omega)] at hI
    refine JFIN.rb ?_
    rw [firstI_none hI]
    exact SubB.v
def ir81 : IFn := ⟨9, [⟨4, none⟩], (.seq (.reg [oA 3 (.box 58 (.r 1)), oA 4 (.mov (kB false))]) (.seq (.reg [oA 5 (kM 0), oL 6 3 (some 2), oA 7 (.call 102 [.r 5, .r 6]), oA 8 (.bin .geq (.r 7) (kI 0)), oA 4 (kM 8)]) .ret))⟩
theorem c81 : cfunc Tryd.prog 81 = some ir81 := by kernel_rfl
theorem k81 : okIR (max 2 ir81.n) ir81.ir = true := by decide +kernel
theorem s_ContainsP (l : List (Int × Int)) (hl : l.length < 4611686018427387904) (tok : Tok) (p : Int × Int) (j : JH) : JC Tryd.prog G 81 [.sl tok l.length (encs PR l), .agg (PR p)] j (RET (BOO (decide (p ∈ l))) j) := by
  refine JC.run hmix c81 (by exact k81) ?_
  (try simp only[↓jr,jw,seval,ji,ext_ext,pid_pid,ir81])
  refine JCs.ret (s_IndexP l hl _ p _) ?_
  (try simp only[↓jr,jw,seval,ji,ext_ext,pid_pid])
  refine JFIN.rb ?_
  have e : decide (0 ≤ firstI (fun q => decide (p = q)) l) = decide (p ∈ l) := by
    rw [firstI_any, Bool.eq_iff_iff, List.any_eq_true]
    simp
  rw [e]
  exact SubB.v
def ir79 : IFn := ⟨8, [⟨3, none⟩], (.seq (.reg [oA 2 (.box 58 (.r 0)), oA 3 (.mov (kB false))]) (.seq (.reg [oL 4 1 none, oL 5 2 (some 2), oT 6 4 (.lookup (.array 2 3) (.v (.bool false)) false (.r 4) (.r 5)), oA 7 (.not (.r 6)), oA 3 (kM 7)]) .ret))⟩
theorem c79 : cfunc Tryd.prog 79 = some ir79 := by kernel_rfl
theorem k79 : okIR (max 2 ir79.n) ir79.ir = true := by decide +kernel
theorem hb79 : hasBody Tryd.prog 79 = true := by decide +kernel
theorem s_holds1 (p : Int × Int) (s : List (Int × Int)) (o om : Nat) (te : TypeId) (j : JH) (ho : o < j.next) (hg : j.get o = some (.cells te [.mp om])) (hom : om < j.next) (hm : j.get om = some (.map (mapP s))) :
    JC Tryd.prog G 79 [.agg (PR p), .ptr o 0] j (RET (BOO (!decide (p ∈ s))) j) := by
  have h1 : ∀ l, (Pg.ext j l).get o = some (.cells te [.mp om]) := fun l => by rw [ext_get_old ho]; exact hg
  have h2 : ∀ l, (Pg.ext j l).get om = some (.map (mapP s)) := fun l => by rw [ext_get_old hom]; exact hm
  have h3 : ∀ l, ilookup (Pg.ext j l).get (.array 2 3) (.v (.bool false)) false (.mp om) (.agg [I64 p.1, I64 p.2]) = some (.v (.bool (decide ((p.1, p.2) ∈ s)))) := fun l => lookup_mapP (h2 l)
  refine JC.run hmix c79 (by exact k79) ?_
  (try simp only[↓jr,jw,seval,ji,h1,h3,ir79])
  refine JFIN.rb ?_
  exact SubB.v
def ir101 : IFn := ⟨19, [⟨4, none⟩], (.seq (.reg [oA 4 (.mov (kI 0))]) (.seq (.seq (.reg [oA 6 (kM 0), oT 7 6 (.lenl (.r 6)), oA 8 (.mov (kI 0))]) (.block 0 (.loop (.seq (.reg [oA 9 (.bin .lss (.r 8) (.r 7))]) (.seq (.cond (.r 9) .skip (.exit 0)) (.seq (.block 1 (.seq (.reg [oA 10 (kM 8), oA 5 (kM 10)]) (.seq (.reg [oA 11 (kM 1), oA 12 (kM 0), oA 13 (kM 5), oA 14 (.iasl 2 (.r 12) (.r 13)), oL 15 14 (some 2), oT 16 15 (.callv (.r 11) [.r 15])]) (.cond (.r 16) (.seq (.reg [oA 17 (kM 5), oA 4 (kM 17)]) .ret) .skip)))) (.reg [oA 18 (.bin .add (.r 8) (kI 1)), oA 8 (kM 18)]))))))) (.seq (.reg [oA 4 (.mov (kI (-1)))]) .ret)))⟩
theorem c101 : cfunc Tryd.prog 101 = some ir101 := by kernel_rfl
theorem k101 : okIR (max 2 ir101.n) ir101.ir = true := by decide +kernel
theorem s_IndexF (l : List (Int × Int)) (hl : l.length < 4611686018427387904) (tok : Tok) (s : List (Int × Int)) (o om : Nat) (te : TypeId) (j : JH) (ho : o < j.next) (hg : j.get o = some (.cells te [.mp om])) (hom : om < j.next) (hm : j.get om = some (.map (mapP s))) :
    JC Tryd.prog G 101 [.sl tok l.length (encs PR l), .fn (.func 79) [] [.ptr o 0]] j (RET (I64 (firstI (fun q => !decide (q ∈ s)) l)) j) := by
  refine JC.run hmix c101 (by exact k101) ?_
  (try simp only[↓jr,jw,seval,ji,ext_ext,pid_pid,hb79,ir101])
  refine JLOOP.of (σ := Nat) (fun k => k ≤ l.length ∧ (l.take k).any (fun q => !decide (q ∈ s)) = false) (fun k => l.length - k)
    (fun k => [(8, I64 k), (7, I64 l.length), (0, .sl .none l.length (encs PR l)), (1, .fn (.func 79) [] [.ptr o 0])]) (fun k => ext j []) 0 ⟨Nat.zero_le _, by simp⟩ ?_ (JDropH.refl _) ?_
  · (try simp only[↓jr,jw,seval,ji,ext_ext,pid_pid,hb79,DL])
    exact ⟨SubB.v, SubB.v, SubB.sl rfl (SubBs.pure (PR.pur _)), SubB.fn True.intro ⟨SubB.ptr (by unfold pid; omega), True.intro⟩⟩
  rintro k ⟨hk, hI⟩
  (try simp only[↓jr,jw,seval,ji,ext_ext,pid_pid,hb79])
  refine wq.intro (fun g1 => ?_) (fun g1 => ?_)
  · have hlt : k < (l).length := by omega
    obtain ⟨x, r, hd⟩ : ∃ c_ l_, List.drop k (l) = c_ :: l_ := ⟨_, _, List.drop_eq_getElem_cons hlt⟩
    have hd1 : List.drop (k + 1) (l) = r := by rw [← List.drop_drop, hd]; rfl
    have hmem : x ∈ l := List.mem_of_mem_drop (hd ▸ List.mem_cons_self)
    (try simp only[↓jr,jw,seval,ji,ext_ext,pid_pid,hb79,hd])
    refine wc.intro (by omega) ?_
    (try simp only[↓jr,jw,seval,ji,ext_ext,pid_pid,hb79,hd])
    refine JCs.ret (s_holds1 x s o om te _ (by rw [ext_next]; unfold pid; omega) (by rw [ext_get_old ho]; exact hg) (by rw [ext_next]; unfold pid; omega) (by rw [ext_get_old hom]; exact hm)) ?_
    (try simp only[↓jr,jw,seval,ji,ext_ext,pid_pid,hb79])
    refine wq.intro (fun q2 => ?_) (fun q2 => ?_)
    · (try simp only[↓jr,jw,seval,ji,ext_ext,pid_pid,hb79])
      refine wc.intro (by unfold R64; omega) ?_
      (try simp only[↓jr,jw,seval,ji,ext_ext,pid_pid,hb79])
      refine JNEXT.of (k + 1) ⟨by omega, by rw [take_snoc hd, List.any_append, hI]; simp [q2]⟩ (by omega) ?_ JDropH.nx
      (try simp only[↓jr,jw,seval,ji,ext_ext,pid_pid,hb79,DL])
      exact ⟨SubB.v, SubB.v, SubB.sl rfl (SubBs.pure (PR.pur _)), SubB.fn True.intro ⟨SubB.ptr (by unfold pid; omega), True.intro⟩⟩
    · (try simp only[↓jr,jw,seval,ji,ext_ext,pid_pid,hb79])
      refine JFIN.rb ?_
      rw [firstI_hit hd hI (by simp [q2])]
      exact SubB.v
  · (try simp only[↓jr,jw,seval,ji,ext_ext,pid_pid,hb79])
    rw [List.take_of_length_le (by omega)] at hI
    refine JFIN.rb ?_
    rw [firstI_none hI]
    exact SubB.v
def ir78 : IFn := ⟨9, [⟨4, none⟩], (.seq (.reg [oA 4 (.mov (kB false))]) (.seq (.reg [oA 5 (kM 0), oA 6 (kM 1), oA 7 (.call 101 [.r 5, .r 6]), oA 8 (.bin .geq (.r 7) (kI 0)), oA 4 (kM 8)]) .ret))⟩
theorem c78 : cfunc Tryd.prog 78 = some ir78 := by kernel_rfl
theorem k78 : okIR (max 2 ir78.n) ir78.ir = true := by decide +kernel
theorem s_ContainsF (l : List (Int × Int)) (hl : l.length < 4611686018427387904) (tok : Tok) (s : List (Int × Int)) (o om : Nat) (te : TypeId) (j : JH) (ho : o < j.next) (hg : j.get o = some (.cells te [.mp om])) (hom : om < j.next) (hm : j.get om = some (.map (mapP s))) :
    JC Tryd.prog G 78 [.sl tok l.length (encs PR l), .fn (.func 79) [] [.ptr o 0]] j (RET (BOO (!l.all fun q => decide (q ∈ s))) j) := by
  refine JC.run hmix c78 (by exact k78) ?_
  (try simp only[↓jr,jw,seval,ji,ext_ext,pid_pid,ir78])
  refine JCs.ret (s_IndexF l hl _ s o om te _ (by rw [ext_next]; unfold pid; omega) (by rw [ext_get_old ho]; exact hg) (by rw [ext_next]; unfold pid; omega) (by rw [ext_get_old hom]; exact hm)) ?_
  (try simp only[↓jr,jw,seval,ji,ext_ext,pid_pid])
  refine JFIN.rb ?_
  rw [firstI_any, List.not_all_eq_any_not]
  exact SubB.v
end
end Go.Proofs.YtnkkeenclhncmaaDoor.Pg
