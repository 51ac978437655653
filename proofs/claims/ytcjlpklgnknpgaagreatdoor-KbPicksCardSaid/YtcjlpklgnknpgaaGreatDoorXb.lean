/-
  KbPicks: the plain law of picks; the walk of the law.
-/
import Derived.Test.YtcjlpklgnknpgaaGreatDoorXa
import Derived.Test.YtcjlpklgnknpgaaGreatDoorWl
set_option linter.unusedVariables false
set_option linter.unusedSimpArgs false
set_option maxRecDepth 100000
set_option maxHeartbeats 8000000
namespace Go.Proofs.YtcjlpklgnknpgaaGreatDoor.Pg
open Go
theorem risF_gt {lim : Int} : ∀ (l : List Int) (p : Int), risF lim p l = true → ∀ i ∈ l, p < i
 | [], _, _ => fun i h => by cases h
 | x :: l, p, h => by
  simp only [risF, Bool.and_eq_true, decide_eq_true_eq] at h
  intro i hi
  rcases List.mem_cons.1 hi with rfl | hi
  ·exact h.1.1
  ·exact Int.lt_trans h.1.1 (risF_gt l x h.2 i hi)
theorem sel_aux (A : List Ax) (l : List Int) : ∀ (suf : List Ax) (i : Nat) (l1 l2 : List Int), A.drop i = suf → l = l1 ++ l2 → (∀ z ∈ l1, z < i) → risF A.length ((i : Int) - 1) l2 = true → pks A l2 = selO l i suf
 | [], i, l1, l2, hA, hl, h1, h2 => by
  have : A.length ≤ i := List.drop_eq_nil_iff.1 hA
  cases l2 with
  | nil => rfl
  | cons y r =>
   simp only [risF, Bool.and_eq_true, decide_eq_true_eq] at h2
   omega
 | x :: suf, i, l1, l2, hA, hl, h1, h2 => by
  have hi : A[i]? = some x := by rw [← List.head?_drop, hA]; rfl
  have hA1 : A.drop (i + 1) = suf := by rw [← List.drop_drop, hA]; rfl
  cases l2 with
  | nil =>
   have hn : ¬ ((i : Int) ∈ l) := fun q => by
    rw [hl, List.append_nil] at q
    have := h1 _ q; omega
   rw [selO, if_neg hn]
   exact sel_aux A l suf (i + 1) l1 [] hA1 hl (fun z hz => by have := h1 z hz; omega) rfl
  | cons y r =>
   have h2' := h2
   simp only [risF, Bool.and_eq_true, decide_eq_true_eq] at h2
   obtain ⟨⟨q1, q2⟩, q3⟩ := h2
   by_cases hy : y = (i : Int)
   ·have hm : (i : Int) ∈ l := by rw [hl, ← hy]; simp
    rw [selO, if_pos hm]
    have ep : pks A (y :: r) = x :: pks A r := by
     have : y.toNat = i := by omega
     simp only [pks, List.filterMap_cons, this, hi]
    rw [ep, sel_aux A l suf (i + 1) (l1 ++ [y]) r hA1 (by rw [hl]; simp) (fun z hz => by
     rcases List.mem_append.1 hz with h | h
     ·have := h1 z h; omega
     ·have := List.mem_singleton.1 h; omega) (by rw [← q3]; congr 1; omega)]
   ·have hn : ¬ ((i : Int) ∈ l) := fun q => by
     rw [hl] at q
     rcases List.mem_append.1 q with h | h
     ·have := h1 _ h; omega
     ·rcases List.mem_cons.1 h with h | h
      ·exact hy h.symm
      ·have := risF_gt r y q3 _ h; omega
    rw [selO, if_neg hn]
    refine sel_aux A l suf (i + 1) l1 (y :: r) hA1 hl (fun z hz => by have := h1 z hz; omega) ?_
    simp only [risF, Bool.and_eq_true, decide_eq_true_eq]
    exact ⟨⟨by omega, q2⟩, q3⟩
theorem selO_app {α : Type} (l : List Int) : ∀ (i : Nat) (a b : List α), selO l i (a ++ b) = selO l i a ++ selO l (i + a.length) b
 | i, [], b => by simp [selO]
 | i, x :: a, b => by
  have := selO_app l (i + 1) a b
  have e : i + 1 + a.length = i + (x :: a).length := by rw [List.length_cons]; omega
  rw [e] at this
  rw [List.cons_append, selO, selO, this]
  split <;> rfl
theorem selO_map {α β : Type} (f : α → β) (l : List Int) : ∀ (i : Nat) (a : List α), selO l i (a.map f) = (selO l i a).map f
 | i, [] => rfl
 | i, x :: a => by
  have := selO_map f l (i + 1) a
  rw [List.map_cons, selO, selO, this]
  split <;> rfl
theorem rOnly_axs (b : Bas) (l : List Int) : (rOnly b l).axs = selO l 0 b.axs := by
 unfold Bas.axs
 rw [selO_app, selO_app, selO_app, selO_map, selO_map, selO_map, selO_map]
 simp only [rOnly, List.length_append, List.length_map, Nat.zero_add]
theorem picks_eq {b : Bas} {l : List Int} (h : rising l b.count = true) : ofB b.nms (pks b.axs l) = rOnly b l := by
 have e : pks b.axs l = (rOnly b l).axs := by
  rw [rOnly_axs]
  refine sel_aux b.axs l b.axs 0 [] l rfl rfl (fun z hz => by cases hz) ?_
  rw [axs_count]; exact h
 rw [e]
 unfold ofB
 rw [incsOf_axs, rolsOf_axs, facsOf_axs, lnksOf_axs]
 rfl
structure Sm (b : Bas) : Prop where
 n1 : b.nms.cs.length ≤ 100
 n2 : b.nms.rs.length ≤ 100
 n3 : b.nms.is.length ≤ 100
 l1 : b.incls.length ≤ 200
 l2 : b.roles.length ≤ 200
 l3 : b.facts.length ≤ 200
 l4 : b.links.length ≤ 200
 m1 : ∀ x ∈ b.incls, x.sub.nodes ≤ 1000000 ∧ x.sup.nodes ≤ 1000000
 m2 : ∀ x ∈ b.facts, x.con.nodes ≤ 1000000
 few : b.few
 ax : ∀ x ∈ b.axs, x.ok
theorem few_sm {b : Bas} (hb : b.ok) (h : fewB 3000 b = true) : Sm b := by
 have h3 := few3 h
 unfold fewB at h
 simp only [Bool.and_eq_true] at h
 have hn := h.1.1.2
 unfold fewNames at hn
 have hc : ∀ l ∈ b.nms.lists, l.length ≤ 100 := fun l hl => by
  have := List.all_eq_true.1 hn l hl
  simp only [Bool.and_eq_true, decide_eq_true_eq] at this
  exact this.1
 have m1 : ∀ x ∈ b.incls, x.sub.nodes ≤ 1000000 ∧ x.sup.nodes ≤ 1000000 := fun x hx => by
  obtain ⟨p1, p2⟩ := mem_consI hx
  have a1 := sumN_mem' (l := b.cons) (List.mem_append.2 (.inl p1))
  have a2 := sumN_mem' (l := b.cons) (List.mem_append.2 (.inl p2))
  have := h3.s; omega
 have m2 : ∀ x ∈ b.facts, x.con.nodes ≤ 1000000 := fun x hx => by
  have a1 := sumN_mem' (l := b.cons) (List.mem_append.2 (.inr (mem_consF hx)))
  have := h3.s; omega
 refine ⟨hc _ (by simp [Nms.lists]), hc _ (by simp [Nms.lists]), hc _ (by simp [Nms.lists]), h3.i, h3.r, h3.f, h3.l, m1, m2, h3.few, fun x hx => ?_⟩
 unfold Bas.axs at hx
 simp only [List.mem_append, List.mem_map] at hx
 rcases hx with ((⟨y, hy, rfl⟩ | ⟨y, hy, rfl⟩) | ⟨y, hy, rfl⟩) | ⟨y, hy, rfl⟩
 ·exact ⟨hb.incls y hy, m1 y hy⟩
 ·trivial
 ·exact ⟨(hb.facts y hy).2, m2 y hy⟩
 ·trivial
section
variable {m : GM} {G : Nat → Option (List AV)}
noncomputable def ir23 : IFn := ⟨31, [⟨4, (some (some 7))⟩, ⟨5, none⟩], (.seq (.reg [oA 2 (.box 30 (.r 0)), oA 3 (.box 30 (.r 1)), oA 4 (.alloc 30 [.sl .nil 0 [], .sl .nil 0 [], .sl .nil 0 [], .sl .nil 0 [], .sl .nil 0 [], .sl .nil 0 [], .sl .nil 0 []]), oA 5 (.mov (kI 0))]) (.seq (.seq (.reg [oL 7 2 (some 7), oT 8 7 (.call 48 [.r 7]), oA 9 (.not (.r 8)), oA 10 (kM 9), ⟨(some 11), (some ((10, false))), (some (.r 3)), (.load (some 7) (.r 3))⟩, ⟨(some 12), (some ((10, false))), (some (.r 11)), (.call 48 [.r 11])⟩, ⟨(some 13), (some ((10, false))), none, (.not (.r 12))⟩, oA 14 (.pick (.r 10) (kB true) (.r 13))]) (.cond (.r 14) (.seq (.reg [oA 15 (.build [.sl .nil 0 [], .sl .nil 0 [], .sl .nil 0 [], .sl .nil 0 [], .sl .nil 0 [], .sl .nil 0 [], .sl .nil 0 []] []), oN (.store 7 (.r 4) (.r 15)), oA 5 (.mov (kI 20))]) .ret) .skip)) (.seq (.seq (.reg [oA 16 (.fadr 0 (.r 2)), oL 17 16 (some 3), oA 18 (.fadr 0 (.r 3)), oL 19 18 (some 3), oA 20 (.call 52 [.r 17, .r 19]), oA 21 (.not (.r 20))]) (.cond (.r 21) (.seq (.reg [oA 22 (.build [.sl .nil 0 [], .sl .nil 0 [], .sl .nil 0 [], .sl .nil 0 [], .sl .nil 0 [], .sl .nil 0 [], .sl .nil 0 []] []), oN (.store 7 (.r 4) (.r 22)), oA 5 (.mov (kI 1))]) .ret) .skip)) (.seq (.reg [oL 23 2 (some 7), oL 24 3 (some 7), oA 25 (.call 62 [.r 23, .r 24]), oA 6 (.alloc 30 [.sl .nil 0 [], .sl .nil 0 [], .sl .nil 0 [], .sl .nil 0 [], .sl .nil 0 [], .sl .nil 0 [], .sl .nil 0 []]), oN (.store 7 (.r 6) (.r 25))]) (.seq (.seq (.reg [oL 26 6 (some 7), oT 27 26 (.call 48 [.r 26]), oA 28 (.not (.r 27))]) (.cond (.r 28) (.seq (.reg [oA 29 (.build [.sl .nil 0 [], .sl .nil 0 [], .sl .nil 0 [], .sl .nil 0 [], .sl .nil 0 [], .sl .nil 0 [], .sl .nil 0 []] []), oN (.store 7 (.r 4) (.r 29)), oA 5 (.mov (kI 2))]) .ret) .skip)) (.seq (.reg [oL 30 6 (some 7), oN (.store 7 (.r 4) (.r 30)), oA 5 (.mov (kI 0))]) .ret))))))⟩
theorem c23 : cfunc Tryz.prog 23 = some ir23 := by kernel_rfl
theorem k23 : okIR (max 2 ir23.n) ir23.ir = true := by decide +kernel
theorem s_joined (a b : Bas) (ha : a.ok) (hb : b.ok) (sa : Sm a) (sb : Sm b) (j : JH) :
  JC Tryz.prog (GG m) 23 [.agg a.enc, .agg b.enc] j (RET (.tup [.agg (jnB a b).enc, I64 (jnE a b)]) j) := by
 obtain ⟨n1, n2, n3, l1, l2, l3, l4, m1, m2, _, _⟩ := sa
 obtain ⟨n1', n2', n3', l1', l2', l3', l4', m1', m2', _, _⟩ := sb
 have hj := joinB_ok ha hb (by omega) (by omega) (by omega) (by omega) (by omega) (by omega) (by omega) (by omega)
 refine JC.run hmix c23 (by exact k23) ?_
 (try simp only[↓jr,jw,seval,ir23])
 refine JCs.ret (s_kIs a ha _) ?_
 rw [basR_eq]
 (try simp only[↓jr,jw,seval])
 refine ww.intro (fun hva => ?_) (fun hva => ?_)
 ·(try simp only[↓jr,jw,seval])
  refine JCs.ret (s_kIs b hb _) ?_
  rw [basR_eq]
  (try simp only[↓jr,jw,seval])
  refine ww.intro (fun hvb => ?_) (fun hvb => ?_)
  ·(try simp only[↓jr,jw,seval])
   refine JCs.ret (s_nEq a.nms b.nms (by omega) (by omega) (by omega) (by omega) (by omega) (by omega) _) ?_
   (try simp only[↓jr,jw,seval])
   refine wq.intro (fun hnm => ?_) (fun hnm => ?_)
   ·(try simp only[↓jr,jw,seval])
    refine JCs.ret (s_rJoin a b ha (by omega) (by omega) (by omega) (by omega) (by omega) (by omega) (by omega) m1 m2 (by omega) (by omega) (by omega) (by omega) _) ?_
    (try simp only[↓jr,jw,seval])
    refine JCs.ret (s_kIs (joinB a b) hj _) ?_
    rw [basR_eq]
    (try simp only[↓jr,jw,seval])
    refine ww.intro (fun hvj => ?_) (fun hvj => ?_)
    ·(try simp only[↓jr,jw,seval])
     refine JFIN.rb ?_
     unfold jnB jnE
     rw [if_pos ⟨hva, hvb⟩, if_pos hnm, if_pos hvj, if_pos ⟨hva, hvb⟩, if_pos hnm, if_pos hvj]
     exact SubB.tup ⟨Bas.sub, SubB.v, True.intro⟩
    ·(try simp only[↓jr,jw,seval])
     refine JFIN.rb ?_
     unfold jnB jnE
     rw [if_pos ⟨hva, hvb⟩, if_pos hnm, if_neg (by rw [hvj]; simp), if_pos ⟨hva, hvb⟩, if_pos hnm, if_neg (by rw [hvj]; simp)]
     exact SubB.tup ⟨SubB.agg noB_sub, SubB.v, True.intro⟩
   ·(try simp only[↓jr,jw,seval])
    refine JFIN.rb ?_
    unfold jnB jnE
    rw [if_pos ⟨hva, hvb⟩, if_neg hnm, if_pos ⟨hva, hvb⟩, if_neg hnm]
    exact SubB.tup ⟨SubB.agg noB_sub, SubB.v, True.intro⟩
  ·(try simp only[↓jr,jw,seval])
   refine JFIN.rb ?_
   unfold jnB jnE
   rw [if_neg (by rw [hvb]; simp), if_neg (by rw [hvb]; simp)]
   exact SubB.tup ⟨SubB.agg noB_sub, SubB.v, True.intro⟩
 ·(try simp only[↓jr,jw,seval])
  refine JFIN.rb ?_
  unfold jnB jnE
  rw [if_neg (by rw [hva]; simp), if_neg (by rw [hva]; simp)]
  exact SubB.tup ⟨SubB.agg noB_sub, SubB.v, True.intro⟩
theorem noB_ok : noB.ok :=
 ⟨⟨by decide, by decide, by decide⟩, fun l hl s hs => by simp [noB, Nms.lists] at hl; subst hl; exact absurd hs (by simp), (by decide), (by decide), (by decide), (by decide), fun x h => (by cases h), fun x h => (by cases h), fun x h => (by cases h), fun x h => (by cases h)⟩
theorem jnB_ok {a b : Bas} (ha : a.ok) (hb : b.ok) (sa : Sm a) (sb : Sm b) : (jnB a b).ok ∧ (jnB a b).nms.cs.length ≤ 100 ∧ (jnB a b).nms.rs.length ≤ 100 ∧ (jnB a b).nms.is.length ≤ 100 ∧ (jnB a b).incls.length ≤ 400 ∧ (jnB a b).roles.length ≤ 400 ∧ (jnB a b).facts.length ≤ 400 ∧ (jnB a b).links.length ≤ 400 := by
 have h0 : noB.ok ∧ noB.nms.cs.length ≤ 100 ∧ noB.nms.rs.length ≤ 100 ∧ noB.nms.is.length ≤ 100 ∧ noB.incls.length ≤ 400 ∧ noB.roles.length ≤ 400 ∧ noB.facts.length ≤ 400 ∧ noB.links.length ≤ 400 := ⟨noB_ok, by decide, by decide, by decide, by decide, by decide, by decide, by decide⟩
 obtain ⟨n1, n2, n3, l1, l2, l3, l4, m1, m2, _, _⟩ := sa
 obtain ⟨n1', n2', n3', l1', l2', l3', l4', m1', m2', _, _⟩ := sb
 unfold jnB
 split
 ·split
  ·split
   ·exact ⟨joinB_ok ha hb (by omega) (by omega) (by omega) (by omega) (by omega) (by omega) (by omega) (by omega), n1, n2, n3, by simp only [joinB, List.length_append]; omega, by simp only [joinB, List.length_append]; omega, by simp only [joinB, List.length_append]; omega, by simp only [joinB, List.length_append]; omega⟩
   ·exact h0
  ·exact h0
 ·exact h0
theorem selO_mem {α : Type} (l : List Int) : ∀ (i : Nat) (r : List α) (x : α), x ∈ selO l i r → x ∈ r
 | _, [], x, h => h
 | i, y :: r, x, h => by
  rw [selO] at h
  split at h
  ·rcases List.mem_cons.1 h with rfl | h
   ·exact List.mem_cons_self
   ·exact List.mem_cons_of_mem _ (selO_mem l (i + 1) r x h)
  ·exact List.mem_cons_of_mem _ (selO_mem l (i + 1) r x h)
theorem rOnly_ok {a : Bas} (ha : a.ok) (sa : Sm a) (l : List Int) : (rOnly a l).ok ∧ (rOnly a l).nms.cs.length ≤ 100 ∧ (rOnly a l).nms.rs.length ≤ 100 ∧ (rOnly a l).nms.is.length ≤ 100 ∧ (rOnly a l).incls.length ≤ 200 ∧ (rOnly a l).roles.length ≤ 200 ∧ (rOnly a l).facts.length ≤ 200 ∧ (rOnly a l).links.length ≤ 200 := by
 obtain ⟨n1, n2, n3, l1, l2, l3, l4, m1, m2, _, _⟩ := sa
 have c1 : (rOnly a l).incls.length ≤ 200 := Nat.le_trans (selO_len _ _ _) l1
 have c2 : (rOnly a l).roles.length ≤ 200 := Nat.le_trans (selO_len _ _ _) l2
 have c3 : (rOnly a l).facts.length ≤ 200 := Nat.le_trans (selO_len _ _ _) l3
 have c4 : (rOnly a l).links.length ≤ 200 := Nat.le_trans (selO_len _ _ _) l4
 exact ⟨⟨ha.nms, ha.short, by omega, by omega, by omega, by omega, fun x hx => ha.incls x (selO_mem _ _ _ _ hx), fun x hx => ha.roles x (selO_mem _ _ _ _ hx), fun x hx => ha.facts x (selO_mem _ _ _ _ hx), fun x hx => ha.links x (selO_mem _ _ _ _ hx)⟩, n1, n2, n3, c1, c2, c3, c4⟩
noncomputable def ir4 : IFn := ⟨128, [⟨8, none⟩], (.seq (.reg [oA 4 (.box 30 (.r 0)), oA 5 (.box 30 (.r 1)), oA 8 (.mov (kB false))]) (.seq (.seq (.reg [oL 21 4 (some 7), oA 22 (.call 8 [.r 21, .k (.v (.int .i64 3000))]), oA 23 (.not (.r 22)), oA 24 (kM 23), ⟨(some 25), (some ((24, false))), (some (.r 5)), (.load (some 7) (.r 5))⟩, ⟨(some 26), (some ((24, false))), none, (.call 8 [.r 25, .k (.v (.int .i64 3000))])⟩, ⟨(some 27), (some ((24, false))), none, (.not (.r 26))⟩, oA 28 (.pick (.r 24) (kB true) (.r 27)), oA 29 (kM 28), ⟨(some 30), (some ((29, false))), none, (kM 2)⟩, ⟨(some 31), (some ((29, false))), (some (.r 30)), (.lenl (.r 30))⟩, ⟨(some 32), (some ((29, false))), none, (.bin .gtr (.r 31) (kI 300))⟩, oA 33 (.pick (.r 29) (kB true) (.r 32))]) (.cond (.r 33) (.seq (.reg [oA 34 (.call 9 []), oA 8 (kM 34)]) .ret) .skip)) (.seq (.reg [oL 36 4 (some 7), oA 37 (kM 2), oA 38 (.call 16 [.r 36, .r 37]), oA 35 (kM 38), oA 39 (.ext (.r 35) 0), oA 40 (.ext (.r 35) 1), oA 9 (.alloc 30 [.sl .nil 0 [], .sl .nil 0 [], .sl .nil 0 [], .sl .nil 0 [], .sl .nil 0 [], .sl .nil 0 [], .sl .nil 0 []]), oN (.store 7 (.r 9) (.r 39)), oA 10 (kM 40)]) (.seq (.reg [oL 42 4 (some 7), oA 43 (kM 3), oA 44 (.call 17 [.r 42, .r 43]), oA 41 (kM 44), oA 45 (.ext (.r 41) 0), oA 46 (.ext (.r 41) 1), oA 11 (kM 45), oA 12 (kM 46)]) (.seq (.reg [oL 48 4 (some 7), oL 49 5 (some 7), oA 50 (.call 18 [.r 48, .r 49]), oA 47 (kM 50), oA 51 (.ext (.r 47) 0), oA 52 (.ext (.r 47) 1), oA 13 (.alloc 30 [.sl .nil 0 [], .sl .nil 0 [], .sl .nil 0 [], .sl .nil 0 [], .sl .nil 0 [], .sl .nil 0 [], .sl .nil 0 []]), oN (.store 7 (.r 13) (.r 51)), oA 14 (kM 52)]) (.seq (.reg [oA 53 (.build [.sl .nil 0 [], .sl .nil 0 [], .sl .nil 0 [], .sl .nil 0 [], .sl .nil 0 [], .sl .nil 0 [], .sl .nil 0 []] []), oL 54 4 (some 7), oT 55 54 (.call 12 [.r 54]), oA 15 (.alloc 30 [.sl .nil 0 [], .sl .nil 0 [], .sl .nil 0 [], .sl .nil 0 [], .sl .nil 0 [], .sl .nil 0 [], .sl .nil 0 []]), oN (.store 7 (.r 15) (.r 53)), oA 16 (kM 55)]) (.seq (.seq (.reg [oA 56 (kM 16), oA 57 (.bin .eql (.r 56) (kI 0)), oA 58 (kM 57), ⟨(some 59), (some ((58, true))), none, (kM 2)⟩, ⟨(some 60), (some ((58, true))), (some (.r 4)), (.load (some 7) (.r 4))⟩, ⟨(some 61), (some ((58, true))), (some (.r 60)), (.call 20 [.r 60])⟩, ⟨(some 62), (some ((58, true))), none, (.call 19 [.r 59, .r 61])⟩, ⟨(some 63), (some ((58, true))), none, (.not (.r 62))⟩, oA 64 (.pick (.r 58) (.r 63) (kB false))]) (.cond (.r 64) (.reg [oA 16 (.mov (kI 1))]) (.seq (.reg [oA 65 (kM 16), oA 66 (.bin .eql (.r 65) (kI 0))]) (.cond (.r 66) (.reg [oL 67 4 (some 7), oA 68 (kM 2), oA 69 (.call 21 [.r 67, .r 68]), oN (.store 7 (.r 15) (.r 69))]) .skip)))) (.seq (.reg [oL 70 4 (some 7), oT 71 70 (.call 12 [.r 70]), oA 17 (.mov (.k (.v (.string ⟨#[]⟩)))), oA 18 (kM 71)]) (.seq (.seq (.reg [oA 72 (kM 18), oA 73 (.bin .eql (.r 72) (kI 0)), oA 74 (kM 73), ⟨(some 75), (some ((74, true))), none, (kM 3)⟩, ⟨(some 76), (some ((74, true))), none, (.bin .lss (.r 75) (kI 0))⟩, ⟨(some 77), (some ((74, true))), none, (kM 76)⟩, ⟨(some 78), (some ((77, false))), none, (kM 3)⟩, ⟨(some 79), (some ((77, false))), (some (.r 4)), (.load (some 7) (.r 4))⟩, ⟨(some 80), (some ((77, false))), (some (.r 79)), (.call 20 [.r 79])⟩, ⟨(some 81), (some ((77, false))), none, (.bin .geq (.r 78) (.r 80))⟩, ⟨(some 82), (some ((74, true))), none, (.pick (.r 77) (kB true) (.r 81))⟩, oA 83 (.pick (.r 74) (.r 82) (kB false))]) (.cond (.r 83) (.reg [oA 18 (.mov (kI 1))]) (.seq (.reg [oA 84 (kM 18), oA 85 (.bin .eql (.r 84) (kI 0))]) (.cond (.r 85) (.reg [oL 86 4 (some 7), oT 87 86 (.call 22 [.r 86]), oA 88 (kM 3), oA 89 (.iasl 1 (.r 87) (.r 88)), oL 90 89 none, oA 17 (kM 90)]) .skip)))) (.seq (.reg [oL 92 4 (some 7), oL 93 5 (some 7), oA 94 (.call 23 [.r 92, .r 93]), oA 91 (kM 94), oA 95 (.ext (.r 91) 0), oA 96 (.ext (.r 91) 1), oA 19 (.alloc 30 [.sl .nil 0 [], .sl .nil 0 [], .sl .nil 0 [], .sl .nil 0 [], .sl .nil 0 [], .sl .nil 0 [], .sl .nil 0 []]), oN (.store 7 (.r 19) (.r 95)), oA 20 (kM 96)]) (.seq (.reg [oA 97 (kM 10), oA 98 (kM 16), oA 99 (.bin .eql (.r 97) (.r 98)), oA 100 (kM 99), ⟨(some 101), (some ((100, true))), (some (.r 9)), (.load (some 7) (.r 9))⟩, ⟨(some 102), (some ((100, true))), (some (.r 15)), (.load (some 7) (.r 15))⟩, ⟨(some 103), (some ((100, true))), none, (.call 15 [.r 101, .r 102])⟩, oA 104 (.pick (.r 100) (.r 103) (kB false)), oA 105 (kM 104), ⟨(some 106), (some ((105, true))), none, (kM 12)⟩, ⟨(some 107), (some ((105, true))), none, (kM 18)⟩, ⟨(some 108), (some ((105, true))), none, (.bin .eql (.r 106) (.r 107))⟩, oA 109 (.pick (.r 105) (.r 108) (kB false)), oA 110 (kM 109), ⟨(some 111), (some ((110, true))), none, (kM 11)⟩, ⟨(some 112), (some ((110, true))), none, (kM 17)⟩, ⟨(some 113), (some ((110, true))), none, (.bin .eql (.r 111) (.r 112))⟩, oA 114 (.pick (.r 110) (.r 113) (kB false)), oA 115 (kM 114), ⟨(some 116), (some ((115, true))), none, (kM 14)⟩, ⟨(some 117), (some ((115, true))), none, (kM 20)⟩, ⟨(some 118), (some ((115, true))), none, (.bin .eql (.r 116) (.r 117))⟩, oA 119 (.pick (.r 115) (.r 118) (kB false)), oA 120 (kM 119), ⟨(some 121), (some ((120, true))), (some (.r 13)), (.load (some 7) (.r 13))⟩, ⟨(some 122), (some ((120, true))), (some (.r 19)), (.load (some 7) (.r 19))⟩, ⟨(some 123), (some ((120, true))), none, (.call 15 [.r 121, .r 122])⟩, oA 124 (.pick (.r 120) (.r 123) (kB false)), oA 125 (kM 124), ⟨(some 126), (some ((125, true))), none, (.call 9 [])⟩, oA 127 (.pick (.r 125) (.r 126) (kB false)), oA 8 (kM 127)]) .ret)))))))))))⟩
theorem c4 : cfunc Tryz.prog 4 = some ir4 := by kernel_rfl
theorem k4 : okIR (max 4 ir4.n) ir4.ir = true := by decide +kernel
theorem s_KbPicks (aw : ∀ j : JH, JC Tryz.prog (GG m) 9 [] j (RET (BOO true) j)) (a : Bas) (ha : a.ok) (b : Bas) (hb : b.ok) (l : List Int) (k : Int) (hl : l.length < 4611686018427387904) (j : JH) :
  JC Tryz.prog (GG m) 4 [.agg a.enc, .agg b.enc, .sl .none l.length (ints l), I64 k] j (RET (BOO true) j) := by
 refine JC.run hmix c4 (by exact k4) ?_
 (try simp only[↓jr,jw,seval,ints_le,ir4])
 refine JCs.ret (s_Few a ha 3000 (by decide) (by decide) _) ?_
 (try simp only[↓jr,jw,seval,ints_le])
 refine ww.intro (fun h0 => ?_) (fun h0 => by (try simp only[↓jr,jw,seval,ints_le]); refine JCs.ret (aw _) ?_; (try simp only[↓jr,jw,seval,ints_le]); refine JFIN.rb ?_; exact SubB.v)
 (try simp only[↓jr,jw,seval,ints_le])
 refine JCs.ret (s_Few b hb 3000 (by decide) (by decide) _) ?_
 (try simp only[↓jr,jw,seval,ints_le])
 refine ww.intro (fun h1 => ?_) (fun h1 => by (try simp only[↓jr,jw,seval,ints_le]); refine JCs.ret (aw _) ?_; (try simp only[↓jr,jw,seval,ints_le]); refine JFIN.rb ?_; exact SubB.v)
 (try simp only[↓jr,jw,seval,ints_le])
 refine wq.intro (fun h2 => by (try simp only[↓jr,jw,seval,ints_le]); refine JCs.ret (aw _) ?_; (try simp only[↓jr,jw,seval,ints_le]); refine JFIN.rb ?_; exact SubB.v) (fun h2 => ?_)
 have sa := few_sm ha h0
 have sb := few_sm hb h1
 have hll : l.length ≤ 300 := by omega
 obtain ⟨jo1, j1, j2, j3, j4, j5, j6, j7⟩ := jnB_ok ha hb sa sb
 have sa' := sa
 obtain ⟨_, _, _, sl1, sl2, sl3, sl4, _, _, _, _⟩ := sa'
 (try simp only[↓jr,jw,seval,ints_le])
 refine JCs.ret (s_Only a ha sa.few (by have := sa.n1; omega) (by have := sa.n2; omega) (by have := sa.n3; omega) (by have := sa.l1; omega) (by have := sa.l2; omega) (by have := sa.l3; omega) (by have := sa.l4; omega) sa.ax l (by omega) _) ?_
 (try simp only[↓jr,jw,seval,ints_le])
 refine JCs.ret (s_Line a ha sa.few (by have := sa.l1; omega) (by have := sa.l2; omega) (by have := sa.l3; omega) (by have := sa.l4; omega) k _) ?_
 (try simp only[↓jr,jw,seval,ints_le])
 refine JCs.ret (s_kbJoin a b ha hb sa.few sb.few (by have := sa.n1; omega) (by have := sa.n2; omega) (by have := sa.n3; omega) (by have := sb.n1; omega) (by have := sb.n2; omega) (by have := sb.n3; omega) (by have := sa.l1; omega) (by have := sa.l2; omega) (by have := sa.l3; omega) (by have := sa.l4; omega) (by have := sb.l1; omega) (by have := sb.l2; omega) (by have := sb.l3; omega) (by have := sb.l4; omega) sa.ax sb.ax _) ?_
 (try simp only[↓jr,jw,seval,ints_le])
 refine JCs.ret (s_lfault a ha _) ?_
 cases hv : basV a with
 | false =>
  have e1 : basE a = 20 := by unfold basE; rw [hv]; rfl
  have e2 : onlyB a l = noB := by unfold onlyB; rw [hv]; rfl
  have e3 : onlyE a l = 20 := by unfold onlyE; rw [hv]; rfl
  have e4 : linS a k = ⟨#[]⟩ := by unfold linS; rw [hv]; rfl
  have e5 : linE a k = 20 := by unfold linE; rw [hv]; rfl
  rw [e1, e2, e3, e4, e5]
  (try simp only[↓jr,jw,seval,ints_le])
  refine JCs.ret (s_lfault a ha _) ?_
  rw [e1]
  (try simp only[↓jr,jw,seval,ints_le])
  refine JCs.ret (s_joined a b ha hb sa sb _) ?_
  (try simp only[↓jr,jw,seval,ints_le])
  refine JCs.ret (JC.sub (args' := [.agg noB.enc, .agg noB.enc]) ⟨Bas.sub, SubB.agg noB_sub, True.intro⟩ (s_bSame noB noB_ok (by decide) (by decide) (by decide) (by decide) (by decide) (by decide) (by decide) _)) ?_
  (try simp only[↓jr,jw,seval,ints_le])
  refine JCs.ret (s_bSame (jnB a b) jo1 (by omega) (by omega) (by omega) (by omega) (by omega) (by omega) (by omega) _) ?_
  (try simp only[↓jr,jw,seval,ints_le])
  refine JCs.ret (aw _) ?_
  (try simp only[↓jr,jw,seval,ints_le])
  refine JFIN.rb ?_
  exact SubB.v
 | true =>
  have e1 : basE a = 0 := by unfold basE; rw [hv]; rfl
  rw [e1]
  (try simp only[↓jr,jw,seval,ints_le])
  refine JCs.ret (s_Axioms a ha _) ?_
  (try simp only[↓jr,jw,seval,ints_le])
  refine JCs.ret (s_rRising l .none a.count (by omega) _) ?_
  (try simp only[↓jr,jw,seval,ints_le])
  refine ww.intro (fun hu => ?_) (fun hu => ?_)
  ·have e2 : onlyB a l = rOnly a l := by unfold onlyB; rw [if_pos hv, if_pos hu]; exact picks_eq hu
   have e3 : onlyE a l = 0 := by unfold onlyE; rw [if_pos hv, if_pos hu]
   rw [e2, e3]
   have ro := rOnly_ok ha sa l
   obtain ⟨ro1, r1, r2, r3, r4, r5, r6, r7⟩ := ro
   (try simp only[↓jr,jw,seval,ints_le])
   refine JCs.ret (s_rOnly a (by omega) (by omega) (by omega) (by omega) l (by omega) _) ?_
   (try simp only[↓jr,jw,seval,ints_le])
   refine JCs.ret (s_lfault a ha _) ?_
   rw [e1]
   (try simp only[↓jr,jw,seval,ints_le])
   refine wq.intro (fun k1 => ?_) (fun k1 => ?_)
   ·have e4 : linS a k = ⟨#[]⟩ := by unfold linS; rw [if_pos hv, if_neg (by unfold linOK; omega)]
    have e5 : linE a k = 1 := by unfold linE; rw [if_pos hv, if_neg (by unfold linOK; omega)]
    rw [e4, e5]
    (try simp only[↓jr,jw,seval,ints_le])
    refine JCs.ret (s_joined a b ha hb sa sb _) ?_
    (try simp only[↓jr,jw,seval,ints_le])
    refine JCs.ret (s_bSame (rOnly a l) ro1 (by omega) (by omega) (by omega) (by omega) (by omega) (by omega) (by omega) _) ?_
    (try simp only[↓jr,jw,seval,ints_le])
    refine JCs.ret (s_bSame (jnB a b) jo1 (by omega) (by omega) (by omega) (by omega) (by omega) (by omega) (by omega) _) ?_
    (try simp only[↓jr,jw,seval,ints_le])
    refine JCs.ret (aw _) ?_
    (try simp only[↓jr,jw,seval,ints_le])
    refine JFIN.rb ?_
    exact SubB.v
   (try simp only[↓jr,jw,seval,ints_le])
   refine JCs.ret (s_Axioms a ha _) ?_
   (try simp only[↓jr,jw,seval,ints_le])
   refine wq.intro (fun k2 => ?_) (fun k2 => ?_)
   ·have e4 : linS a k = ⟨#[]⟩ := by unfold linS; rw [if_pos hv, if_neg (by unfold linOK; omega)]
    have e5 : linE a k = 1 := by unfold linE; rw [if_pos hv, if_neg (by unfold linOK; omega)]
    rw [e4, e5]
    (try simp only[↓jr,jw,seval,ints_le])
    refine JCs.ret (s_joined a b ha hb sa sb _) ?_
    (try simp only[↓jr,jw,seval,ints_le])
    refine JCs.ret (s_bSame (rOnly a l) ro1 (by omega) (by omega) (by omega) (by omega) (by omega) (by omega) (by omega) _) ?_
    (try simp only[↓jr,jw,seval,ints_le])
    refine JCs.ret (s_bSame (jnB a b) jo1 (by omega) (by omega) (by omega) (by omega) (by omega) (by omega) (by omega) _) ?_
    (try simp only[↓jr,jw,seval,ints_le])
    refine JCs.ret (aw _) ?_
    (try simp only[↓jr,jw,seval,ints_le])
    refine JFIN.rb ?_
    exact SubB.v
   have e5 : linE a k = 0 := by unfold linE; rw [if_pos hv, if_pos (by unfold linOK; omega)]
   have e4 : linS a k = nthS (a.axs.map (Ax.str a.nms)) k.toNat := by unfold linS; rw [if_pos hv, if_pos (by unfold linOK; omega)]
   rw [e4, e5]
   have hW := basV_W hv
   (try simp only[↓jr,jw,seval,ints_le])
   refine JCs.ret (s_rLines a (hW.small ha.nms) (hW.ax ha) (by omega) (by omega) (by omega) (by omega) _) ?_
   have hlm : (a.axs.map (Ax.str a.nms)).length = a.count := by rw [List.length_map, axs_count]
   obtain ⟨s0, r0, hd0, hs0, hm0⟩ := nth_hd (l := a.axs.map (Ax.str a.nms)) (i := k) (by omega) (by rw [hlm]; omega)
   rw [hs0]
   (try simp only[↓jr,jw,seval,ints_le,hd0])
   refine wc.intro ⟨by omega, by rw [axs_count]; omega⟩ ?_
   (try simp only[↓jr,jw,seval,ints_le,hd0])
   refine JCs.ret (s_joined a b ha hb sa sb _) ?_
   (try simp only[↓jr,jw,seval,ints_le])
   refine JCs.ret (s_bSame (rOnly a l) ro1 (by omega) (by omega) (by omega) (by omega) (by omega) (by omega) (by omega) _) ?_
   (try simp only[↓jr,jw,seval,ints_le])
   refine JCs.ret (s_bSame (jnB a b) jo1 (by omega) (by omega) (by omega) (by omega) (by omega) (by omega) (by omega) _) ?_
   (try simp only[↓jr,jw,seval,ints_le])
   refine JCs.ret (aw _) ?_
   (try simp only[↓jr,jw,seval,ints_le])
   refine JFIN.rb ?_
   exact SubB.v
  ·have e2 : onlyB a l = noB := by unfold onlyB; rw [if_pos hv, if_neg (by rw [hu]; simp)]
   have e3 : onlyE a l = 1 := by unfold onlyE; rw [if_pos hv, if_neg (by rw [hu]; simp)]
   rw [e2, e3]
   (try simp only[↓jr,jw,seval,ints_le])
   refine JCs.ret (s_lfault a ha _) ?_
   rw [e1]
   (try simp only[↓jr,jw,seval,ints_le])
   refine wq.intro (fun k1 => ?_) (fun k1 => ?_)
   ·have e4 : linS a k = ⟨#[]⟩ := by unfold linS; rw [if_pos hv, if_neg (by unfold linOK; omega)]
    have e5 : linE a k = 1 := by unfold linE; rw [if_pos hv, if_neg (by unfold linOK; omega)]
    rw [e4, e5]
    (try simp only[↓jr,jw,seval,ints_le])
    refine JCs.ret (s_joined a b ha hb sa sb _) ?_
    (try simp only[↓jr,jw,seval,ints_le])
    refine JCs.ret (JC.sub (args' := [.agg noB.enc, .agg noB.enc]) ⟨Bas.sub, SubB.agg noB_sub, True.intro⟩ (s_bSame noB noB_ok (by decide) (by decide) (by decide) (by decide) (by decide) (by decide) (by decide) _)) ?_
    (try simp only[↓jr,jw,seval,ints_le])
    refine JCs.ret (s_bSame (jnB a b) jo1 (by omega) (by omega) (by omega) (by omega) (by omega) (by omega) (by omega) _) ?_
    (try simp only[↓jr,jw,seval,ints_le])
    refine JCs.ret (aw _) ?_
    (try simp only[↓jr,jw,seval,ints_le])
    refine JFIN.rb ?_
    exact SubB.v
   (try simp only[↓jr,jw,seval,ints_le])
   refine JCs.ret (s_Axioms a ha _) ?_
   (try simp only[↓jr,jw,seval,ints_le])
   refine wq.intro (fun k2 => ?_) (fun k2 => ?_)
   ·have e4 : linS a k = ⟨#[]⟩ := by unfold linS; rw [if_pos hv, if_neg (by unfold linOK; omega)]
    have e5 : linE a k = 1 := by unfold linE; rw [if_pos hv, if_neg (by unfold linOK; omega)]
    rw [e4, e5]
    (try simp only[↓jr,jw,seval,ints_le])
    refine JCs.ret (s_joined a b ha hb sa sb _) ?_
    (try simp only[↓jr,jw,seval,ints_le])
    refine JCs.ret (JC.sub (args' := [.agg noB.enc, .agg noB.enc]) ⟨Bas.sub, SubB.agg noB_sub, True.intro⟩ (s_bSame noB noB_ok (by decide) (by decide) (by decide) (by decide) (by decide) (by decide) (by decide) _)) ?_
    (try simp only[↓jr,jw,seval,ints_le])
    refine JCs.ret (s_bSame (jnB a b) jo1 (by omega) (by omega) (by omega) (by omega) (by omega) (by omega) (by omega) _) ?_
    (try simp only[↓jr,jw,seval,ints_le])
    refine JCs.ret (aw _) ?_
    (try simp only[↓jr,jw,seval,ints_le])
    refine JFIN.rb ?_
    exact SubB.v
   have e5 : linE a k = 0 := by unfold linE; rw [if_pos hv, if_pos (by unfold linOK; omega)]
   have e4 : linS a k = nthS (a.axs.map (Ax.str a.nms)) k.toNat := by unfold linS; rw [if_pos hv, if_pos (by unfold linOK; omega)]
   rw [e4, e5]
   have hW := basV_W hv
   (try simp only[↓jr,jw,seval,ints_le])
   refine JCs.ret (s_rLines a (hW.small ha.nms) (hW.ax ha) (by omega) (by omega) (by omega) (by omega) _) ?_
   have hlm : (a.axs.map (Ax.str a.nms)).length = a.count := by rw [List.length_map, axs_count]
   obtain ⟨s0, r0, hd0, hs0, hm0⟩ := nth_hd (l := a.axs.map (Ax.str a.nms)) (i := k) (by omega) (by rw [hlm]; omega)
   rw [hs0]
   (try simp only[↓jr,jw,seval,ints_le,hd0])
   refine wc.intro ⟨by omega, by rw [axs_count]; omega⟩ ?_
   (try simp only[↓jr,jw,seval,ints_le,hd0])
   refine JCs.ret (s_joined a b ha hb sa sb _) ?_
   (try simp only[↓jr,jw,seval,ints_le])
   refine JCs.ret (JC.sub (args' := [.agg noB.enc, .agg noB.enc]) ⟨Bas.sub, SubB.agg noB_sub, True.intro⟩ (s_bSame noB noB_ok (by decide) (by decide) (by decide) (by decide) (by decide) (by decide) (by decide) _)) ?_
   (try simp only[↓jr,jw,seval,ints_le])
   refine JCs.ret (s_bSame (jnB a b) jo1 (by omega) (by omega) (by omega) (by omega) (by omega) (by omega) (by omega) _) ?_
   (try simp only[↓jr,jw,seval,ints_le])
   refine JCs.ret (aw _) ?_
   (try simp only[↓jr,jw,seval,ints_le])
   refine JFIN.rb ?_
   exact SubB.v
end
end Go.Proofs.YtcjlpklgnknpgaaGreatDoor.Pg
