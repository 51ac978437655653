/-
  The string of a concept is read back.
-/
import Derived.Test.YtcajjicdbphkpaaDoorQx
set_option linter.unusedVariables false
set_option linter.unusedSimpArgs false
set_option maxRecDepth 100000
set_option maxHeartbeats 8000000
namespace Go.Proofs.YtcajjicdbphkpaaDoor.Pg
open Go
def tkR (n : Nms) (k : Int) : List (List UInt8) := if k.tmod 2 = 1 then [bs (nthS n.rs (k.tdiv 2).toNat), [45]] else [bs (nthS n.rs (k.tdiv 2).toNat)]
mutual
def tkC (n : Nms) : Con → List (List UInt8)
  | .mk o k l => if o = 0 then [bs (nthS n.cs k.toNat)] else if o = 1 then [tTop] else if o = 2 then [tBot] else if o = 3 then tNot :: tkH n l
    else if o = 4 then [40] :: (tkH n l ++ (tAnd :: (tkT n l ++ [[41]])))
    else if o = 5 then [40] :: (tkH n l ++ (tOr :: (tkT n l ++ [[41]])))
    else if o = 6 then tSome :: (tkR n k ++ tkH n l)
    else tAll :: (tkR n k ++ tkH n l)
def tkH (n : Nms) : List Con → List (List UInt8)
  | [] => []
  | c :: _ => tkC n c
def tkT (n : Nms) : List Con → List (List UInt8)
  | [] => []
  | _ :: l => tkH n l
end
def nowit : List UInt8 → Prop
  | [] => True
  | b :: _ => witB b = false
theorem tw_all : ∀ {l t : List UInt8}, l.all witB = true → nowit t → (l ++ t).takeWhile witB = l ∧ (l ++ t).dropWhile witB = t
  | [], [], _, _ => ⟨rfl, rfl⟩
  | [], b :: t, _, h => by
    have h : witB b = false := h
    simp [List.takeWhile, List.dropWhile, h]
  | a :: l, t, h, k => by
    simp only [List.all_cons, Bool.and_eq_true] at h
    obtain ⟨i1, i2⟩ := tw_all h.2 k
    simp only [List.cons_append, List.takeWhile, List.dropWhile, h.1, i1, i2, and_self]
theorem let_ne {b : UInt8} (h : letB b = true) : b ≠ 32 := by
  intro e; subst e; revert h; decide
theorem toks_word {sg : List UInt8} {w t : List UInt8} (hw : word w = true) (ht : nowit t) : toks sg (w ++ t) = (toks sg t).map (w :: ·) := by
  cases w with
  | nil => simp [word] at hw
  | cons b l =>
    simp only [word, wordF, wordF_all, Bool.not_true, Bool.false_and, Bool.or_false, List.isEmpty_cons, Bool.not_false, Bool.and_true, Bool.and_eq_true] at hw
    obtain ⟨i1, i2⟩ := tw_all hw.2 ht
    rw [List.cons_append, toks_cons, if_neg (let_ne hw.1), if_pos hw.1, i1, i2]
theorem toks_sp {sg : List UInt8} {t : List UInt8} : toks sg (32 :: t) = toks sg t := by rw [toks_cons, if_pos rfl]
theorem toks_sg {b : UInt8} {t : List UInt8} (h : b = 40 ∨ b = 41 ∨ b = 45) : toks sgC (b :: t) = (toks sgC t).map ([b] :: ·) := by
  rcases h with rfl | rfl | rfl <;> (rw [toks_cons, if_neg (by decide), if_neg (by decide), if_pos (by decide)])
theorem word_of_name {s : ByteArray} (h : nameOK s = true) : word (bs s) = true ∧ wordK (bs s) = true ∧ s.size ≤ 12 := by
  unfold nameOK at h
  simp only [Bool.and_eq_true, decide_eq_true_eq, Bool.not_eq_true'] at h
  exact ⟨h.1.2, by unfold wordK; rw [h.1.2, ofL_bs, h.2]; rfl, h.1.1⟩
theorem newsOK_names : ∀ {l seen : List ByteArray}, newsOK seen l = true → (∀ s ∈ l, nameOK s = true ∧ s ∉ seen) ∧ l.Nodup
  | [], seen, _ => ⟨fun s h => by simp at h, List.nodup_nil⟩
  | t :: l, seen, h => by
    simp only [newsOK, Bool.and_eq_true, Bool.not_eq_true', decide_eq_false_iff_not] at h
    obtain ⟨⟨h1, h2⟩, h3⟩ := h
    obtain ⟨i1, i2⟩ := newsOK_names h3
    rw [findS_mem] at h2
    refine ⟨fun s hs => ?_, List.nodup_cons.2 ⟨fun q => (i1 t q).2 (by simp), i2⟩⟩
    rcases List.mem_cons.1 hs with rfl | hs
    · exact ⟨h1, h2⟩
    · exact ⟨(i1 s hs).1, fun q => (i1 s hs).2 (by simp [q])⟩
structure NmsV (n : Nms) : Prop where
  c : ∀ s ∈ n.cs, nameOK s = true
  r : ∀ s ∈ n.rs, nameOK s = true
  cn : n.cs.Nodup
  rn : n.rs.Nodup
theorem namesV {n : Nms} (h : namesOK n = true) : NmsV n := by
  unfold namesOK at h
  simp only [Bool.and_eq_true] at h
  obtain ⟨i1, i2⟩ := newsOK_names h.2
  obtain ⟨a1, a2, _⟩ := List.nodup_append.1 i2
  obtain ⟨b1, b2, _⟩ := List.nodup_append.1 a1
  exact ⟨fun s hs => (i1 s (by simp [hs])).1, fun s hs => (i1 s (by simp [hs])).1, b1, b2⟩
theorem nthS_mem {l : List ByteArray} {i : Nat} (h : i < l.length) : nthS l i ∈ l := by
  unfold nthS; rw [List.getElem?_eq_getElem h]; exact List.getElem_mem h
theorem findS_nth : ∀ {l : List ByteArray} {i : Nat}, l.Nodup → i < l.length → findS l (nthS l i) = i
  | [], i, _, h => by simp at h
  | t :: l, 0, _, _ => by simp [findS, nthS]
  | t :: l, i + 1, hn, h => by
    simp only [List.nodup_cons] at hn
    have hl : i < l.length := by simpa using h
    have e : nthS (t :: l) (i + 1) = nthS l i := by simp [nthS]
    rw [e]
    have hne : ¬ nthS l i = t := fun q => hn.1 (q ▸ nthS_mem hl)
    simp only [findS, if_neg hne, findS_nth hn.2 hl]
    rw [if_neg (by omega)]; omega
/-- A concept's numbers name something. -/
theorem role_lt {n : Nms} {k : Int} (h0 : 0 ≤ k) (h1 : k < 2 * n.rs.length) : (k.tdiv 2).toNat < n.rs.length := by
  have : k.tdiv 2 = k / 2 := Int.tdiv_eq_ediv_of_nonneg h0
  rw [this]; omega
theorem toks_role {n : Nms} (hn : NmsV n) {k : Int} (h0 : 0 ≤ k) (h1 : k < 2 * n.rs.length) {t : List UInt8} : toks sgC (bs (roleS n k) ++ 32 :: t) = (toks sgC t).map (tkR n k ++ ·) := by
  have hw := word_of_name (hn.r _ (nthS_mem (role_lt h0 h1)))
  unfold roleS tkR
  split
  · rw [bs_append, List.append_assoc, toks_word hw.1 (by show witB 45 = false; decide)]
    show Option.map _ (toks sgC (45 :: 32 :: t)) = _
    rw [toks_sg (by simp), toks_sp]
    simp only [Option.map_map]; rfl
  · rw [toks_word hw.1 (by show witB 32 = false; decide), toks_sp]; rfl
theorem bs_lit1 {a : UInt8} : bs ⟨#[a]⟩ = [a] := rfl
theorem SH_in {nc nr : Nat} {o k : Int} {m : Nat} (h : SH nc nr o k m) : (o = 0 ∧ m = 0 ∧ k < nc) ∨ (o = 1 ∧ m = 0 ∧ k = 0) ∨ (o = 2 ∧ m = 0 ∧ k = 0) ∨ (o = 3 ∧ m = 1 ∧ k = 0) ∨ (o = 4 ∧ m = 2 ∧ k = 0) ∨ (o = 5 ∧ m = 2 ∧ k = 0) ∨ (o = 6 ∧ m = 1 ∧ k < 2 * nr) ∨ (o = 7 ∧ m = 1 ∧ k < 2 * nr) := by
  obtain ⟨h1, h2, h3, h4, h5⟩ := h
  have := arity_in h1
  have e : o = 0 ∨ o = 1 ∨ o = 2 ∨ o = 3 ∨ o = 4 ∨ o = 5 ∨ o = 6 ∨ o = 7 := by omega
  rcases e with rfl | rfl | rfl | rfl | rfl | rfl | rfl | rfl <;> simp only [arity, quant] at h1 h4 h5 <;> simp at h1 h4 h5 h3 ⊢ <;> omega
theorem len1 {l : List Con} (h : l.length = 1) : ∃ c, l = [c] := by
  match l, h with
  | [c], _ => exact ⟨c, rfl⟩
theorem len2 {l : List Con} (h : l.length = 2) : ∃ c d, l = [c, d] := by
  match l, h with
  | [c, d], _ => exact ⟨c, d, rfl⟩
theorem word_lit {w : List UInt8} (h : word w = true) : word w = true := h
theorem toks_str {n : Nms} (hn : NmsV n) : ∀ (c : Con), shaped n.cs.length n.rs.length c = true → ∀ t : List UInt8, nowit t → toks sgC (bs (strC n c) ++ t) = (toks sgC t).map (tkC n c ++ ·) := by
  intro c
  induction c using Con.ind with
  | h o k l ih =>
  intro hs t ht
  rw [shaped_mk] at hs
  obtain ⟨h1, h2⟩ := hs
  have h0 := h1.2.1
  have n32 : ∀ x : List UInt8, nowit (32 :: x) := fun x => (by decide : witB 32 = false)
  have n41 : ∀ x : List UInt8, nowit (41 :: x) := fun x => (by decide : witB 41 = false)
  have W : ∀ (w x : List UInt8), word w = true → toks sgC (w ++ 32 :: x) = (toks sgC x).map (w :: ·) := fun w x hw => by rw [toks_word hw (n32 x), toks_sp]
  rcases SH_in h1 with ⟨rfl, hm, hk⟩ | ⟨rfl, hm, hk⟩ | ⟨rfl, hm, hk⟩ | ⟨rfl, hm, hk⟩ | ⟨rfl, hm, hk⟩ | ⟨rfl, hm, hk⟩ | ⟨rfl, hm, hk⟩ | ⟨rfl, hm, hk⟩
  · have hw := word_of_name (hn.c _ (nthS_mem (show k.toNat < n.cs.length by omega)))
    simp only [strC, tkC, if_true]
    exact toks_word hw.1 ht
  · exact toks_word (w := tTop) (by decide) ht
  · exact toks_word (w := tBot) (by decide) ht
  · obtain ⟨c, rfl⟩ := len1 hm
    have i := ih c (by simp) (shapedL_mem h2 (by simp)) t ht
    have e : bs (strC n (.mk 3 k [c])) ++ t = tNot ++ 32 :: (bs (strC n c) ++ t) := by
      show bs (⟨#[110, 111, 116, 32]⟩ ++ strC n c) ++ t = _
      rw [bs_append]; rfl
    rw [e, W _ _ (by decide), i]
    simp only [Option.map_map]; rfl
  · obtain ⟨c, d, rfl⟩ := len2 hm
    have i2 := ih d (by simp) (shapedL_mem h2 (by simp)) (41 :: t) (n41 t)
    have i1 := ih c (by simp) (shapedL_mem h2 (by simp)) (32 :: (tAnd ++ 32 :: (bs (strC n d) ++ 41 :: t))) (n32 _)
    have e : bs (strC n (.mk 4 k [c, d])) ++ t = 40 :: (bs (strC n c) ++ 32 :: (tAnd ++ 32 :: (bs (strC n d) ++ 41 :: t))) := by
      show bs (⟨#[40]⟩ ++ strC n c ++ ⟨#[32, 97, 110, 100, 32]⟩ ++ strC n d ++ ⟨#[41]⟩) ++ t = _
      simp only [bs_append, List.append_assoc]; rfl
    rw [e, toks_sg (by simp), i1, toks_sp, W _ _ (by decide), i2, toks_sg (by simp)]
    simp only [Option.map_map]
    congr 1
    funext x
    simp [tkC, tkH, tkT]
  · obtain ⟨c, d, rfl⟩ := len2 hm
    have i2 := ih d (by simp) (shapedL_mem h2 (by simp)) (41 :: t) (n41 t)
    have i1 := ih c (by simp) (shapedL_mem h2 (by simp)) (32 :: (tOr ++ 32 :: (bs (strC n d) ++ 41 :: t))) (n32 _)
    have e : bs (strC n (.mk 5 k [c, d])) ++ t = 40 :: (bs (strC n c) ++ 32 :: (tOr ++ 32 :: (bs (strC n d) ++ 41 :: t))) := by
      show bs (⟨#[40]⟩ ++ strC n c ++ ⟨#[32, 111, 114, 32]⟩ ++ strC n d ++ ⟨#[41]⟩) ++ t = _
      simp only [bs_append, List.append_assoc]; rfl
    rw [e, toks_sg (by simp), i1, toks_sp, W _ _ (by decide), i2, toks_sg (by simp)]
    simp only [Option.map_map]
    congr 1
    funext x
    simp [tkC, tkH, tkT]
  · obtain ⟨c, rfl⟩ := len1 hm
    have i := ih c (by simp) (shapedL_mem h2 (by simp)) t ht
    have e : bs (strC n (.mk 6 k [c])) ++ t = tSome ++ 32 :: (bs (roleS n k) ++ 32 :: (bs (strC n c) ++ t)) := by
      show bs (⟨#[115, 111, 109, 101, 32]⟩ ++ roleS n k ++ ⟨#[32]⟩ ++ strC n c) ++ t = _
      simp only [bs_append, List.append_assoc]; rfl
    rw [e, W _ _ (by decide), toks_role hn h0 hk, i]
    simp only [Option.map_map]
    congr 1
    funext x
    simp [tkC, tkH]
  · obtain ⟨c, rfl⟩ := len1 hm
    have i := ih c (by simp) (shapedL_mem h2 (by simp)) t ht
    have e : bs (strC n (.mk 7 k [c])) ++ t = tAll ++ 32 :: (bs (roleS n k) ++ 32 :: (bs (strC n c) ++ t)) := by
      show bs (⟨#[97, 108, 108, 32]⟩ ++ roleS n k ++ ⟨#[32]⟩ ++ strC n c) ++ t = _
      simp only [bs_append, List.append_assoc]; rfl
    rw [e, W _ _ (by decide), toks_role hn h0 hk, i]
    simp only [Option.map_map]
    congr 1
    funext x
    simp [tkC, tkH]
/-! ### Parsing -/
def refC (n : Nms) (o k : Int) : Option (Bool × List UInt8 × Bool) := if o = 0 then some (false, bs (nthS n.cs k.toNat), false) else if o = 6 ∨ o = 7 then some (true, bs (nthS n.rs (k.tdiv 2).toNat), decide (k.tmod 2 = 1)) else none
mutual
def ptC (n : Nms) : Con → PT
  | .mk o k l => .mk o (refC n o k) (ptL n l)
def ptL (n : Nms) : List Con → List PT
  | [] => []
  | c :: l => ptC n c :: ptL n l
end
theorem word_not {s : ByteArray} (h : nameOK s = true) : (∀ t : List UInt8, resB (ofL t) = true → ¬ bs s = t) ∧ ¬ bs s = [40] := by
  unfold nameOK at h
  simp only [Bool.and_eq_true, decide_eq_true_eq, Bool.not_eq_true'] at h
  refine ⟨fun t ht e => ?_, fun e => ?_⟩
  · rw [← e, ofL_bs, h.2] at ht; cases ht
  · have := h.1.2
    rw [e] at this; revert this; decide
theorem tkC_head {n : Nms} (hn : NmsV n) : ∀ (c : Con), shaped n.cs.length n.rs.length c = true → ∃ t r, tkC n c = t :: r ∧ t ≠ [45] := by
  intro c hs
  cases c with
  | mk o k l =>
  rw [shaped_mk] at hs
  obtain ⟨h1, h2⟩ := hs
  have h0 := h1.2.1
  rcases SH_in h1 with ⟨rfl, hm, hk⟩ | ⟨rfl, hm, hk⟩ | ⟨rfl, hm, hk⟩ | ⟨rfl, hm, hk⟩ | ⟨rfl, hm, hk⟩ | ⟨rfl, hm, hk⟩ | ⟨rfl, hm, hk⟩ | ⟨rfl, hm, hk⟩
  · have hw := word_of_name (hn.c _ (nthS_mem (show k.toNat < n.cs.length by omega)))
    exact ⟨bs (nthS n.cs k.toNat), [], by simp [tkC], fun e => by have h := hw.1; rw [e] at h; revert h; decide⟩
  all_goals exact ⟨_, _, by simp [tkC]; exact ⟨rfl, rfl⟩, by decide⟩
theorem roleP_tk {n : Nms} (hn : NmsV n) {k : Int} (h0 : 0 ≤ k) (h1 : k < 2 * n.rs.length) {t : List UInt8} {r : List (List UInt8)} (ht : t ≠ [45]) : roleP (tkR n k ++ t :: r) = some (bs (nthS n.rs (k.tdiv 2).toNat), decide (k.tmod 2 = 1), t :: r) := by
  have hw := word_of_name (hn.r _ (nthS_mem (role_lt h0 h1)))
  unfold tkR
  split
  · rename_i e
    simp only [List.cons_append, List.nil_append, roleP, hw.2.1, if_true, e, decide_true]
  · rename_i e
    simp only [List.cons_append, List.nil_append, roleP, hw.2.1, if_true, if_neg ht, e, decide_false]
theorem pT_tk {n : Nms} (hn : NmsV n) : ∀ (c : Con), shaped n.cs.length n.rs.length c = true → ∀ (f : Nat) (r : List (List UInt8)), (tkC n c).length ≤ f → pT f (tkC n c ++ r) = some (ptC n c, r) := by
  intro c
  induction c using Con.ind with
  | h o k l ih =>
  intro hs f r hf
  rw [shaped_mk] at hs
  obtain ⟨h1, h2⟩ := hs
  have h0 := h1.2.1
  rcases SH_in h1 with ⟨rfl, hm, hk⟩ | ⟨rfl, hm, hk⟩ | ⟨rfl, hm, hk⟩ | ⟨rfl, hm, hk⟩ | ⟨rfl, hm, hk⟩ | ⟨rfl, hm, hk⟩ | ⟨rfl, hm, hk⟩ | ⟨rfl, hm, hk⟩
  · have hnm := hn.c _ (nthS_mem (show k.toNat < n.cs.length by omega))
    have hw := word_of_name hnm
    obtain ⟨q1, q2⟩ := word_not hnm
    obtain rfl : l = [] := List.eq_nil_of_length_eq_zero hm
    cases f with
    | zero => simp [tkC] at hf
    | succ f =>
      simp only [tkC, if_true, List.cons_append, List.nil_append, pT, if_neg (q1 tTop (by decide)), if_neg (q1 tBot (by decide)), if_neg (q1 tNot (by decide)), if_neg q2, hw.2.1, ptC, ptL, refC]
      rw [if_neg (fun e => e.elim (q1 tSome (by decide)) (q1 tAll (by decide)))]
  · obtain rfl : l = [] := List.eq_nil_of_length_eq_zero hm
    subst hk
    cases f with
    | zero => simp [tkC] at hf
    | succ f => simp [tkC, pT, ptC, ptL, refC]
  · obtain rfl : l = [] := List.eq_nil_of_length_eq_zero hm
    subst hk
    cases f with
    | zero => simp [tkC] at hf
    | succ f => simp [tkC, pT, ptC, ptL, refC]
  · obtain ⟨c, rfl⟩ := len1 hm
    cases f with
    | zero => simp [tkC] at hf
    | succ f =>
      have hf : (tkC n c).length ≤ f := by simpa [tkC, tkH] using hf
      have i := ih c (by simp) (shapedL_mem h2 (by simp)) f r hf
      have e : tkC n (.mk 3 k [c]) ++ r = tNot :: (tkC n c ++ r) := by simp [tkC, tkH]
      rw [e, pT, if_neg (by decide), if_neg (by decide), if_pos rfl, i]
      rfl
  · obtain ⟨c, d, rfl⟩ := len2 hm
    cases f with
    | zero => simp [tkC] at hf
    | succ f =>
      have hf : (tkC n c).length ≤ f ∧ (tkC n d).length ≤ f := by simp [tkC, tkH, tkT] at hf; omega
      have i2 := ih d (by simp) (shapedL_mem h2 (by simp)) f ([41] :: r) hf.2
      have i1 := ih c (by simp) (shapedL_mem h2 (by simp)) f (tAnd :: (tkC n d ++ [41] :: r)) hf.1
      have e : tkC n (.mk 4 k [c, d]) ++ r = [40] :: (tkC n c ++ tAnd :: (tkC n d ++ [41] :: r)) := by simp [tkC, tkH, tkT]
      rw [e, pT, if_neg (by decide), if_neg (by decide), if_neg (by decide), if_pos rfl, i1]
      simp only [true_or, if_true, i2]
      rfl
  · obtain ⟨c, d, rfl⟩ := len2 hm
    cases f with
    | zero => simp [tkC] at hf
    | succ f =>
      have hf : (tkC n c).length ≤ f ∧ (tkC n d).length ≤ f := by simp [tkC, tkH, tkT] at hf; omega
      have i2 := ih d (by simp) (shapedL_mem h2 (by simp)) f ([41] :: r) hf.2
      have i1 := ih c (by simp) (shapedL_mem h2 (by simp)) f (tOr :: (tkC n d ++ [41] :: r)) hf.1
      have e : tkC n (.mk 5 k [c, d]) ++ r = [40] :: (tkC n c ++ tOr :: (tkC n d ++ [41] :: r)) := by simp [tkC, tkH, tkT]
      rw [e, pT, if_neg (by decide), if_neg (by decide), if_neg (by decide), if_pos rfl, i1]
      simp only [or_true, if_true, i2, show ¬ tOr = tAnd from by decide, if_false]
      rfl
  · obtain ⟨c, rfl⟩ := len1 hm
    cases f with
    | zero => simp [tkC] at hf
    | succ f =>
      have hf : (tkC n c).length ≤ f := by simp [tkC, tkH] at hf; omega
      have i := ih c (by simp) (shapedL_mem h2 (by simp)) f r hf
      obtain ⟨t, q, e1, e2⟩ := tkC_head hn c (shapedL_mem h2 (by simp))
      have e : tkC n (.mk 6 k [c]) ++ r = tSome :: (tkR n k ++ t :: (q ++ r)) := by simp [tkC, tkH, e1]
      rw [e1, List.cons_append] at i
      rw [e, pT, if_neg (by decide), if_neg (by decide), if_neg (by decide), if_neg (by decide), if_pos (.inl rfl), roleP_tk hn h0 hk e2]
      simp only [i, Option.map_some]
      rfl
  · obtain ⟨c, rfl⟩ := len1 hm
    cases f with
    | zero => simp [tkC] at hf
    | succ f =>
      have hf : (tkC n c).length ≤ f := by simp [tkC, tkH] at hf; omega
      have i := ih c (by simp) (shapedL_mem h2 (by simp)) f r hf
      obtain ⟨t, q, e1, e2⟩ := tkC_head hn c (shapedL_mem h2 (by simp))
      have e : tkC n (.mk 7 k [c]) ++ r = tAll :: (tkR n k ++ t :: (q ++ r)) := by simp [tkC, tkH, e1]
      rw [e1, List.cons_append] at i
      rw [e, pT, if_neg (by decide), if_neg (by decide), if_neg (by decide), if_neg (by decide), if_pos (.inr rfl), roleP_tk hn h0 hk e2]
      simp only [i, Option.map_some]
      rfl
theorem ptC_con {n : Nms} (hn : NmsV n) : ∀ (c : Con), shaped n.cs.length n.rs.length c = true → (ptC n c).con n = c ∧ (ptC n c).unk n = false := by
  intro c
  induction c using Con.ind with
  | h o k l ih =>
  intro hs
  rw [shaped_mk] at hs
  obtain ⟨h1, h2⟩ := hs
  have h0 := h1.2.1
  have aux : ∀ r : List Con, (∀ c ∈ r, c ∈ l) → shapedL n.cs.length n.rs.length r = true → PT.conL n (ptL n r) = r ∧ PT.unkL n (ptL n r) = false := by
    intro r
    induction r with
    | nil => intro _ _; exact ⟨rfl, rfl⟩
    | cons c r ihr =>
      intro hm hk
      obtain ⟨a1, a2⟩ := ihr (fun d hd => hm d (by simp [hd])) (by simp only [shapedL, Bool.and_eq_true] at hk; exact hk.2)
      obtain ⟨b1, b2⟩ := ih c (hm c (by simp)) (shapedL_mem hk (by simp))
      simp only [ptL, PT.conL, PT.unkL, a1, a2, b1, b2, Bool.or_self, and_self]
  obtain ⟨a1, a2⟩ := aux l (fun _ h => h) h2
  simp only [ptC, PT.con, PT.unk, a1, a2, Bool.or_false]
  have hc : k < n.cs.length → lateF n false (ofL (bs (nthS n.cs k.toNat))) = k := fun hk => by
    unfold lateF
    rw [if_neg (by decide), ofL_bs, findS_nth hn.cn (by omega)]; omega
  have hr : k < 2 * n.rs.length → lateF n true (ofL (bs (nthS n.rs (k.tdiv 2).toNat))) = k / 2 := fun hk => by
    unfold lateF
    rw [if_pos rfl, ofL_bs, findS_nth hn.rn (role_lt h0 hk), Int.tdiv_eq_ediv_of_nonneg h0]; omega
  have hr2 : k < 2 * n.rs.length → lateN n true (decide (k.tmod 2 = 1)) (ofL (bs (nthS n.rs (k.tdiv 2).toNat))) = k := fun hk => by
    have := hr hk
    unfold lateF at this
    rw [if_pos rfl] at this
    unfold lateN
    rw [if_pos rfl, this, Int.tmod_eq_emod_of_nonneg h0]
    by_cases q : k % 2 = 1
    · rw [decide_eq_true q, if_pos rfl]; omega
    · rw [decide_eq_false q, if_neg (by decide)]; omega
  rcases SH_in h1 with ⟨rfl, hm, hk⟩ | ⟨rfl, hm, hk⟩ | ⟨rfl, hm, hk⟩ | ⟨rfl, hm, hk⟩ | ⟨rfl, hm, hk⟩ | ⟨rfl, hm, hk⟩ | ⟨rfl, hm, hk⟩ | ⟨rfl, hm, hk⟩
  · simp only [refC, if_true, refN, refU]
    have h := hc hk
    refine ⟨?_, decide_eq_false (by rw [h]; omega)⟩
    unfold lateF at h
    rw [if_neg (by decide)] at h
    unfold lateN
    rw [if_neg (by decide), h]
  all_goals first
    | (subst hk; exact ⟨rfl, rfl⟩)
    | (rw [show refC n 6 k = some (true, bs (nthS n.rs (k.tdiv 2).toNat), decide (k.tmod 2 = 1)) from rfl]
       simp only [refN, refU, hr2 hk, true_and]
       exact decide_eq_false (by rw [hr hk]; omega))
    | (rw [show refC n 7 k = some (true, bs (nthS n.rs (k.tdiv 2).toNat), decide (k.tmod 2 = 1)) from rfl]
       simp only [refN, refU, hr2 hk, true_and]
       exact decide_eq_false (by rw [hr hk]; omega))
theorem strC_size2 {n : Nms} (hn : NmsV n) : ∀ (c : Con), shaped n.cs.length n.rs.length c = true → (strC n c).size ≤ 30 * c.nodes := by
  intro c
  induction c using Con.ind with
  | h o k l ih =>
  intro hs
  rw [shaped_mk] at hs
  obtain ⟨h1, h2⟩ := hs
  have h0 := h1.2.1
  have rs : k < 2 * n.rs.length → (roleS n k).size ≤ 13 := fun hk => by
    have hw := (word_of_name (hn.r _ (nthS_mem (role_lt h0 hk)))).2.2
    unfold roleS; split
    · rw [ba_size_append, lz1]; omega
    · omega
  rcases SH_in h1 with ⟨rfl, hm, hk⟩ | ⟨rfl, hm, hk⟩ | ⟨rfl, hm, hk⟩ | ⟨rfl, hm, hk⟩ | ⟨rfl, hm, hk⟩ | ⟨rfl, hm, hk⟩ | ⟨rfl, hm, hk⟩ | ⟨rfl, hm, hk⟩
  · have hw := (word_of_name (hn.c _ (nthS_mem (show k.toNat < n.cs.length by omega)))).2.2
    simp only [strC, if_true, Con.nodes]; omega
  · show (3 : Nat) ≤ _; simp only [Con.nodes]; omega
  · show (3 : Nat) ≤ _; simp only [Con.nodes]; omega
  · obtain ⟨c, rfl⟩ := len1 hm
    have i := ih c (by simp) (shapedL_mem h2 (by simp))
    show (⟨#[110, 111, 116, 32]⟩ ++ strC n c : ByteArray).size ≤ _
    rw [ba_size_append, lz4]; simp only [Con.nodes, Con.nodesL]; omega
  · obtain ⟨c, d, rfl⟩ := len2 hm
    have i := ih c (by simp) (shapedL_mem h2 (by simp))
    have i2 := ih d (by simp) (shapedL_mem h2 (by simp))
    show (⟨#[40]⟩ ++ strC n c ++ ⟨#[32, 97, 110, 100, 32]⟩ ++ strC n d ++ ⟨#[41]⟩ : ByteArray).size ≤ _
    simp only [ba_size_append, lz1, lz5, Con.nodes, Con.nodesL]; omega
  · obtain ⟨c, d, rfl⟩ := len2 hm
    have i := ih c (by simp) (shapedL_mem h2 (by simp))
    have i2 := ih d (by simp) (shapedL_mem h2 (by simp))
    show (⟨#[40]⟩ ++ strC n c ++ ⟨#[32, 111, 114, 32]⟩ ++ strC n d ++ ⟨#[41]⟩ : ByteArray).size ≤ _
    simp only [ba_size_append, lz1, lz4, Con.nodes, Con.nodesL]; omega
  · obtain ⟨c, rfl⟩ := len1 hm
    have i := ih c (by simp) (shapedL_mem h2 (by simp))
    have := rs hk
    show (⟨#[115, 111, 109, 101, 32]⟩ ++ roleS n k ++ ⟨#[32]⟩ ++ strC n c : ByteArray).size ≤ _
    simp only [ba_size_append, lz1, lz5, Con.nodes, Con.nodesL]; omega
  · obtain ⟨c, rfl⟩ := len1 hm
    have i := ih c (by simp) (shapedL_mem h2 (by simp))
    have := rs hk
    show (⟨#[97, 108, 108, 32]⟩ ++ roleS n k ++ ⟨#[32]⟩ ++ strC n c : ByteArray).size ≤ _
    simp only [ba_size_append, lz1, lz4, Con.nodes, Con.nodesL]; omega
/-- Parsing the string of a concept returns it. -/
theorem pPar_str {n : Nms} {c : Con} (h : faultE n c = 0) : pPar n (strC n c) = (c, 0) := by
  have hk := faultE_zero h
  have hN : namesOK n = true := by
    unfold faultE at h
    cases q : namesOK n with
    | true => rfl
    | false => rw [q, if_pos rfl] at h; cases h
  have hn := namesV hN
  obtain ⟨hs, hb⟩ := conOK_shaped hk
  have hz := strC_size2 hn c hs
  have ht := toks_str hn c hs [] True.intro
  rw [List.append_nil, toks_nil, Option.map_some, List.append_nil] at ht
  have hp := pT_tk hn c hs ((tkC n c).length + 1) [] (by omega)
  rw [List.append_nil] at hp
  obtain ⟨e1, e2⟩ := ptC_con hn c hs
  unfold pPar
  rw [if_neg (by rw [hN]; decide)]
  unfold rPar
  rw [if_neg (by omega)]
  simp only [ht]
  rw [rParT_eq, hp]
  simp only [e1, e2, hk, List.isEmpty_nil, Bool.true_eq_false, if_false, Bool.not_true, Bool.or_self, Bool.false_eq_true]
end Go.Proofs.YtcajjicdbphkpaaDoor.Pg
