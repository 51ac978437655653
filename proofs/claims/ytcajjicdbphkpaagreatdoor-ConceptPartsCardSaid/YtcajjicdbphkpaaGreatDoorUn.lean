/-
  Concepts with the same text are the same.
-/
import Derived.Test.YtcajjicdbphkpaaGreatDoorQf
set_option linter.unusedVariables false
set_option linter.unusedSimpArgs false
set_option maxRecDepth 100000
set_option maxHeartbeats 8000000
namespace Go.Proofs.YtcajjicdbphkpaaGreatDoor.Pg
open Go
namespace Inj
abbrev tTop : List UInt8 := [116, 111, 112]
abbrev tBot : List UInt8 := [98, 111, 116]
abbrev tNot : List UInt8 := [110, 111, 116]
abbrev tSome : List UInt8 := [115, 111, 109, 101]
abbrev tAll : List UInt8 := [97, 108, 108]
abbrev tAnd : List UInt8 := [97, 110, 100]
abbrev tOr : List UInt8 := [111, 114]
abbrev sgC : List UInt8 := [40, 41, 45]
def tkR (n : Nms) (k : Int) : List (List UInt8) := if k.tmod 2 = 1 then [bs (nthS n.rs (k.tdiv 2).toNat), [45]] else [bs (nthS n.rs (k.tdiv 2).toNat)]
mutual
def tkC (n : Nms) : Con → List (List UInt8)
  | .mk o k l => if o = 0 then [bs (nthS n.cs k.toNat)] else if o = 1 then [tTop] else if o = 2 then [tBot] else if o = 3 then tNot :: tkH n l
    else if o = 4 then [40] :: (tkH n l ++ (tAnd :: (tkT n l ++ [[41]])))
    else if o = 5 then [40] :: (tkH n l ++ (tOr :: (tkT n l ++ [[41]])))
    else if o = 6 then tSome :: (tkR n k ++ tkH n l)
    else tAll :: (tkR n k ++ tkH n l)
def tkH (n : Nms) : List Con → List (List UInt8)
  | [] => []
  | c :: _ => tkC n c
def tkT (n : Nms) : List Con → List (List UInt8)
  | [] => []
  | _ :: l => tkH n l
end
def nowit : List UInt8 → Prop
  | [] => True
  | b :: _ => witB b = false
theorem tw_all : ∀ {l t : List UInt8}, l.all witB = true → nowit t → (l ++ t).takeWhile witB = l ∧ (l ++ t).dropWhile witB = t
  | [], [], _, _ => ⟨rfl, rfl⟩
  | [], b :: t, _, h => by
    have h : witB b = false := h
    simp [List.takeWhile, List.dropWhile, h]
  | a :: l, t, h, k => by
    simp only [List.all_cons, Bool.and_eq_true] at h
    obtain ⟨i1, i2⟩ := tw_all h.2 k
    simp only [List.cons_append, List.takeWhile, List.dropWhile, h.1, i1, i2, and_self]
theorem let_ne {b : UInt8} (h : letB b = true) : b ≠ 32 := by
  intro e; subst e; revert h; decide
theorem toks_word {sg : List UInt8} {w t : List UInt8} (hw : word w = true) (ht : nowit t) : toks sg (w ++ t) = (toks sg t).map (w :: ·) := by
  cases w with
  | nil => simp [word] at hw
  | cons b l =>
    simp only [word, wordF, wordF_all, Bool.not_true, Bool.false_and, Bool.or_false, List.isEmpty_cons, Bool.not_false, Bool.and_true, Bool.and_eq_true] at hw
    obtain ⟨i1, i2⟩ := tw_all hw.2 ht
    rw [List.cons_append, toks_cons, if_neg (let_ne hw.1), if_pos hw.1, i1, i2]
theorem toks_sp {sg : List UInt8} {t : List UInt8} : toks sg (32 :: t) = toks sg t := by rw [toks_cons, if_pos rfl]
theorem toks_sg {b : UInt8} {t : List UInt8} (h : b = 40 ∨ b = 41 ∨ b = 45) : toks sgC (b :: t) = (toks sgC t).map ([b] :: ·) := by
  rcases h with rfl | rfl | rfl <;> (rw [toks_cons, if_neg (by decide), if_neg (by decide), if_pos (by decide)])
theorem word_of_name {s : ByteArray} (h : nameOK s = true) : word (bs s) = true ∧ s.size ≤ 12 := by
  unfold nameOK at h
  simp only [Bool.and_eq_true, decide_eq_true_eq, Bool.not_eq_true'] at h
  exact ⟨h.1.2, h.1.1⟩
theorem newsOK_names : ∀ {l seen : List ByteArray}, newsOK seen l = true → (∀ s ∈ l, nameOK s = true ∧ s ∉ seen) ∧ l.Nodup
  | [], seen, _ => ⟨fun s h => by simp at h, List.nodup_nil⟩
  | t :: l, seen, h => by
    simp only [newsOK, Bool.and_eq_true, Bool.not_eq_true', decide_eq_false_iff_not] at h
    obtain ⟨⟨h1, h2⟩, h3⟩ := h
    obtain ⟨i1, i2⟩ := newsOK_names h3
    rw [findS_mem] at h2
    refine ⟨fun s hs => ?_, List.nodup_cons.2 ⟨fun q => (i1 t q).2 (by simp), i2⟩⟩
    rcases List.mem_cons.1 hs with rfl | hs
    · exact ⟨h1, h2⟩
    · exact ⟨(i1 s hs).1, fun q => (i1 s hs).2 (by simp [q])⟩
structure NmsV (n : Nms) : Prop where
  c : ∀ s ∈ n.cs, nameOK s = true
  r : ∀ s ∈ n.rs, nameOK s = true
  cn : n.cs.Nodup
  rn : n.rs.Nodup
theorem namesV {n : Nms} (h : namesOK n = true) : NmsV n := by
  unfold namesOK at h
  simp only [Bool.and_eq_true] at h
  obtain ⟨i1, i2⟩ := newsOK_names h.2
  obtain ⟨a1, a2, _⟩ := List.nodup_append.1 i2
  obtain ⟨b1, b2, _⟩ := List.nodup_append.1 a1
  exact ⟨fun s hs => (i1 s (by simp [hs])).1, fun s hs => (i1 s (by simp [hs])).1, b1, b2⟩
theorem nthS_mem {l : List ByteArray} {i : Nat} (h : i < l.length) : nthS l i ∈ l := by
  unfold nthS; rw [List.getElem?_eq_getElem h]; exact List.getElem_mem h
theorem findS_nth : ∀ {l : List ByteArray} {i : Nat}, l.Nodup → i < l.length → findS l (nthS l i) = i
  | [], i, _, h => by simp at h
  | t :: l, 0, _, _ => by simp [findS, nthS]
  | t :: l, i + 1, hn, h => by
    simp only [List.nodup_cons] at hn
    have hl : i < l.length := by simpa using h
    have e : nthS (t :: l) (i + 1) = nthS l i := by simp [nthS]
    rw [e]
    have hne : ¬ nthS l i = t := fun q => hn.1 (q ▸ nthS_mem hl)
    simp only [findS, if_neg hne, findS_nth hn.2 hl]
    rw [if_neg (by omega)]; omega
/-- A concept's numbers name something. -/
theorem role_lt {n : Nms} {k : Int} (h0 : 0 ≤ k) (h1 : k < 2 * n.rs.length) : (k.tdiv 2).toNat < n.rs.length := by
  have : k.tdiv 2 = k / 2 := Int.tdiv_eq_ediv_of_nonneg h0
  rw [this]; omega
theorem toks_role {n : Nms} (hn : NmsV n) {k : Int} (h0 : 0 ≤ k) (h1 : k < 2 * n.rs.length) {t : List UInt8} : toks sgC (bs (roleS n k) ++ 32 :: t) = (toks sgC t).map (tkR n k ++ ·) := by
  have hw := word_of_name (hn.r _ (nthS_mem (role_lt h0 h1)))
  unfold roleS tkR
  split
  · rw [bs_append, List.append_assoc, toks_word hw.1 (by show witB 45 = false; decide)]
    show Option.map _ (toks sgC (45 :: 32 :: t)) = _
    rw [toks_sg (by simp), toks_sp]
    simp only [Option.map_map]; rfl
  · rw [toks_word hw.1 (by show witB 32 = false; decide), toks_sp]; rfl
theorem bs_lit1 {a : UInt8} : bs ⟨#[a]⟩ = [a] := rfl
theorem SH_in {nc nr : Nat} {o k : Int} {m : Nat} (h : SH nc nr o k m) : (o = 0 ∧ m = 0 ∧ k < nc) ∨ (o = 1 ∧ m = 0 ∧ k = 0) ∨ (o = 2 ∧ m = 0 ∧ k = 0) ∨ (o = 3 ∧ m = 1 ∧ k = 0) ∨ (o = 4 ∧ m = 2 ∧ k = 0) ∨ (o = 5 ∧ m = 2 ∧ k = 0) ∨ (o = 6 ∧ m = 1 ∧ k < 2 * nr) ∨ (o = 7 ∧ m = 1 ∧ k < 2 * nr) := by
  obtain ⟨h1, h2, h3, h4, h5⟩ := h
  have := arity_in h1
  have e : o = 0 ∨ o = 1 ∨ o = 2 ∨ o = 3 ∨ o = 4 ∨ o = 5 ∨ o = 6 ∨ o = 7 := by omega
  rcases e with rfl | rfl | rfl | rfl | rfl | rfl | rfl | rfl <;> simp only [arity, quant] at h1 h4 h5 <;> simp at h1 h4 h5 h3 ⊢ <;> omega
theorem len1 {l : List Con} (h : l.length = 1) : ∃ c, l = [c] := by
  match l, h with
  | [c], _ => exact ⟨c, rfl⟩
theorem len2 {l : List Con} (h : l.length = 2) : ∃ c d, l = [c, d] := by
  match l, h with
  | [c, d], _ => exact ⟨c, d, rfl⟩
theorem word_lit {w : List UInt8} (h : word w = true) : word w = true := h
theorem toks_str {n : Nms} (hn : NmsV n) : ∀ (c : Con), shaped n.cs.length n.rs.length c = true → ∀ t : List UInt8, nowit t → toks sgC (bs (strC n c) ++ t) = (toks sgC t).map (tkC n c ++ ·) := by
  intro c
  induction c using Con.ind with
  | h o k l ih =>
  intro hs t ht
  rw [shaped_mk] at hs
  obtain ⟨h1, h2⟩ := hs
  have h0 := h1.2.1
  have n32 : ∀ x : List UInt8, nowit (32 :: x) := fun x => (by decide : witB 32 = false)
  have n41 : ∀ x : List UInt8, nowit (41 :: x) := fun x => (by decide : witB 41 = false)
  have W : ∀ (w x : List UInt8), word w = true → toks sgC (w ++ 32 :: x) = (toks sgC x).map (w :: ·) := fun w x hw => by rw [toks_word hw (n32 x), toks_sp]
  rcases SH_in h1 with ⟨rfl, hm, hk⟩ | ⟨rfl, hm, hk⟩ | ⟨rfl, hm, hk⟩ | ⟨rfl, hm, hk⟩ | ⟨rfl, hm, hk⟩ | ⟨rfl, hm, hk⟩ | ⟨rfl, hm, hk⟩ | ⟨rfl, hm, hk⟩
  · have hw := word_of_name (hn.c _ (nthS_mem (show k.toNat < n.cs.length by omega)))
    simp only [strC, tkC, if_true]
    exact toks_word hw.1 ht
  · exact toks_word (w := tTop) (by decide) ht
  · exact toks_word (w := tBot) (by decide) ht
  · obtain ⟨c, rfl⟩ := len1 hm
    have i := ih c (by simp) (shapedL_mem h2 (by simp)) t ht
    have e : bs (strC n (.mk 3 k [c])) ++ t = tNot ++ 32 :: (bs (strC n c) ++ t) := by
      show bs (⟨#[110, 111, 116, 32]⟩ ++ strC n c) ++ t = _
      rw [bs_append]; rfl
    rw [e, W _ _ (by decide), i]
    simp only [Option.map_map]; rfl
  · obtain ⟨c, d, rfl⟩ := len2 hm
    have i2 := ih d (by simp) (shapedL_mem h2 (by simp)) (41 :: t) (n41 t)
    have i1 := ih c (by simp) (shapedL_mem h2 (by simp)) (32 :: (tAnd ++ 32 :: (bs (strC n d) ++ 41 :: t))) (n32 _)
    have e : bs (strC n (.mk 4 k [c, d])) ++ t = 40 :: (bs (strC n c) ++ 32 :: (tAnd ++ 32 :: (bs (strC n d) ++ 41 :: t))) := by
      show bs (⟨#[40]⟩ ++ strC n c ++ ⟨#[32, 97, 110, 100, 32]⟩ ++ strC n d ++ ⟨#[41]⟩) ++ t = _
      simp only [bs_append, List.append_assoc]; rfl
    rw [e, toks_sg (by simp), i1, toks_sp, W _ _ (by decide), i2, toks_sg (by simp)]
    simp only [Option.map_map]
    congr 1
    funext x
    simp [tkC, tkH, tkT]
  · obtain ⟨c, d, rfl⟩ := len2 hm
    have i2 := ih d (by simp) (shapedL_mem h2 (by simp)) (41 :: t) (n41 t)
    have i1 := ih c (by simp) (shapedL_mem h2 (by simp)) (32 :: (tOr ++ 32 :: (bs (strC n d) ++ 41 :: t))) (n32 _)
    have e : bs (strC n (.mk 5 k [c, d])) ++ t = 40 :: (bs (strC n c) ++ 32 :: (tOr ++ 32 :: (bs (strC n d) ++ 41 :: t))) := by
      show bs (⟨#[40]⟩ ++ strC n c ++ ⟨#[32, 111, 114, 32]⟩ ++ strC n d ++ ⟨#[41]⟩) ++ t = _
      simp only [bs_append, List.append_assoc]; rfl
    rw [e, toks_sg (by simp), i1, toks_sp, W _ _ (by decide), i2, toks_sg (by simp)]
    simp only [Option.map_map]
    congr 1
    funext x
    simp [tkC, tkH, tkT]
  · obtain ⟨c, rfl⟩ := len1 hm
    have i := ih c (by simp) (shapedL_mem h2 (by simp)) t ht
    have e : bs (strC n (.mk 6 k [c])) ++ t = tSome ++ 32 :: (bs (roleS n k) ++ 32 :: (bs (strC n c) ++ t)) := by
      show bs (⟨#[115, 111, 109, 101, 32]⟩ ++ roleS n k ++ ⟨#[32]⟩ ++ strC n c) ++ t = _
      simp only [bs_append, List.append_assoc]; rfl
    rw [e, W _ _ (by decide), toks_role hn h0 hk, i]
    simp only [Option.map_map]
    congr 1
    funext x
    simp [tkC, tkH]
  · obtain ⟨c, rfl⟩ := len1 hm
    have i := ih c (by simp) (shapedL_mem h2 (by simp)) t ht
    have e : bs (strC n (.mk 7 k [c])) ++ t = tAll ++ 32 :: (bs (roleS n k) ++ 32 :: (bs (strC n c) ++ t)) := by
      show bs (⟨#[97, 108, 108, 32]⟩ ++ roleS n k ++ ⟨#[32]⟩ ++ strC n c) ++ t = _
      simp only [bs_append, List.append_assoc]; rfl
    rw [e, W _ _ (by decide), toks_role hn h0 hk, i]
    simp only [Option.map_map]
    congr 1
    funext x
    simp [tkC, tkH]
theorem word_not {s : ByteArray} (h : nameOK s = true) : (∀ t : List UInt8, resB (ofL t) = true → ¬ bs s = t) ∧ ¬ bs s = [40] := by
  unfold nameOK at h
  simp only [Bool.and_eq_true, decide_eq_true_eq, Bool.not_eq_true'] at h
  refine ⟨fun t ht e => ?_, fun e => ?_⟩
  · rw [← e, ofL_bs, h.2] at ht; cases ht
  · have := h.1.2
    rw [e] at this; revert this; decide
theorem tkC_head {n : Nms} (hn : NmsV n) : ∀ (c : Con), shaped n.cs.length n.rs.length c = true → ∃ t r, tkC n c = t :: r ∧ t ≠ [45] := by
  intro c hs
  cases c with
  | mk o k l =>
  rw [shaped_mk] at hs
  obtain ⟨h1, h2⟩ := hs
  have h0 := h1.2.1
  rcases SH_in h1 with ⟨rfl, hm, hk⟩ | ⟨rfl, hm, hk⟩ | ⟨rfl, hm, hk⟩ | ⟨rfl, hm, hk⟩ | ⟨rfl, hm, hk⟩ | ⟨rfl, hm, hk⟩ | ⟨rfl, hm, hk⟩ | ⟨rfl, hm, hk⟩
  · have hw := word_of_name (hn.c _ (nthS_mem (show k.toNat < n.cs.length by omega)))
    exact ⟨bs (nthS n.cs k.toNat), [], by simp [tkC], fun e => by have h := hw.1; rw [e] at h; revert h; decide⟩
  all_goals exact ⟨_, _, by simp [tkC]; exact ⟨rfl, rfl⟩, by decide⟩

theorem nth_inj {l : List ByteArray} {i k : Nat} (hn : l.Nodup) (hi : i < l.length) (hk : k < l.length) (h : bs (nthS l i) = bs (nthS l k)) : i = k := by
  have e := bs_inj h
  have h1 := findS_nth hn hi
  have h2 := findS_nth hn hk
  rw [e] at h1
  omega
theorem role_inj {n : Nms} (hn : NmsV n) {k k' : Int} (h0 : 0 ≤ k) (h1 : k < 2 * n.rs.length) (h0' : 0 ≤ k') (h1' : k' < 2 * n.rs.length) {t t' : List UInt8} {r r' : List (List UInt8)} (ht : t ≠ [45]) (ht' : t' ≠ [45])
    (e : tkR n k ++ t :: r = tkR n k' ++ t' :: r') : k = k' ∧ t :: r = t' :: r' := by
  have d1 : k.tdiv 2 = k / 2 := Int.tdiv_eq_ediv_of_nonneg h0
  have d2 : k'.tdiv 2 = k' / 2 := Int.tdiv_eq_ediv_of_nonneg h0'
  have m1 : k.tmod 2 = k % 2 := Int.tmod_eq_emod_of_nonneg h0
  have m2 : k'.tmod 2 = k' % 2 := Int.tmod_eq_emod_of_nonneg h0'
  have key : bs (nthS n.rs (k.tdiv 2).toNat) = bs (nthS n.rs (k'.tdiv 2).toNat) → (k.tdiv 2).toNat = (k'.tdiv 2).toNat := nth_inj hn.rn (role_lt h0 h1) (role_lt h0' h1')
  unfold tkR at e
  split at e <;> split at e <;> rename_i q1 q2 <;> simp only [List.cons_append, List.nil_append, List.cons.injEq] at e
  · obtain ⟨e1, _, e2, e3⟩ := e
    have := key e1
    exact ⟨by omega, by rw [e2, e3]⟩
  · exact absurd e.2.1.symm ht'
  · exact absurd e.2.1 ht
  · obtain ⟨e1, e2, e3⟩ := e
    have := key e1
    exact ⟨by omega, by rw [e2, e3]⟩
theorem tk_inj {n : Nms} (hn : NmsV n) : ∀ (c d : Con), shaped n.cs.length n.rs.length c = true → shaped n.cs.length n.rs.length d = true → ∀ t t' : List (List UInt8), tkC n c ++ t = tkC n d ++ t' → c = d ∧ t = t' := by
  intro c
  induction c using Con.ind with
  | h o k l ih =>
  rintro ⟨o', k', l'⟩ hs hs' t t' e
  rw [shaped_mk] at hs hs'
  obtain ⟨h1, h2⟩ := hs
  obtain ⟨h1', h2'⟩ := hs'
  have h0 := h1.2.1
  have h0' := h1'.2.1
  have nm : ∀ {k : Int}, 0 ≤ k → k < n.cs.length → ∀ w : List UInt8, (w = tTop ∨ w = tBot ∨ w = tNot ∨ w = tSome ∨ w = tAll ∨ w = [40]) → bs (nthS n.cs k.toNat) ≠ w := by
    intro k h0 hk w hw
    have h := word_not (hn.c _ (nthS_mem (show k.toNat < n.cs.length by omega)))
    rcases hw with rfl | rfl | rfl | rfl | rfl | rfl
    · exact h.1 _ (by decide)
    · exact h.1 _ (by decide)
    · exact h.1 _ (by decide)
    · exact h.1 _ (by decide)
    · exact h.1 _ (by decide)
    · exact h.2
  rcases SH_in h1 with ⟨rfl, hm, hk⟩ | ⟨rfl, hm, hk⟩ | ⟨rfl, hm, hk⟩ | ⟨rfl, hm, hk⟩ | ⟨rfl, hm, hk⟩ | ⟨rfl, hm, hk⟩ | ⟨rfl, hm, hk⟩ | ⟨rfl, hm, hk⟩ <;>
    rcases SH_in h1' with ⟨rfl, hm', hk'⟩ | ⟨rfl, hm', hk'⟩ | ⟨rfl, hm', hk'⟩ | ⟨rfl, hm', hk'⟩ | ⟨rfl, hm', hk'⟩ | ⟨rfl, hm', hk'⟩ | ⟨rfl, hm', hk'⟩ | ⟨rfl, hm', hk'⟩ <;>
    simp only [tkC, if_true, List.cons_append, List.nil_append, List.cons.injEq, Int.reduceEq, if_false] at e
  all_goals try (exfalso; first | (exact nm h0 hk _ (by simp) e.1) | (exact nm h0' hk' _ (by simp) e.1.symm) | (exact absurd e.1 (by decide)))
  · rw [List.length_eq_zero_iff.1 hm, List.length_eq_zero_iff.1 hm']
    have := nth_inj hn.cn (by omega) (by omega) e.1
    exact ⟨by rw [show k = k' by omega], e.2⟩
  · rw [List.length_eq_zero_iff.1 hm, List.length_eq_zero_iff.1 hm', hk, hk']; exact ⟨rfl, e.2⟩
  · rw [List.length_eq_zero_iff.1 hm, List.length_eq_zero_iff.1 hm', hk, hk']; exact ⟨rfl, e.2⟩
  · obtain ⟨c, rfl⟩ := len1 hm
    obtain ⟨d, rfl⟩ := len1 hm'
    obtain ⟨i1, i2⟩ := ih c (by simp) d (shapedL_mem h2 (by simp)) (shapedL_mem h2' (by simp)) t t' e.2
    rw [i1, hk, hk']; exact ⟨rfl, i2⟩
  · obtain ⟨a, b, rfl⟩ := len2 hm
    obtain ⟨a', b', rfl⟩ := len2 hm'
    simp only [tkH, tkT, true_and, List.append_assoc, List.cons_append, List.nil_append] at e
    obtain ⟨i1, i2⟩ := ih a (by simp) a' (shapedL_mem h2 (by simp)) (shapedL_mem h2' (by simp)) _ _ e
    simp only [List.cons.injEq, true_and] at i2
    obtain ⟨i3, i4⟩ := ih b (by simp) b' (shapedL_mem h2 (by simp)) (shapedL_mem h2' (by simp)) _ _ i2
    simp only [List.cons.injEq, true_and] at i4
    rw [i1, i3, hk, hk']; exact ⟨rfl, i4⟩
  · exfalso
    obtain ⟨a, b, rfl⟩ := len2 hm
    obtain ⟨a', b', rfl⟩ := len2 hm'
    simp only [tkH, tkT, true_and, List.append_assoc, List.cons_append, List.nil_append] at e
    obtain ⟨i1, i2⟩ := ih a (by simp) a' (shapedL_mem h2 (by simp)) (shapedL_mem h2' (by simp)) _ _ e
    simp at i2
  · exfalso
    obtain ⟨a, b, rfl⟩ := len2 hm
    obtain ⟨a', b', rfl⟩ := len2 hm'
    simp only [tkH, tkT, true_and, List.append_assoc, List.cons_append, List.nil_append] at e
    obtain ⟨i1, i2⟩ := ih a (by simp) a' (shapedL_mem h2 (by simp)) (shapedL_mem h2' (by simp)) _ _ e
    simp at i2
  · obtain ⟨a, b, rfl⟩ := len2 hm
    obtain ⟨a', b', rfl⟩ := len2 hm'
    simp only [tkH, tkT, true_and, List.append_assoc, List.cons_append, List.nil_append] at e
    obtain ⟨i1, i2⟩ := ih a (by simp) a' (shapedL_mem h2 (by simp)) (shapedL_mem h2' (by simp)) _ _ e
    simp only [List.cons.injEq, true_and] at i2
    obtain ⟨i3, i4⟩ := ih b (by simp) b' (shapedL_mem h2 (by simp)) (shapedL_mem h2' (by simp)) _ _ i2
    simp only [List.cons.injEq, true_and] at i4
    rw [i1, i3, hk, hk']; exact ⟨rfl, i4⟩
  · obtain ⟨c, rfl⟩ := len1 hm
    obtain ⟨d, rfl⟩ := len1 hm'
    simp only [tkH, true_and, List.append_assoc] at e
    obtain ⟨u, r, e1, e2⟩ := tkC_head hn c (shapedL_mem h2 (by simp))
    obtain ⟨u', r', e1', e2'⟩ := tkC_head hn d (shapedL_mem h2' (by simp))
    rw [e1, e1', List.cons_append, List.cons_append] at e
    obtain ⟨q1, q2⟩ := role_inj hn h0 hk h0' hk' e2 e2' e
    rw [← List.cons_append, ← List.cons_append, ← e1, ← e1'] at q2
    obtain ⟨i1, i2⟩ := ih c (by simp) d (shapedL_mem h2 (by simp)) (shapedL_mem h2' (by simp)) t t' q2
    rw [i1, q1]; exact ⟨rfl, i2⟩
  · obtain ⟨c, rfl⟩ := len1 hm
    obtain ⟨d, rfl⟩ := len1 hm'
    simp only [tkH, true_and, List.append_assoc] at e
    obtain ⟨u, r, e1, e2⟩ := tkC_head hn c (shapedL_mem h2 (by simp))
    obtain ⟨u', r', e1', e2'⟩ := tkC_head hn d (shapedL_mem h2' (by simp))
    rw [e1, e1', List.cons_append, List.cons_append] at e
    obtain ⟨q1, q2⟩ := role_inj hn h0 hk h0' hk' e2 e2' e
    rw [← List.cons_append, ← List.cons_append, ← e1, ← e1'] at q2
    obtain ⟨i1, i2⟩ := ih c (by simp) d (shapedL_mem h2 (by simp)) (shapedL_mem h2' (by simp)) t t' q2
    rw [i1, q1]; exact ⟨rfl, i2⟩
theorem str_inj {n : Nms} (hn : namesOK n = true) {c d : Con} (hc : shaped n.cs.length n.rs.length c = true) (hd : shaped n.cs.length n.rs.length d = true) (h : strC n c = strC n d) : c = d := by
  have hv := namesV hn
  have h1 := toks_str hv c hc [] trivial
  have h2 := toks_str hv d hd [] trivial
  rw [h, h2, toks_nil] at h1
  simp only [Option.map_some, Option.some.injEq] at h1
  exact (tk_inj hv c d hc hd [] [] h1.symm).1
end Inj
end Go.Proofs.YtcajjicdbphkpaaGreatDoor.Pg
