/-
  Names, as the program tells them: one name.
-/
import Derived.Test.YtcjlpklgnknpgaaGreatDoorLd
set_option linter.unusedVariables false
set_option linter.unusedSimpArgs false
set_option maxRecDepth 20000
set_option maxHeartbeats 8000000
namespace Go.Proofs.YtcjlpklgnknpgaaGreatDoor.Pg
open Go
structure GM where
 n : Int
 more : Nat → Option (List AV)
def GG (m : GM) : Nat → Option (List AV) := fun g => if g = 1 then some [I64 m.n] else if g = 0 then some [I64 0, I64 0, I64 0, I64 1, I64 2, I64 2, I64 1, I64 1] else m.more g
variable {m : GM}
theorem bs_append (a b : ByteArray) : bs (a ++ b) = bs a ++ bs b := by
 simp [bs, ByteArray.data_append]
theorem bs_inj {a b : ByteArray} (h : bs a = bs b) : a = b := by
 cases a; cases b; simp [bs] at h; simp [h]
theorem JC.of_calls {G : Nat → Option (List AV)} {f : FuncId} {args : List AV} {vs : List Value} {u : Value} {x : AV} {j : JH} (ha : ∀ μ w us, Vs μ w args us → us = vs) (hx : ∀ μ w, V μ w x u)
  (hc : ∀ B0 μ h w, R B0 G μ h w → Calls Tryz.prog f vs.toArray w fun e w' => e = .returned u ∧ w' = w) : JC Tryz.prog G f args j (RET x j) := by
 rintro h rfl B0 μ w us r hv
 rw [ha μ w us hv]
 exact (hc B0 μ h w r).mono fun e w' ⟨e1, e2⟩ => ⟨.ret x, h, ⟨rfl, rfl⟩, μ, by rw [e2]; exact Step.refl r, u, e1, hx _ _⟩
theorem s_Contains (s t : ByteArray) (j : JH) (hs : s.size < 4294967281) : JC Tryz.prog (GG m) 110 [STR s, STR t] j (RET (BOO (Lib.contains (bs s) (bs t))) j) := by
 refine JC.of_calls (vs := [.string s, .string t]) (u := .bool (Lib.contains (bs s) (bs t))) ?_ (fun _ _ => by simp [V, plain]) ?_
 ·intro μ w us hv
  simp only [Vs, V] at hv
  obtain ⟨u, us', rfl, ⟨_, rfl⟩, u2, us2, rfl, ⟨_, rfl⟩, rfl⟩ := hv
  rfl
 ·intro B0 μ h w r
  have hg : Cells μ w [I64 m.n] 1 0 := r.glob _ _ (by simp [GG])
  simp only [Cells, V] at hg
  obtain ⟨_, ⟨u, hu, _, rfl⟩, _⟩ := hg
  exact Tryz.strings_Contains s t m.n w hs hu
def resL : List UInt8 := [32, 116, 111, 112, 32, 98, 111, 116, 32, 110, 111, 116, 32, 97, 110, 100, 32, 111, 114, 32, 115, 111, 109, 101, 32, 97, 108, 108, 32, 99, 111, 110, 99, 101, 112, 116, 32, 114, 111, 108, 101, 32, 105, 110, 100, 32]
theorem index_ge (sub : List UInt8) : ∀ l, -1 ≤ Lib.index l sub
 | [] => by simp only [Lib.index]; split <;> decide
 | b :: l => by
  have := index_ge sub l
  simp only [Lib.index]; split
  ·decide
  ·split
   ·decide
   ·omega
theorem index_occ (sub : List UInt8) : ∀ l, 0 ≤ Lib.index l sub → ∃ i, i ≤ l.length ∧ sub.isPrefixOf (l.drop i) = true
 | [], h => by
  simp only [Lib.index] at h
  split at h
  ·rename_i e; exact ⟨0, by simp, by simp only [List.drop_nil]; cases sub with
    | nil => rfl
    | cons _ _ => simp at e⟩
  ·omega
 | b :: l, h => by
  simp only [Lib.index] at h
  split at h
  ·rename_i e; exact ⟨0, by simp, by simpa using e⟩
  ·split at h
   ·omega
   ·rename_i h1 h2
    have h3 := index_ge sub l
    have h4 : Lib.index l sub ≠ -1 := by simpa using h2
    obtain ⟨i, hi, hp⟩ := index_occ sub l (by omega)
    exact ⟨i + 1, by simp; omega, by simpa using hp⟩
theorem pre_take : ∀ (l r : List UInt8), (∀ x ∈ l, x ≠ 32) → (l ++ [32]).isPrefixOf r = true → l = r.takeWhile (· ≠ 32)
 | [], r, _, h => by
  cases r with
  | nil => simp at h
  | cons b r => simp at h; subst h; simp
 | a :: l, r, hl, h => by
  cases r with
  | nil => simp at h
  | cons b r =>
   simp only [List.cons_append, List.isPrefixOf_cons_cons, Bool.and_eq_true, beq_iff_eq] at h
   obtain ⟨rfl, h⟩ := h
   have := pre_take l r (fun x hx => hl x (List.mem_cons_of_mem _ hx)) h
   rw [List.takeWhile_cons, if_pos (by simpa using hl a List.mem_cons_self), ← this]
theorem res_split : ∀ i ∈ List.range 48, (resL.drop i).head? = some 32 → (resL.drop (i + 1)).takeWhile (· ≠ 32) = [] ∨ (resL.drop (i + 1)).takeWhile (· ≠ 32) ∈ resW.map bs := by decide
theorem res_in : ∀ t ∈ resW, Lib.contains resL (32 :: (bs t ++ [32])) = true := by decide
theorem contains_res {s : ByteArray} (hl : ∀ x ∈ bs s, x ≠ 32) (hne : bs s ≠ []) : Lib.contains resL (32 :: (bs s ++ [32])) = resB s := by
 rw [Bool.eq_iff_iff]
 constructor
 ·intro h
  simp only [Lib.contains, decide_eq_true_eq] at h
  obtain ⟨i, hi, hp⟩ := index_occ _ _ h
  cases hd : resL.drop i with
  | nil => rw [hd] at hp; simp at hp
  | cons b r =>
   rw [hd] at hp
   simp only [List.isPrefixOf_cons_cons, Bool.and_eq_true, beq_iff_eq] at hp
   obtain ⟨rfl, hp⟩ := hp
   have hr : resL.drop (i + 1) = r := by rw [← List.drop_drop, hd]; rfl
   have := pre_take _ _ hl hp
   have hlt : i < 48 := by have : resL.length = 46 := rfl; omega
   rcases res_split i (List.mem_range.2 hlt) (by rw [hd]; rfl) with q | q
   ·rw [hr, ← this] at q; exact absurd q hne
   ·rw [hr, ← this] at q
    obtain ⟨t, ht, e⟩ := List.mem_map.1 q
    rw [← bs_inj e]
    unfold resB; exact List.any_eq_true.2 ⟨t, ht, by simp⟩
 ·intro h
  unfold resB at h
  obtain ⟨t, ht, e⟩ := List.any_eq_true.1 h
  simp only [decide_eq_true_eq] at e
  subst e
  exact res_in s ht
theorem wordF_mem : ∀ (f : Bool) (l : List UInt8), wordF f l = true → ∀ x ∈ l, x ≠ 32
 | f, [], _, x, hx => by simp at hx
 | f, b :: l, h, x, hx => by
  simp only [wordF, Bool.and_eq_true] at h
  rcases List.mem_cons.1 hx with rfl | hx
  ·rintro rfl
   have := h.1
   revert this; cases f <;> decide
  ·exact wordF_mem false l h.2 x hx
theorem wordF_all : ∀ (l : List UInt8), wordF false l = l.all witB
 | [] => rfl
 | b :: l => by
  simp only [wordF, List.all_cons, wordF_all l, witB, letB, Bool.not_false, Bool.true_and]
  congr 1; rw [Bool.or_assoc]
noncomputable def ir103 : IFn := ⟨34, [⟨2, none⟩], (.seq (.reg [oA 2 (.mov (kB false))]) (.seq (.seq (.reg [oA 4 (kM 0), oA 5 (.bin .eql (.r 4) (.k (.v (.string ⟨#[]⟩)))), oA 6 (kM 5), ⟨(some 7), (some ((6, false))), none, (kM 0)⟩, ⟨(some 8), (some ((6, false))), (some (.r 7)), (.lens (.r 7))⟩, ⟨(some 9), (some ((6, false))), none, (.bin .gtr (.r 8) (kI 12))⟩, oA 10 (.pick (.r 6) (kB true) (.r 9)), oA 11 (kM 10), ⟨(some 12), (some ((11, false))), none, (kM 0)⟩, ⟨(some 13), (some ((11, false))), none, (.idxs (.r 12) (kI 0))⟩, ⟨(some 14), (some ((11, false))), (some (.r 13)), (.call 77 [.r 13])⟩, ⟨(some 15), (some ((11, false))), none, (.not (.r 14))⟩, oA 16 (.pick (.r 11) (kB true) (.r 15)), oA 17 (kM 16), ⟨(some 18), (some ((17, false))), none, (kM 0)⟩, ⟨(some 19), (some ((17, false))), none, (.bin .add (.k (.v (.string ⟨#[32]⟩))) (.r 18))⟩, ⟨(some 20), (some ((17, false))), none, (.bin .add (.r 19) (.k (.v (.string ⟨#[32]⟩))))⟩, ⟨(some 21), (some ((17, false))), none, (.call 110 [.k (.v (.string ⟨#[32, 116, 111, 112, 32, 98, 111, 116, 32, 110, 111, 116, 32, 97, 110, 100, 32, 111, 114, 32, 115, 111, 109, 101, 32, 97, 108, 108, 32, 99, 111, 110, 99, 101, 112, 116, 32, 114, 111, 108, 101, 32, 105, 110, 100, 32]⟩)), .r 20])⟩, oA 22 (.pick (.r 17) (kB true) (.r 21))]) (.cond (.r 22) (.seq (.reg [oA 2 (.mov (kB false))]) .ret) .skip)) (.seq (.seq (.reg [oA 3 (.mov (kI 0))]) (.block 0 (.loop (.seq (.seq (.reg [oA 23 (kM 3), oA 24 (kM 0), oT 25 24 (.lens (.r 24)), oA 26 (.bin .lss (.r 23) (.r 25))]) (.cond (.r 26) .skip (.exit 0))) (.seq (.block 1 (.seq (.reg [oA 29 (kM 0), oA 30 (kM 3), oA 31 (.idxs (.r 29) (.r 30)), oT 32 31 (.call 78 [.r 31]), oA 33 (.not (.r 32))]) (.cond (.r 33) (.seq (.reg [oA 2 (.mov (kB false))]) .ret) .skip))) (.reg [oA 27 (kM 3), oA 28 (.bin .add (.r 27) (kI 1)), oA 3 (kM 28)])))))) (.seq (.reg [oA 2 (.mov (kB true))]) .ret))))⟩
theorem c103 : cfunc Tryz.prog 103 = some ir103 := by kernel_rfl
theorem k103 : okIR (max 1 ir103.n) ir103.ir = true := by decide +kernel
theorem s_Name (s : ByteArray) (j : JH) (hs : s.size < 4611686018427387904) : JC Tryz.prog (GG m) 103 [STR s] j (RET (BOO (nameOK s)) j) := by
 have hlen := bs_len s
 refine JC.run hmix c103 (by exact k103) ?_
 (try simp only[↓jr,jw,seval,ir103])
 have tr : ∀ {v : Bool}, v = nameOK s → @JFIN (ext j []) (ext j []) (.v (.bool v)) ⟨fun y j' => RET (BOO (nameOK s)) j (.ret y) j'⟩ := by
  intro v h
  refine JFIN.rb ?_
  rw [h]; exact SubB.v
 repeat' ((first | refine wq.intro (fun _ => ?_) (fun _ => ?_) | refine ww.intro (fun _ => ?_) (fun _ => ?_) | refine wc.intro (by first | omega | (unfold R64; omega) | trivial) ?_ | refine wr.in (by unfold R64; omega) ?_) <;> first | contradiction | (try simp only[↓jr,jw,seval]))
 ·rename_i h; subst h; exact tr (by decide)
 ·refine tr ?_
  unfold nameOK; rw [decide_eq_false (by omega), Bool.false_and, Bool.false_and]
 rename_i h1 h2
 cases hb : bs s with
 | nil =>
  exact absurd (bs_inj (a := s) (b := ⟨#[]⟩) (by rw [hb])) h1
 | cons b l =>
 have hb0 : s[0]? = some b := byte_at (by rw [hb]; rfl)
 (try simp only[↓jr,jw,seval,hb0])
 refine JCs.ret (s_letter _ _) ?_
 (try simp only[↓jr,jw,seval])
 have hw : word (bs s) = (letB b && l.all witB) := by
  rw [hb]; unfold word; simp only [wordF, wordF_all, Bool.not_true, Bool.false_and, Bool.or_false, List.isEmpty_cons, Bool.not_false, Bool.and_true]
 refine ww.intro (fun h3 => ?_) (fun h3 => ?_)
 ·(try simp only[↓jr,jw,seval])
  have e1 : ((⟨#[32]⟩ : ByteArray) ++ s).size = 1 + s.size := by rw [← bs_len, bs_append, List.length_append, hlen]; rfl
  refine wc.intro (by rw [show (⟨#[32]⟩ : ByteArray).size = 1 from rfl]; omega) ?_
  (try simp only[↓jr,jw,seval])
  refine wc.intro (by rw [e1, show (⟨#[32]⟩ : ByteArray).size = 1 from rfl]; omega) ?_
  (try simp only[↓jr,jw,seval])
  refine JCs.ret (s_Contains _ _ _ (by decide)) ?_
  (try simp only[↓jr,jw,seval])
  have e2 : bs ((⟨#[32]⟩ : ByteArray) ++ s ++ (⟨#[32]⟩ : ByteArray)) = 32 :: (bs s ++ [32]) := by
   rw [bs_append, bs_append]; rfl
  rw [e2]
  refine ww.intro (fun h4 => ?_) (fun h4 => ?_)
  ·(try simp only[↓jr,jw,seval])
   refine tr ?_
   unfold nameOK
   cases hq : word (bs s) with
   | false => rw [Bool.and_false, Bool.false_and]
   | true =>
    have hq' := hq
    unfold word at hq'
    rw [Bool.and_eq_true] at hq'
    have := contains_res (wordF_mem _ _ hq'.1) (by rw [hb]; simp)
    rw [← this, show Lib.contains resL (32 :: (bs s ++ [32])) = true from h4]; simp
  ·(try simp only[↓jr,jw,seval])
   refine JLOOP.of (σ := Nat) (fun k => k ≤ s.size ∧ ((bs s).drop k).all witB = (bs s).all witB) (fun k => s.size - k)
     (fun k => [(3, I64 k), (0, STR s)]) (fun k => ext j []) 0 ⟨by omega, rfl⟩ ?_ (JDropH.refl _) ?_
   ·((try simp only[↓jr,jw,seval,DL]) <;> exact sbq)
   ·rintro k ⟨hk, hI⟩
    (try simp only[↓jr,jw,seval])
    have hal : (bs s).all witB = l.all witB := by
     rw [hb, List.all_cons]; unfold witB; rw [show lttI (b.toNat : Int) = true from h3]; simp
    refine wq.intro (fun h5 => ?_) (fun h5 => ?_)
    ·have hlt : k < (bs s).length := by omega
     obtain ⟨c, r, hd⟩ : ∃ c_ l_, List.drop k (bs s) = c_ :: l_ := ⟨_, _, List.drop_eq_getElem_cons hlt⟩
     have hd1 : List.drop (k + 1) (bs s) = r := by rw [← List.drop_drop, hd]; rfl
     have hmem : c ∈ bs s := List.mem_of_mem_drop (hd ▸ List.mem_cons_self)
     have hc := byte_at hd
     (try simp only[↓jr,jw,seval,hc])
     rw [hd, List.all_cons] at hI
     refine wc.intro (by omega) ?_
     (try simp only[↓jr,jw,seval,hc])
     refine JCs.ret (s_within _ _) ?_
     (try simp only[↓jr,jw,seval])
     refine ww.intro (fun h6 => ?_) (fun h6 => ?_)
     ·(try simp only[↓jr,jw,seval])
      refine wc.intro (R64_add hlt (by omega)) ?_
      (try simp only[↓jr,jw,seval])
      rw [show witB c = true from h6, Bool.true_and] at hI
      refine JNEXT.of (k + 1) ⟨by omega, by rw [hd1, hI]⟩ (by omega) ?_ (JDropH.refl _)
      ((try simp only[↓jr,jw,seval,DL]) <;> exact sbq)
     ·(try simp only[↓jr,jw,seval])
      refine tr ?_
      rw [show witB c = false from h6, Bool.false_and, hal] at hI
      unfold nameOK
      rw [hw, ← hI]; simp
    ·(try simp only[↓jr,jw,seval])
     refine tr ?_
     rw [List.drop_eq_nil_of_le (by omega), List.all_nil, hal] at hI
     unfold nameOK
     have hq : word (bs s) = true := by rw [hw, ← hI, show letB b = true from h3]; rfl
     have hq' := hq
     unfold word at hq'
     rw [Bool.and_eq_true] at hq'
     have := contains_res (wordF_mem _ _ hq'.1) (by rw [hb]; simp)
     rw [hq, ← this, show Lib.contains resL (32 :: (bs s ++ [32])) = false from h4, decide_eq_true (by omega)]; rfl
 ·(try simp only[↓jr,jw,seval])
  refine tr ?_
  unfold nameOK; rw [hw, show letB b = false from h3]; simp
end Go.Proofs.YtcjlpklgnknpgaaGreatDoor.Pg
