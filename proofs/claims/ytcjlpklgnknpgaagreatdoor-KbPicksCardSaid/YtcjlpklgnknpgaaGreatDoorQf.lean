/-
  Tokens.
-/
import Derived.Test.YtcjlpklgnknpgaaGreatDoorQe
set_option linter.unusedVariables false
set_option linter.unusedSimpArgs false
set_option maxRecDepth 100000
set_option maxHeartbeats 8000000
namespace Go.Proofs.YtcjlpklgnknpgaaGreatDoor.Pg
open Go
def ofL (l : List UInt8) : ByteArray := ⟨l.toArray⟩
theorem bs_ofL (l : List UInt8) : bs (ofL l) = l := by simp [bs, ofL]
def toks (sg : List UInt8) : List UInt8 → Option (List (List UInt8))
 | [] => some []
 | b :: l => if b = 32 then toks sg l else if letB b then (toks sg (l.dropWhile witB)).map ((b :: l.takeWhile witB) :: ·) else if sg.contains b then (toks sg l).map ([b] :: ·) else none
termination_by l => l.length
decreasing_by
 all_goals simp_wf
 have := (List.dropWhile_sublist witB (l := l)).length_le
 omega
theorem toks_nil {sg : List UInt8} : toks sg [] = some [] := by rw [toks]
theorem toks_cons {sg : List UInt8} {b : UInt8} {l : List UInt8} : toks sg (b :: l) = if b = 32 then toks sg l else if letB b then (toks sg (l.dropWhile witB)).map ((b :: l.takeWhile witB) :: ·) else if sg.contains b then (toks sg l).map ([b] :: ·) else none := by rw [toks]
theorem bs_extract (s : ByteArray) (i k : Nat) : bs (s.extract i k) = ((bs s).take k).drop i := by
 simp [bs, List.drop_take, ByteArray.data_extract, Array.toList_extract, List.extract]
theorem SubB.eqj {no nt : Nat} {a b : Int} (h : a = b) : SubB no nt (I64 a) (I64 b) := by subst h; exact SubB.v
theorem b32 {b : UInt8} : ((b.toNat : Int) = 32) ↔ (b = 32) := by
 constructor
 ·intro h
  apply UInt8.toNat_inj.1
  have : (32 : UInt8).toNat = 32 := rfl
  omega
 ·rintro rfl; rfl
theorem slcs_at {s : ByteArray} {i k : Nat} (h1 : i ≤ k) (h2 : k ≤ s.size) : islcs (some (I64 i)) (some (I64 k)) (STR s) = some (STR (s.extract i k)) := by
 simp only [islcs, abound, aint]
 rw [if_pos (by omega)]
 simp only [Int.toNat_natCast]
 rw [if_pos (by omega)]
theorem slcs_at1 {s : ByteArray} {i : Nat} (h2 : i < s.size) : islcs (some (I64 i)) (some (I64 ((i : Int) + 1))) (STR s) = some (STR (s.extract i (i + 1))) := slcs_at (k := i + 1) (by omega) (by omega)
theorem wit_let {b : UInt8} (h : letB b = true) : witB b = true := by unfold letB at h; unfold witB; rw [h]; rfl
theorem tok_end {s : ByteArray} {b : UInt8} {l : List UInt8} {i k : Nat} (hi : (bs s).drop i = b :: l) (hk : i + 1 ≤ k) (hs : k ≤ s.size) (hd : (bs s).drop k = l.dropWhile witB) : s.extract i k = ofL (b :: l.takeWhile witB) := by
 refine bs_inj ?_
 rw [bs_extract, bs_ofL, ← List.take_append_drop 1 (((bs s).take k).drop i)]
 have e1 : ((bs s).take k).drop i = (b :: l).take (k - i) := by rw [← hi, List.drop_take]
 rw [e1]
 obtain ⟨q, hq⟩ : ∃ q, k - i = q + 1 := ⟨k - i - 1, by omega⟩
 have e2 : l.drop q = l.dropWhile witB := by
  rw [← hd]
  have : (bs s).drop k = ((bs s).drop i).drop (q + 1) := by rw [List.drop_drop]; congr 1; omega
  rw [this, hi]; rfl
 have e3 : l.take q = l.takeWhile witB := by
  have h1 := List.take_append_drop q l
  have h2 := List.takeWhile_append_dropWhile (p := witB) (l := l)
  rw [e2] at h1
  exact List.append_cancel_right (h1.trans h2.symm)
 rw [hq]
 simp [e3]
theorem tok_one {s : ByteArray} {b : UInt8} {l : List UInt8} {i : Nat} (hi : (bs s).drop i = b :: l) : s.extract i (i + 1) = ofL [b] := by
 refine bs_inj ?_
 rw [bs_extract, bs_ofL, List.drop_take, hi]
 rw [show i + 1 - i = 1 by omega]; rfl
theorem indexByte_has : ∀ (l : List UInt8) (c : UInt8), (0 ≤ Lib.indexByte l c) = (l.contains c = true) := by
 intro l c
 induction l with
 | nil => simp [Lib.indexByte]
 | cons b l ih =>
  have hg := Lib.indexByte_ge l c
  simp only [Lib.indexByte, List.contains_cons, Bool.or_eq_true, beq_iff_eq]
  by_cases h : b = c
  ·simp [h]
  ·have h' : ¬ c = b := fun q => h q.symm
   simp only [h, h', if_false, false_or]
   rw [← ih]
   split
   ·rename_i q; simp_all
   ·rename_i q; simp only [eq_iff_iff]; omega
theorem u8_back (b : UInt8) : ((b.toNat : Int)).toNat.toUInt8 = b := by simp
section
variable {m : GM} {G : Nat → Option (List AV)}
abbrev wrongV : AV := .ifc 89 (.agg [])
def TOKR (r : Option (List (List UInt8))) (j : JH) : AOut → JH → Prop := fun o j' => match r with
 | some ts => o = .ret (.sl .none ts.length (strs (ts.map ofL))) ∧ j' = j
 | none => o = .pan wrongV ∧ j' = j
theorem s_Tokens (s sg : ByteArray) (hs : s.size ≤ 1000000) (j : JH) : JC Tryz.prog G 42 [STR s, STR sg] j (TOKR (toks (bs sg) (bs s)) j) := by
 have hlen := bs_len s
 refine JC.run hmix c42 (by exact k42) ?_
 (try simp only[↓jr,jw,seval,ir42])
 refine JLOOP.of (σ := Nat × List (List UInt8) × Tok × JH) (fun x => x.1 ≤ s.size ∧ TokExt j x.2.2.2 ∧ CanApp j x.2.2.2 x.2.2.1 1 x.2.1.length ∧ x.2.1.length ≤ x.1 ∧ toks (bs sg) (bs s) = (toks (bs sg) ((bs s).drop x.1)).map (x.2.1 ++ ·)) (fun x => s.size - x.1)
   (fun x => [(6, I64 x.1), (5, .sl x.2.2.1 x.2.1.length (strs (x.2.1.map ofL))), (0, STR s), (1, STR sg)]) (fun x => ext x.2.2.2 []) (0, [], .nil, j) ⟨by omega, TokExt.refl _, CanApp.nil, by simp, by simp⟩ ?_ (JDropH.refl _) ?_
 ·((try simp only[↓jr,jw,seval,DL]) <;> exact sbq)
 rintro ⟨i, acc, tk, jx⟩ ⟨hi, ht, hc, hla, hI⟩
 simp only at hi ht hc hla hI
 (try simp only[↓jr,jw,seval])
 refine wq.intro (fun h1 => ?_) (fun h1 => ?_)
 ·have hlt : i < (bs s).length := by omega
  obtain ⟨b, l, hd⟩ : ∃ c_ l_, List.drop i (bs s) = c_ :: l_ := ⟨_, _, List.drop_eq_getElem_cons hlt⟩
  have hd1 : List.drop (i + 1) (bs s) = l := by rw [← List.drop_drop, hd]; rfl
  have hmem : b ∈ bs s := List.mem_of_mem_drop (hd ▸ List.mem_cons_self)
  have hb := byte_at hd
  rw [hd, toks_cons] at hI
  (try simp only[↓jr,jw,seval,hb])
  refine wc.intro (by omega) ?_
  (try simp only[↓jr,jw,seval,hb])
  refine wq.intro (fun h2 => ?_) (fun h2 => ?_)
  ·rw [if_pos (b32.mp h2)] at hI
   (try simp only[↓jr,jw,seval])
   refine wc.intro (by unfold R64; omega) ?_
   (try simp only[↓jr,jw,seval])
   refine JNEXT.of (i + 1, acc, tk, jx) ⟨by simp only; omega, ht, hc, by simp only; omega, by simp only [hd1]; exact hI⟩ (by simp only; omega) ?_ (JDropH.nextT ht ht (TokExt.refl _) (Nat.le_refl _) True.intro)
   (try simp only[↓jr,jw,seval,DL])
   exact ⟨SubB.eqj (by omega), SubB.can hc (strs_pur _), SubB.v, SubB.v⟩
  rw [if_neg (fun q => h2 (b32.mpr q))] at hI
  (try simp only[↓jr,jw,seval,hb])
  refine wc.intro (by omega) ?_
  (try simp only[↓jr,jw,seval,hb])
  refine JCs.ret (s_letter _ _) ?_
  rw [show lttI (b.toNat : Int) = letB b from rfl]
  (try simp only[↓jr,jw,seval])
  refine ww.intro (fun h3 => ?_) (fun h3 => ?_)
  ·rw [if_pos h3] at hI
   (try simp only[↓jr,jw,seval])
   refine JLOOP.of (σ := Nat) (fun k => i ≤ k ∧ k ≤ s.size ∧ ((bs s).drop k).dropWhile witB = l.dropWhile witB ∧ (k = i → (bs s).drop k = b :: l)) (fun k => s.size - k)
    (fun k => [(7, I64 k), (6, I64 i), (5, .sl tk acc.length (strs (acc.map ofL))), (0, STR s), (1, STR sg)]) (fun k => ext jx []) i ⟨Nat.le_refl _, by omega, by rw [hd, List.dropWhile_cons_of_pos (wit_let h3)], fun _ => hd⟩ ?_ (JDropH.refl _) ?_
   ·(try simp only[↓jr,jw,seval,DL])
    exact ⟨SubB.v, SubB.v, SubB.can hc (strs_pur _), SubB.v, SubB.v⟩
   rintro k ⟨hk1, hk2, hk3, hk4⟩
   have post : (bs s).drop k = l.dropWhile witB → i + 1 ≤ k → s.extract i k = ofL (b :: l.takeWhile witB) := fun h h' => tok_end hd h' hk2 h
   (try simp only[↓jr,jw,seval])
   refine wq.intro (fun g1 => ?_) (fun g1 => ?_)
   ·obtain ⟨c, r, he⟩ : ∃ c_ l_, List.drop k (bs s) = c_ :: l_ := ⟨_, _, List.drop_eq_getElem_cons (by omega)⟩
    have he1 : List.drop (k + 1) (bs s) = r := by rw [← List.drop_drop, he]; rfl
    have hcb := byte_at he
    (try simp only[↓jr,jw,seval,hcb])
    refine wc.intro (by omega) ?_
    (try simp only[↓jr,jw,seval,hcb])
    refine JCs.ret (s_within _ _) ?_
    rw [show (lttI (c.toNat : Int) || digI (c.toNat : Int) || decide ((c.toNat : Int) = 95)) = witB c from rfl]
    (try simp only[↓jr,jw,seval])
    refine ww.intro (fun g2 => ?_) (fun g2 => ?_)
    ·(try simp only[↓jr,jw,seval])
     refine wc.intro (by unfold R64; omega) ?_
     (try simp only[↓jr,jw,seval])
     refine JNEXT.of (k + 1) ⟨by omega, by omega, ?_, fun q => by omega⟩ (by omega) ?_ (JDropH.nextT ht ht (TokExt.refl _) (Nat.le_refl _) True.intro)
     ·rw [he1, ← hk3, he, List.dropWhile_cons_of_pos g2]
     ·(try simp only[↓jr,jw,seval,DL])
      exact ⟨SubB.eqj (by omega), SubB.v, SubB.can hc (strs_pur _), SubB.v, SubB.v⟩
    ·have hik : i + 1 ≤ k := by
      rcases Nat.lt_or_ge i k with q | q
      ·exact q
      ·have e := hk4 (by omega)
       rw [he] at e
       cases e
       rw [wit_let h3] at g2; cases g2
     have hdr : (bs s).drop k = l.dropWhile witB := by rw [← hk3, he, List.dropWhile_cons_of_neg (by rw [g2]; exact Bool.false_ne_true)]
     (try simp only[↓jr,jw,seval])
     (try simp only[↓jr,jw,seval,slcs_at (s := s) (i := i) (k := k) (by omega) (by omega)])
     refine JAPP.can' hc.push (ht.push 1) (by simp [d_len7]) (by simp) (by simp [AV.one]) (by omega) (by omega) ?_
     intro tok1 j1 hcan ht3 hle
     have hle' : jx.tnext ≤ j1.tnext := Nat.le_trans (Nat.le_succ _) hle
     (try simp only[↓jr,jw,seval])
     have hx := post hdr hik
     have e1 : (acc ++ [(b :: l.takeWhile witB)]).length = acc.length + 1 := by simp
     have e2 : strs (acc.map ofL) ++ [STR (s.extract i (k))] = strs ((acc ++ [(b :: l.takeWhile witB)]).map ofL) := by rw [hx]; simp [strs]
     refine JNEXT.of (k, acc ++ [(b :: l.takeWhile witB)], tok1, j1) ⟨by simp only; omega, ht3, by rw [e1]; exact hcan, by simp only [e1]; omega, ?_⟩ (by simp only; omega) ?_ (JDropH.nextT ht ht3 (TokExt.refl _) hle' True.intro)
     ·simp only [hdr]
      rw [hI, Option.map_map]
      congr 1; funext x; simp
     ·(try simp only[↓jr,jw,seval,DL,e1])
      rw [← e2]
      exact ⟨SubB.eqj (by omega), SubB.can hcan (by rw [pures_append, strs_pur]; rfl), SubB.v, SubB.v⟩
   ·have hdr : (bs s).drop k = l.dropWhile witB := by
     have e : (bs s).drop k = [] := List.drop_eq_nil_of_le (by omega)
     rw [← hk3, e]; rfl
    (try simp only[↓jr,jw,seval])
    (try simp only[↓jr,jw,seval,slcs_at (s := s) (i := i) (k := k) (by omega) (by omega)])
    refine JAPP.can' hc.push (ht.push 1) (by simp [d_len7]) (by simp) (by simp [AV.one]) (by omega) (by omega) ?_
    intro tok1 j1 hcan ht3 hle
    have hle' : jx.tnext ≤ j1.tnext := Nat.le_trans (Nat.le_succ _) hle
    (try simp only[↓jr,jw,seval])
    have hx := post hdr (by omega)
    have e1 : (acc ++ [(b :: l.takeWhile witB)]).length = acc.length + 1 := by simp
    have e2 : strs (acc.map ofL) ++ [STR (s.extract i (k))] = strs ((acc ++ [(b :: l.takeWhile witB)]).map ofL) := by rw [hx]; simp [strs]
    refine JNEXT.of (k, acc ++ [(b :: l.takeWhile witB)], tok1, j1) ⟨by simp only; omega, ht3, by rw [e1]; exact hcan, by simp only [e1]; omega, ?_⟩ (by simp only; omega) ?_ (JDropH.nextT ht ht3 (TokExt.refl _) hle' True.intro)
    ·simp only [hdr]
     rw [hI, Option.map_map]
     congr 1; funext x; simp
    ·(try simp only[↓jr,jw,seval,DL,e1])
     rw [← e2]
     exact ⟨SubB.eqj (by omega), SubB.can hcan (by rw [pures_append, strs_pur]; rfl), SubB.v, SubB.v⟩
  ·rw [if_neg (by rw [h3]; exact Bool.false_ne_true)] at hI
   (try simp only[↓jr,jw,seval,hb])
   refine wc.intro (by omega) ?_
   (try simp only[↓jr,jw,seval,hb])
   refine JCs.ret (s_IndexByte _ _ _) ?_
   rw [u8_back]
   (try simp only[↓jr,jw,seval])
   refine wq.intro (fun h4 => ?_) (fun h4 => ?_)
   ·rw [indexByte_has] at h4
    rw [if_pos h4] at hI
    (try simp only[↓jr,jw,seval])
    refine wc.intro (by unfold R64; omega) ?_
    (try simp only[↓jr,jw,seval,slcs_at1 (s := s) (i := i) (by omega)])
    refine JAPP.can' hc.push (ht.push 1) (by simp [d_len7]) (by simp) (by simp [AV.one]) (by omega) (by omega) ?_
    intro tok1 j1 hcan ht3 hle
    have hle' : jx.tnext ≤ j1.tnext := Nat.le_trans (Nat.le_succ _) hle
    (try simp only[↓jr,jw,seval])
    refine wc.intro (by unfold R64; omega) ?_
    (try simp only[↓jr,jw,seval])
    have hx := tok_one hd
    have e1 : (acc ++ [[b]]).length = acc.length + 1 := by simp
    have e2 : strs (acc.map ofL) ++ [STR (s.extract i (i + 1))] = strs ((acc ++ [[b]]).map ofL) := by rw [hx]; simp [strs]
    refine JNEXT.of (i + 1, acc ++ [[b]], tok1, j1) ⟨by simp only; omega, ht3, by rw [e1]; exact hcan, by simp only [e1]; omega, ?_⟩ (by simp only; omega) ?_ (JDropH.nextT ht ht3 (TokExt.refl _) hle' True.intro)
    ·simp only [hd1]
     rw [hI, Option.map_map]
     congr 1; funext x; simp
    ·(try simp only[↓jr,jw,seval,DL,e1])
     rw [← e2]
     exact ⟨SubB.eqj (by omega), SubB.can hcan (by rw [pures_append, strs_pur]; rfl), SubB.v, SubB.v⟩
   ·rw [indexByte_has] at h4
    rw [if_neg h4] at hI
    (try simp only[↓jr,jw,seval])
    refine JFIN.of (J := j) (Y := wrongV) ((JDropH.back ht).of_ext) (SubB.pure rfl) ?_
    rw [hI]
    exact ⟨rfl, rfl⟩
 ·(try simp only[↓jr,jw,seval])
  rw [List.drop_eq_nil_of_le (by omega), toks_nil] at hI
  simp only [Option.map_some, List.append_nil] at hI
  refine JFIN.of (J := j) (Y := .sl .none acc.length (strs (acc.map ofL))) ((JDropH.back ht).of_ext) (SubB.sl rfl (SubBs.pure (strs_pur _))) ?_
  rw [hI]
  exact ⟨rfl, rfl⟩
end
end Go.Proofs.YtcjlpklgnknpgaaGreatDoor.Pg
