/-
  The program's reader: words, late names, roles.
-/
import Derived.Test.YtcajjicdbphkpaaDoorQl
set_option linter.unusedVariables false
set_option linter.unusedSimpArgs false
set_option maxRecDepth 100000
set_option maxHeartbeats 8000000
namespace Go.Proofs.YtcajjicdbphkpaaDoor.Pg
open Go
theorem PRd.ex {j : JH} {ro nb : Nat} {ts : List (List UInt8)} {b : Bool} {lt : Tok} {ls : List AV} (h : PRd j ro nb ts b lt ls) (objs : List AObj) (hle : AV.low (pid j.next objs.length) j.tnext (.sl lt ls.length ls) = true) : PRd (ext j objs) ro nb ts b lt ls :=
  ⟨by rw [ext_next]; unfold pid; have := h.ho; omega, by rw [ext_get_old h.ho]; exact h.hg, by rw [ext_next]; unfold pid; have := h.hn; omega, by rw [ext_next, ext_tnext]; exact hle⟩
theorem PRd.ex0 {j : JH} {ro nb : Nat} {ts : List (List UInt8)} {b : Bool} {lt : Tok} {ls : List AV} (h : PRd j ro nb ts b lt ls) : PRd (ext j []) ro nb ts b lt ls := h.ex [] h.hl
theorem word_of {sg : List UInt8} {b : UInt8} {l : List UInt8} (h : tkOK sg (b :: l)) : word (b :: l) = letB b := by
  obtain ⟨b', l', e, h1, h2, h3⟩ := h
  cases e
  unfold word
  simp only [wordF, wordF_all, Bool.not_true, Bool.false_and, Bool.or_false, List.isEmpty_cons, Bool.not_false, Bool.and_true]
  cases hb : letB b with
  | false => rfl
  | true => rw [h2 hb]; rfl
section
variable {m : Int} {G : Nat → Option (List AV)}
theorem s_WordP {sg : List UInt8} {j : JH} {ro nb : Nat} {t : List UInt8} {r : List (List UInt8)} {b : Bool} {lt : Tok} {ls : List AV} (h : PRd j ro nb (t :: r) b lt ls) (ht : tkOK sg t) (hs : t.length ≤ 1000000) :
    JC Tryd.prog (GG m) 75 [.ptr ro 0] j (if wordK t then RET (STR (ofL t)) (j.set ro (.cells PE (prC nb r b lt ls))) else PAN wrongV j) := by
  have hN := s_Next (G := GG m) h.ex0
  obtain ⟨ho, hg, hn, hl⟩ := h
  have hw0 := ht
  obtain ⟨c, l, rfl, h1, h2, h3⟩ := ht
  have hw := word_of hw0
  have hsz : (ofL (c :: l)).size ≤ 1000000 := by rw [ofL_size]; exact hs
  have hc0 : (ofL (c :: l))[0]? = some c := byte_at (l := l) (by rw [bs_ofL]; rfl)
  have hP : wordK (c :: l) = false → ∀ {K : List AObj}, @JFIN (ext j []) (ext j []) wrongV ⟨fun y j' => (if wordK (c :: l) then RET (STR (ofL (c :: l))) (j.set ro (.cells PE (prC nb r b lt ls))) else PAN wrongV j) (.pan y) j'⟩ := by
    intro e K
    rw [e]
    exact JFIN.of (JDropH.back (TokExt.refl _)).of_ext (SubB.pure rfl) ⟨rfl, rfl⟩
  refine JC.run hmix c75 (by exact k75) ?_
  (try simp only[↓jr,jw,seval,ext_get_old,ext_set_old,ho,hg,set_get,set_set,List.map_cons,List.drop_zero,slc_tail',List.length_cons,List.length_nil,ir75])
  refine JCs.ret hN ?_
  simp only [hdS]
  (try simp only[↓jr,jw,seval,ext_get_old,ext_set_old,ho,hg,set_get,set_set,List.map_cons,List.drop_zero,slc_tail',List.length_cons,List.length_nil])
  refine wq.intro (fun q => ?_) (fun q => ?_)
  · exfalso
    have hz : (c :: l).length = 0 := by rw [← ofL_size, q]; rfl
    simp at hz
  (try simp only[↓jr,jw,seval,ext_get_old,ext_set_old,ho,hg,set_get,set_set,List.map_cons,List.drop_zero,slc_tail',List.length_cons,List.length_nil,hc0])
  try (refine wc.intro (by omega) ?_)
  (try simp only[↓jr,jw,seval,ext_get_old,ext_set_old,ho,hg,set_get,set_set,List.map_cons,List.drop_zero,slc_tail',List.length_cons,List.length_nil,hc0])
  refine JCs.ret (s_letter _ _) ?_
  rw [show lttI (c.toNat : Int) = letB c from rfl]
  (try simp only[↓jr,jw,seval,ext_get_old,ext_set_old,ho,hg,set_get,set_set,List.map_cons,List.drop_zero,slc_tail',List.length_cons,List.length_nil])
  refine ww.intro (fun g1 => ?_) (fun g1 => ?_)
  · (try simp only[↓jr,jw,seval,ext_get_old,ext_set_old,ho,hg,set_get,set_set,List.map_cons,List.drop_zero,slc_tail',List.length_cons,List.length_nil])
    have e1 : ((⟨#[32]⟩ : ByteArray) ++ ofL (c :: l)).size = 1 + (ofL (c :: l)).size := by rw [ba_size_append]; rfl
    refine wc.intro (by rw [show (⟨#[32]⟩ : ByteArray).size = 1 from rfl]; omega) ?_
    (try simp only[↓jr,jw,seval,ext_get_old,ext_set_old,ho,hg,set_get,set_set,List.map_cons,List.drop_zero,slc_tail',List.length_cons,List.length_nil])
    refine wc.intro (by rw [e1, show (⟨#[32]⟩ : ByteArray).size = 1 from rfl]; omega) ?_
    (try simp only[↓jr,jw,seval,ext_get_old,ext_set_old,ho,hg,set_get,set_set,List.map_cons,List.drop_zero,slc_tail',List.length_cons,List.length_nil])
    refine JCs.ret (s_Contains _ _ _ (by decide)) ?_
    (try simp only[↓jr,jw,seval,ext_get_old,ext_set_old,ho,hg,set_get,set_set,List.map_cons,List.drop_zero,slc_tail',List.length_cons,List.length_nil])
    have e2 : bs ((⟨#[32]⟩ : ByteArray) ++ ofL (c :: l) ++ (⟨#[32]⟩ : ByteArray)) = 32 :: (bs (ofL (c :: l)) ++ [32]) := by
      rw [bs_append, bs_append]; rfl
    rw [e2]
    have hwd : word (c :: l) = true := by rw [hw, g1]
    have hc := contains_res (s := ofL (c :: l)) (by
      rw [bs_ofL]
      intro x hx
      unfold word at hwd
      simp only [Bool.and_eq_true] at hwd
      exact wordF_mem true _ hwd.1 x hx) (by rw [bs_ofL]; simp)
    rw [show (bs (⟨#[32, 116, 111, 112, 32, 98, 111, 116, 32, 110, 111, 116, 32, 97, 110, 100, 32, 111, 114, 32, 115, 111, 109, 101, 32, 97, 108, 108, 32, 99, 111, 110, 99, 101, 112, 116, 32, 114, 111, 108, 101, 32, 105, 110, 100, 32]⟩ : ByteArray)) = resL from rfl, hc]
    refine ww.intro (fun g2 => ?_) (fun g2 => ?_)
    · (try simp only[↓jr,jw,seval,ext_get_old,ext_set_old,ho,hg,set_get,set_set,List.map_cons,List.drop_zero,slc_tail',List.length_cons,List.length_nil])
      exact hP (by unfold wordK; rw [g2, Bool.not_true, Bool.and_false]) (K := [])
    · (try simp only[↓jr,jw,seval,ext_get_old,ext_set_old,ho,hg,set_get,set_set,List.map_cons,List.drop_zero,slc_tail',List.length_cons,List.length_nil])
      have e : wordK (c :: l) = true := by unfold wordK; rw [hwd, g2]; rfl
      rw [e]
      exact JFIN.ret (p1 ho hn hl) SubB.v
  · (try simp only[↓jr,jw,seval,ext_get_old,ext_set_old,ho,hg,set_get,set_set,List.map_cons,List.drop_zero,slc_tail',List.length_cons,List.length_nil])
    exact hP (by unfold wordK; rw [hw, g1, Bool.false_and]) (K := [])
theorem s_WordN {j : JH} {ro nb : Nat} {b : Bool} {lt : Tok} {ls : List AV} (h : PRd j ro nb [] b lt ls) : JC Tryd.prog (GG m) 75 [.ptr ro 0] j (PAN wrongV j) := by
  have hN := s_Next (G := GG m) h.ex0
  refine JC.run hmix c75 (by exact k75) ?_
  (try simp only[↓jr,jw,seval,ir75])
  refine JCs.ret hN ?_
  simp only [hdS]
  (try simp only[↓jr,jw,seval])
  exact JFIN.of (JDropH.back (TokExt.refl _)).of_ext (SubB.pure rfl) ⟨rfl, rfl⟩
/-- A list of late calls may grow. -/
def CanA (tb : Nat) (j : JH) (tok : Tok) (n : Nat) : Prop := tb ≤ j.tnext ∧ ((tok = .nil ∧ n = 0) ∨ ∃ t, tb ≤ t ∧ t < j.tnext ∧ tok = .own t 0 1 ∧ j.tok t = some n)
theorem JAPP.any {tb : Nat} {j : JH} {objs : List AObj} {bytes n : Nat} {tok tok' : Tok} {cs cs' : List AV} {K : AV → JH → Prop} (h : CanA tb j tok n)
    (h1 : cs.length = n * 1) (h2 : cs'.length = 1 * 1) (h3 : cs'.all AV.one = true) (h4 : (n + 1) * bytes ≤ 140737488355328) (h5 : n + 1 ≤ 9223372036854775807)
    (k : ∀ tok1 j1, CanA tb j1 tok1 (n + 1) → j1.next = j.next → j1.get = j.get → j.tnext ≤ j1.tnext → (∀ t, t < tb → j1.tok t = j.tok t) → K (.sl tok1 (n + 1) (cs ++ cs')) (ext j1 objs)) : @JAPP (ext j objs) 1 bytes (.sl tok n cs) (.sl tok' 1 cs') ⟨K⟩ := by
  refine ⟨⟨h1, h2, h3, h4, h5⟩, fun e => absurd e (by omega), fun _ => ?_⟩
  obtain ⟨hb, h⟩ := h
  rcases h with ⟨rfl, rfl⟩ | ⟨t, q1, q2, rfl, q4⟩
  · have hcs : cs = [] := List.eq_nil_of_length_eq_zero (by rw [h1, Nat.zero_mul])
    subst hcs
    have := k (.own j.tnext 0 1) (j.pushTok 1) ⟨Nat.le_succ_of_le hb, .inr ⟨j.tnext, hb, Nat.lt_succ_self _, rfl, by show (if j.tnext = j.tnext then some 1 else _) = _; rw [if_pos rfl]⟩⟩ rfl rfl (Nat.le_succ _) (fun t ht => by
      show (if t = j.tnext then some 1 else j.tok t) = _
      rw [if_neg (by omega)])
    rw [Nat.zero_add] at this; exact this
  · refine ⟨⟨by rw [ext_tok, Nat.zero_add]; exact q4, rfl⟩, ?_⟩
    have := k (.own t 0 1) (j.setTok t (n + 1)) ⟨hb, .inr ⟨t, q1, q2, rfl, by show (if t = t then some (n + 1) else _) = _; rw [if_pos rfl]⟩⟩ rfl rfl (Nat.le_refl _) (fun t' ht => by
      show (if t' = t then some (n + 1) else j.tok t') = _
      rw [if_neg (by omega)])
    rw [Nat.zero_add]; exact this
/-- All that was there but the reader is as it was. -/
structure Grow (ro tb : Nat) (j j' : JH) : Prop where
  next : j.next ≤ j'.next
  tnext : j.tnext ≤ j'.tnext
  get : ∀ o, o < j.next → o ≠ ro → j'.get o = j.get o
  tok : ∀ t, t < tb → j'.tok t = j.tok t
theorem Grow.refl {ro tb : Nat} {j : JH} : Grow ro tb j j := ⟨Nat.le_refl _, Nat.le_refl _, fun _ _ _ => rfl, fun _ _ => rfl⟩
theorem Grow.trans {ro tb : Nat} {a b c : JH} (h : Grow ro tb a b) (k : Grow ro tb b c) : Grow ro tb a c :=
  ⟨Nat.le_trans h.next k.next, Nat.le_trans h.tnext k.tnext, fun o ho hn => (k.get o (Nat.lt_of_lt_of_le ho h.next) hn).trans (h.get o ho hn), fun t ht => (k.tok t ht).trans (h.tok t ht)⟩
theorem Grow.set {ro tb : Nat} {j : JH} {x : AObj} : Grow ro tb j (j.set ro x) := ⟨Nat.le_refl _, Nat.le_refl _, fun o _ hn => by rw [set_get, if_neg hn], fun _ _ => rfl⟩
mutual
theorem low_mono {a b c d : Nat} (h1 : a ≤ c) (h2 : b ≤ d) : ∀ (x : AV), AV.low a b x = true → AV.low c d x = true
  | .v _, _ => rfl
  | .any, _ => rfl
  | .ptr _ _, h => by simp only [AV.low, decide_eq_true_eq] at h ⊢; omega
  | .arr _ _ _, h => by simp only [AV.low, decide_eq_true_eq] at h ⊢; omega
  | .mp _, h => by simp only [AV.low, decide_eq_true_eq] at h ⊢; omega
  | .yld _, h => by simp only [AV.low, decide_eq_true_eq] at h ⊢; omega
  | .cptr cs, h => by simp only [AV.low] at h ⊢; exact lows_mono h1 h2 cs h
  | .sl .nil _ cs, h => rfl
  | .sl .none _ cs, h => by simp only [AV.low] at h ⊢; exact lows_mono h1 h2 cs h
  | .sl (.own _ _ _) _ cs, h => by
    simp only [AV.low, Bool.and_eq_true, decide_eq_true_eq] at h ⊢; exact ⟨by omega, lows_mono h1 h2 cs h.2⟩
  | .fn _ x y, h => by
    simp only [AV.low, Bool.and_eq_true] at h ⊢; exact ⟨lows_mono h1 h2 x h.1, lows_mono h1 h2 y h.2⟩
  | .ifc _ x, h => by simp only [AV.low] at h ⊢; exact low_mono h1 h2 x h
  | .agg cs, h => by simp only [AV.low] at h ⊢; exact lows_mono h1 h2 cs h
  | .tup cs, h => by simp only [AV.low] at h ⊢; exact lows_mono h1 h2 cs h
theorem lows_mono {a b c d : Nat} (h1 : a ≤ c) (h2 : b ≤ d) : ∀ (xs : List AV), AV.lows a b xs = true → AV.lows c d xs = true
  | [], _ => rfl
  | x :: xs, h => by
    simp only [AV.lows, Bool.and_eq_true] at h ⊢; exact ⟨low_mono h1 h2 x h.1, lows_mono h1 h2 xs h.2⟩
end
theorem lows_append {a b : Nat} : ∀ {xs ys : List AV}, AV.lows a b xs = true → AV.lows a b ys = true → AV.lows a b (xs ++ ys) = true
  | [], _, _, h => h
  | x :: xs, ys, h, k => by
    simp only [List.cons_append, AV.lows, Bool.and_eq_true] at h ⊢; exact ⟨h.1, lows_append h.2 k⟩
theorem lows_of_sl {a b : Nat} {tok : Tok} {n : Nat} {xs : List AV} (h : AV.low a b (.sl tok n xs) = true) (hn : tok = .nil → xs = []) : AV.lows a b xs = true := by
  cases tok with
  | nil => rw [hn rfl]; rfl
  | none => simpa only [AV.low] using h
  | own t k s => simp only [AV.low, Bool.and_eq_true] at h; exact h.2
abbrev lateV (a b c d : Nat) : AV := .fn (.func 100) [] [.ptr a 0, .ptr b 0, .ptr c 0, .ptr d 0]
end
end Go.Proofs.YtcajjicdbphkpaaDoor.Pg
