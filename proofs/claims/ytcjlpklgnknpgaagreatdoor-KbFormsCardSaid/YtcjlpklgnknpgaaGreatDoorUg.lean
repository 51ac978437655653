/-
  The reference's names: lists that grow, two at a time.
-/
import Derived.Test.YtcjlpklgnknpgaaGreatDoorUf
set_option linter.unusedVariables false
set_option linter.unusedSimpArgs false
set_option maxRecDepth 100000
set_option maxHeartbeats 8000000
namespace Go.Proofs.YtcjlpklgnknpgaaGreatDoor.Pg
open Go
/-- Rows that grow while others (S) stay. -/
def CanP (S : Nat → Prop) (j : JH) (tok : Tok) (es n : Nat) : Prop := (tok = .nil ∧ n = 0) ∨ ∃ t, ¬ S t ∧ t < j.tnext ∧ tok = .own t 0 es ∧ j.tok t = some n
structure TokP (S : Nat → Prop) (j j1 : JH) : Prop where
  next : j1.next = j.next
  get : ∀ o, o < j.next → j1.get o = j.get o
  tnext : j.tnext ≤ j1.tnext
  tok : ∀ t, S t → j1.tok t = j.tok t
  lo : ∀ t, S t → t < j.tnext
theorem TokP.refl {S : Nat → Prop} {j : JH} (h : ∀ t, S t → t < j.tnext) : TokP S j j := ⟨rfl, fun _ _ => rfl, Nat.le_refl _, fun _ _ => rfl, h⟩
theorem TokP.trans {S : Nat → Prop} {a b c : JH} (h : TokP S a b) (k : TokP S b c) : TokP S a c :=
  ⟨k.next.trans h.next, fun o ho => (k.get o (by rw [h.next]; exact ho)).trans (h.get o ho), Nat.le_trans h.tnext k.tnext, fun t q => (k.tok t q).trans (h.tok t q), h.lo⟩
theorem TokP.sub {S S' : Nat → Prop} {a b : JH} (h : TokP S a b) (k : ∀ t, S' t → S t) : TokP S' a b :=
  ⟨h.next, h.get, h.tnext, fun t q => h.tok t (k t q), fun t q => h.lo t (k t q)⟩
theorem TokP.push {S : Nat → Prop} {a b : JH} (h : TokP S a b) (F : Nat) : TokP S a (b.pushTok F) :=
  ⟨h.next, h.get, Nat.le_succ_of_le h.tnext, fun t q => by
    show (if t = b.tnext then some F else b.tok t) = _
    rw [if_neg (by have := h.lo t q; have := h.tnext; omega)]; exact h.tok t q, h.lo⟩
theorem TokP.setT {S : Nat → Prop} {a b : JH} (h : TokP S a b) {t : Nat} (ht : ¬ S t) (F : Nat) : TokP S a (b.setTok t F) :=
  ⟨h.next, h.get, h.tnext, fun p q => by
    show (if p = t then some F else b.tok p) = _
    rw [if_neg (fun e => ht (by rw [← e]; exact q))]; exact h.tok p q, h.lo⟩
theorem TokP.ext {a b : JH} (h : TokP (fun t => t < a.tnext) a b) : TokExt a b := ⟨h.next, h.get, h.tnext, h.tok⟩
theorem TokP.of {a b : JH} (h : TokExt a b) : TokP (fun t => t < a.tnext) a b := ⟨h.next, h.get, h.tnext, h.tok, fun _ h => h⟩
theorem CanP.nil {S : Nat → Prop} {j : JH} {es : Nat} : CanP S j .nil es 0 := .inl ⟨rfl, rfl⟩
theorem CanP.push {S : Nat → Prop} {j : JH} {tok : Tok} {es n F : Nat} (h : CanP S j tok es n) : CanP S (j.pushTok F) tok es n := by
  rcases h with h | ⟨t, h1, h2, h3, h4⟩
  · exact .inl h
  · refine .inr ⟨t, h1, Nat.lt_succ_of_lt h2, h3, ?_⟩
    show (if t = j.tnext then some F else j.tok t) = _
    rw [if_neg (by omega)]; exact h4
theorem CanP.low {S : Nat → Prop} {j : JH} {tok : Tok} {es n : Nat} (h : CanP S j tok es n) {S' : Nat → Prop} (k : ∀ t, S' t → S t) : CanP S' j tok es n := by
  rcases h with h | ⟨t, h1, h2, h3, h4⟩
  · exact .inl h
  · exact .inr ⟨t, fun q => h1 (k t q), h2, h3, h4⟩
/-- A row that others' growing leaves alone. -/
theorem CanP.stay {S S' : Nat → Prop} {j j1 : JH} {tok : Tok} {es n : Nat} (h : CanP S j tok es n) (k : TokP S' j j1) (hs : ∀ t, tok = .own t 0 es → S' t) : CanP S j1 tok es n := by
  rcases h with h | ⟨t, h1, h2, h3, h4⟩
  · exact .inl h
  · exact .inr ⟨t, h1, Nat.lt_of_lt_of_le h2 k.tnext, h3, by rw [k.tok t (hs t h3)]; exact h4⟩
theorem SubB.canP {S : Nat → Prop} {j : JH} {tok : Tok} {es n no : Nat} {cs : List AV} (h : CanP S j tok es n) (p : AV.pures cs = true) : SubB no j.tnext (.sl tok n cs) (.sl tok n cs) := by
  rcases h with ⟨rfl, rfl⟩ | ⟨t, h1, h2, rfl, h4⟩
  · exact SubB.pure (by simp only [AV.pure]; exact p)
  · exact SubB.own h2 (SubBs.pure p)
theorem JAPP.canP {S : Nat → Prop} {j : JH} {objs : List AObj} {es bytes n m : Nat} {tok tok' : Tok} {cs cs' : List AV} {K : AV → JH → Prop} (h : CanP S j tok es n) (hS : ∀ t, S t → t < j.tnext)
    (h1 : cs.length = n * es) (h2 : cs'.length = m * es) (h3 : cs'.all AV.one = true) (h4 : (n + m) * bytes ≤ 140737488355328) (h5 : n + m ≤ 9223372036854775807)
    (k : ∀ tok1 j1, CanP S j1 tok1 es (n + m) → TokP S j j1 → K (.sl tok1 (n + m) (cs ++ cs')) (ext j1 objs)) : @JAPP (ext j objs) es bytes (.sl tok n cs) (.sl tok' m cs') ⟨K⟩ := by
  refine ⟨⟨h1, h2, h3, h4, h5⟩, fun hm => ?_, fun hm => ?_⟩
  · subst hm
    have hc : cs' = [] := List.eq_nil_of_length_eq_zero (by rw [h2, Nat.zero_mul])
    subst hc
    have := k tok j h (TokP.refl hS)
    simpa using this
  rcases h with ⟨rfl, rfl⟩ | ⟨t, q1, q2, rfl, q4⟩
  · have hcs : cs = [] := List.eq_nil_of_length_eq_zero (by rw [h1, Nat.zero_mul])
    subst hcs
    have := k (.own j.tnext 0 es) (j.pushTok m) (.inr ⟨j.tnext, fun q => absurd (hS _ q) (Nat.lt_irrefl _), Nat.lt_succ_self _, rfl, by show (if j.tnext = j.tnext then some m else _) = _; rw [if_pos rfl, Nat.zero_add]⟩) ((TokP.refl hS).push m)
    rw [Nat.zero_add] at this; exact this
  · refine ⟨⟨by rw [ext_tok, Nat.zero_add]; exact q4, rfl⟩, ?_⟩
    have := k (.own t 0 es) (j.setTok t (n + m)) (.inr ⟨t, q1, q2, rfl, by show (if t = t then some (n + m) else _) = _; rw [if_pos rfl]⟩) ((TokP.refl hS).setT q1 _)
    rw [Nat.zero_add]; exact this
theorem JDropH.tokP {S : Nat → Prop} {j j1 : JH} {l : List AObj} (h : TokP S j j1) : JDropH (Pg.ext j []) (Pg.ext j1 l) (Pg.ext j1 []) :=
  JDropH.next (TokExt.refl _) h.next h.tnext (fun o ob ho q => .inl (by rw [← h.get o ho]; exact q)) (by cases l <;> trivial)
theorem pr_tokq {j j1 : JH} {objs : List AObj} {u : Option Nat} {F : Nat} (h : j1.tok j.tnext = (j.pushTok F).tok j.tnext) : pair2 ⟨true, none, Pg.ext j objs, Pg.ext (j.pushTok F) objs⟩ ⟨true, u, Pg.ext (j.pushTok F) objs, Pg.ext j1 objs⟩ :=
  fun _ _ => ⟨(fun ob q => by cases q), fun q => absurd rfl q, fun _ => h.symm⟩
/-- A number goes into an increasing list. -/
def insR : List Int → Int → List Int
  | [], n => [n]
  | x :: l, n => if x = n then x :: l else if n < x then n :: x :: l else x :: insR l n
theorem insR_len : ∀ (l : List Int) (n : Int), (insR l n).length ≤ l.length + 1
  | [], n => by simp [insR]
  | x :: l, n => by
    have := insR_len l n
    unfold insR
    repeat' split
    all_goals simp; try omega
section
variable {G : Nat → Option (List AV)}
theorem ints_dr {l : List Int} {k : Nat} : (ints l).drop k = ints (l.drop k) := by simp [ints, List.map_drop]
theorem ints_tk {l : List Int} {k : Nat} : (ints l).take k = ints (l.take k) := by simp [ints, List.map_take]
theorem ints_co {x : Int} {l : List Int} : ints (x :: l) = I64 x :: ints l := rfl
theorem ints_le {l : List Int} : (ints l).length = l.length := by simp [ints]
theorem ints_ap {a b : List Int} : ints a ++ ints b = ints (a ++ b) := by simp [ints]
theorem ints_on : ∀ l : List Int, (ints l).all AV.one = true
  | [] => rfl
  | x :: l => by rw [ints_co, List.all_cons, ints_on l]; rfl
theorem take_sn {α : Type} {l : List α} {k : Nat} {c : α} {r : List α} (h : l.drop k = c :: r) : l.take (k + 1) = l.take k ++ [c] := by
  have : l[k]? = some c := by rw [← List.head?_drop, h]; rfl
  rw [List.take_add_one, this]; rfl
theorem islc_lo {t k n : Nat} {cs : List AV} (h : k < n) (hl : cs.length = n) : islc 1 none (some (I64 k)) (.sl (.own t 0 1) n cs) = some (.sl .none k (cs.take k)) := by
  have a1 : abound n (some (I64 (k : Int))) n = some k := by
    show (if 0 ≤ (k : Int) ∧ (k : Int) ≤ (n : Int) then some (k : Int).toNat else none) = some k
    rw [if_pos (by omega), Int.toNat_natCast]
  have a2 : abound k none 0 = some 0 := by simp [abound]
  simp only [islc, a1, a2, hl, Nat.mul_one, if_true]
  rw [if_neg (by omega)]
  simp
theorem islc_hi {t k n : Nat} {cs : List AV} (h : k < n) (hl : cs.length = n) : islc 1 (some (I64 k)) none (.sl (.own t 0 1) n cs) = some (.sl (.own t k 1) (n - k) (cs.drop k)) := by
  have a1 : abound n none n = some n := by simp [abound]
  have a2 : abound n (some (I64 (k : Int))) 0 = some k := by
    show (if 0 ≤ (k : Int) ∧ (k : Int) ≤ (n : Int) then some (k : Int).toNat else none) = some k
    rw [if_pos (by omega), Int.toNat_natCast]
  simp only [islc, a1, a2, hl, Nat.mul_one, if_true, Nat.zero_add]
  rw [if_pos ⟨trivial, h, trivial⟩]
noncomputable def ir66 : IFn := ⟨37, [⟨4, none⟩], (.seq (.reg [oA 4 (.mov (.k (.sl .nil 0 [])))]) (.seq (.seq (.reg [oA 7 (kM 0), oT 8 7 (.lenl (.r 7)), oA 9 (.mov (kI 0))]) (.block 0 (.loop (.seq (.reg [oA 10 (.bin .lss (.r 9) (.r 8))]) (.seq (.cond (.r 10) .skip (.exit 0)) (.seq (.block 1 (.seq (.reg [oA 11 (kM 9), oA 12 (.iasl 1 (.r 7) (.r 9)), oL 13 12 none, oA 5 (kM 11), oA 6 (kM 13)]) (.seq (.seq (.reg [oA 14 (kM 6), oA 15 (kM 1), oA 16 (.bin .eql (.r 14) (.r 15))]) (.cond (.r 16) (.seq (.reg [oA 17 (kM 0), oA 4 (kM 17)]) .ret) .skip)) (.seq (.reg [oA 18 (kM 6), oA 19 (kM 1), oA 20 (.bin .gtr (.r 18) (.r 19))]) (.cond (.r 20) (.seq (.draw [oA 21 (kM 0), oA 22 (kM 5), oA 23 (.slc 1 (.r 21) none (some (.r 22))), oA 25 (kM 1), oA 26 (.bsl 1 1 [.v (.int .i64 0)] [(0, (1, .r 25))]), oA 28 (kM 0), oA 29 (kM 5), oA 30 (.slc 1 (.r 28) (some (.r 29)) none), oA 24 (.app 1 8 (.k (.sl .nil 0 [])) (.r 23)), oA 27 (.app 1 8 (.r 24) (.r 26)), oA 31 (.app 1 8 (.r 27) (.r 30)), oA 4 (kM 31)] [(4, 8)]) .ret) .skip))))) (.reg [oA 32 (.bin .add (.r 9) (kI 1)), oA 9 (kM 32)]))))))) (.seq (.reg [oA 33 (kM 0), oA 34 (kM 1), oA 35 (.bsl 1 1 [.v (.int .i64 0)] [(0, (1, .r 34))]), oA 36 (.app 1 8 (.r 33) (.r 35)), oA 4 (kM 36)]) .ret)))⟩
theorem c66 : cfunc Tryz.prog 66 = some ir66 := by kernel_rfl
theorem k66 : okIR (max 2 ir66.n) ir66.ir = true := by decide +kernel
theorem s_Insert (S : Nat → Prop) (l : List Int) (n : Int) (tok : Tok) (j : JH) (hc : CanP S j tok 1 l.length) (hS : ∀ t, S t → t < j.tnext) (hl : l.length ≤ 1000000) (hn : R64 n) :
    JC Tryz.prog G 66 [.sl tok l.length (ints l), I64 n] j fun o j' => ∃ tok1 j1, CanP S j1 tok1 1 (insR l n).length ∧ TokP S j j1 ∧ o = .ret (.sl tok1 (insR l n).length (ints (insR l n))) ∧ j' = Pg.ext j1 [] := by
  refine JC.run hmix c66 (by exact k66) ?_
  (try simp only[↓jr,jw,seval,ints_dr,ints_co,ints_le,ir66])
  refine JLOOP.of (σ := Nat) (fun k => k ≤ l.length ∧ insR l n = l.take k ++ insR (l.drop k) n) (fun k => l.length - k) (fun k => [(9, I64 k), (8, I64 l.length), (7, .sl .none l.length (ints l)), (0, .sl tok l.length (ints l)), (1, I64 n)]) (fun k => ext j []) 0 ⟨by omega, by simp⟩ ?_ (JDropH.refl _) ?_
  · (try simp only[↓jr,jw,seval,ints_dr,ints_co,ints_le,DL])
    exact ⟨SubB.v, SubB.v, SubB.sl rfl (SubBs.pure (ints_pur _)), SubB.canP hc (ints_pur _), SubB.v⟩
  rintro k ⟨hk, hI⟩
  (try simp only[↓jr,jw,seval,ints_dr,ints_co,ints_le])
  refine wq.intro (fun q1 => ?_) (fun q1 => ?_)
  · have hlt : k < (l).length := by omega
    obtain ⟨x, u, hd⟩ : ∃ c_ l_, List.drop k (l) = c_ :: l_ := ⟨_, _, List.drop_eq_getElem_cons hlt⟩
    have hd1 : List.drop (k + 1) (l) = u := by rw [← List.drop_drop, hd]; rfl
    have hmem : x ∈ l := List.mem_of_mem_drop (hd ▸ List.mem_cons_self)
    have q1' : k < l.length := by omega
    rw [hd] at hI
    simp only [insR] at hI
    (try simp only[↓jr,jw,seval,ints_dr,ints_co,ints_le,hd])
    refine wc.intro (by omega) ?_
    (try simp only[↓jr,jw,seval,ints_dr,ints_co,ints_le,hd])
    refine wq.intro (fun e1 => ?_) (fun e1 => ?_)
    · (try simp only[↓jr,jw,seval,ints_dr,ints_co,ints_le])
      have hI' : insR l n = l := by
        rw [hI]
        have e : x = n := by omega
        rw [if_pos e, ← hd, List.take_append_drop]
      rw [hI']
      exact JFIN.of (JDropH.refl' (j0 := j) (j := j) (l := [])) (SubB.canP hc (ints_pur _)) ⟨tok, j, hc, TokP.refl hS, rfl, rfl⟩
    (try simp only[↓jr,jw,seval,ints_dr,ints_co,ints_le])
    refine wq.intro (fun e2 => ?_) (fun e2 => ?_)
    · have hI' : insR l n = (l.take k ++ [n]) ++ l.drop k := by
        rw [hI, if_neg (by omega), if_pos (by omega), hd]; simp
      obtain ⟨t, hS1, ht, rfl, htk⟩ : ∃ t, ¬ S t ∧ t < j.tnext ∧ tok = .own t 0 1 ∧ j.tok t = some l.length := by
        rcases hc with ⟨_, h⟩ | h
        · omega
        · exact h
      (try simp only[↓jr,jw,seval,ints_dr,ints_co,ints_le])
      rw [islc_lo q1' ints_le]
      (try simp only[↓jr,jw,seval,ints_dr,ints_co,ints_le])
      rw [islc_hi q1' ints_le]
      (try simp only[↓jr,jw,seval,ints_dr,ints_co,ints_le])
      rw [ints_tk]
      have hS' : ∀ t, (S t ∨ t = j.tnext) → t < (j.pushTok 1).tnext := fun t q => by
        rcases q with q | rfl
        · exact Nat.lt_succ_of_lt (hS t q)
        · exact Nat.lt_succ_self _
      refine JAPP.canP (S := fun t => S t ∨ t = j.tnext) CanP.nil hS' rfl (by rw [ints_le, List.length_take]; omega) (ints_on _) (by omega) (by omega) ?_
      intro tok1 j1 h1 h2
      rw [Nat.zero_add, List.nil_append]
      (try simp only[↓jr,jw,seval,ints_dr,ints_co,ints_le])
      refine JAPP.canP (by rw [Nat.zero_add] at h1; exact h1) (fun t q => Nat.lt_of_lt_of_le (hS' t q) h2.tnext) (by rw [ints_le, List.length_take]; omega) rfl rfl (by omega) (by omega) ?_
      intro tok2 j2 h3 h4
      (try simp only[↓jr,jw,seval,ints_dr,ints_co,ints_le])
      refine JAPP.canP h3 (fun t q => Nat.lt_of_lt_of_le (Nat.lt_of_lt_of_le (hS' t q) h2.tnext) h4.tnext) (by rw [List.length_append, ints_le, List.length_take]; simp; omega) (by rw [ints_le, List.length_drop]; omega) (ints_on (l.drop k)) (by omega) (by omega) ?_
      intro tok3 j3 h5 h6
      have h7 : TokP S j j3 := (TokP.push (TokP.refl hS) 1).trans ((h2.trans (h4.trans h6)).sub fun t q => .inl q)
      have h8 := h2.tok j.tnext (.inr rfl)
      have n2 := h2.next
      have n4 := h4.next
      have n6 := h6.next
      have t2 := h2.tnext
      have t4 := h4.tnext
      have t6 := h6.tnext
      (try simp only[↓jr,jw,seval,ints_dr,ints_co,ints_le,n2,n4,n6,pushTok_next])
      refine JDRAW.oc (by (try simp only[↓jr,jw,seval,ints_dr,ints_co,ints_le,jq,qe2,qe3,ext_next,ext_tnext,pushTok_next,List.length_cons,List.length_nil,n2,n4,n6]) <;> (repeat' (first | exact trivial | exact pr_tokq h8 | refine And.intro ?_ ?_ | exact Nat.le_refl _ | assumption | omega | (unfold pid; omega)))) ?_
      (try simp only[↓jr,jw,seval,ints_dr,ints_co,ints_le])
      have hlk : k + 1 + (l.length - k) = (insR l n).length := by rw [hI']; simp; omega
      have e1 : ints (l.take k) ++ [I64 n] ++ ints (l.drop k) = ints (insR l n) := by rw [hI', show [I64 n] = ints [n] from rfl, ints_ap, ints_ap]
      rw [e1, hlk]
      rw [hlk] at h5
      exact JFIN.of (JDropH.tokP h7) (SubB.canP h5 (ints_pur _)) ⟨tok3, j3, h5.low (fun t q => .inl q), h7, rfl, rfl⟩
    · (try simp only[↓jr,jw,seval,ints_dr,ints_co,ints_le])
      refine wc.intro (R64_add hlt (by omega)) ?_
      (try simp only[↓jr,jw,seval,ints_dr,ints_co,ints_le])
      refine JNEXT.of (k + 1) ⟨by omega, ?_⟩ (by omega) ?_ JDropH.nx
      · rw [hI, if_neg (by omega), if_neg (by omega), take_sn hd, hd1]; simp
      · (try simp only[↓jr,jw,seval,ints_dr,ints_co,ints_le,DL])
        exact ⟨SubB.v, SubB.v, SubB.sl rfl (SubBs.pure (ints_pur _)), SubB.canP hc (ints_pur _), SubB.v⟩
  · (try simp only[↓jr,jw,seval,ints_dr,ints_co,ints_le])
    have ek : k = l.length := by omega
    subst ek
    refine JAPP.canP hc.push (fun t q => Nat.lt_succ_of_lt (hS t q)) (by simp [ints]) rfl rfl (by omega) (by omega) ?_
    intro tok1 j1 h1 h2
    (try simp only[↓jr,jw,seval,ints_dr,ints_co,ints_le])
    have h2' : TokP S j j1 := (TokP.push (TokP.refl hS) 1).trans ⟨h2.next, h2.get, h2.tnext, h2.tok, h2.lo⟩
    have hI' : insR l n = l ++ [n] := by rw [hI, List.take_length, List.drop_length]; rfl
    have e1 : ints l ++ [I64 n] = ints (insR l n) := by rw [hI']; exact ints_ap (b := [n])
    have e2 : l.length + 1 = (insR l n).length := by rw [hI']; simp
    rw [e1, e2]
    rw [e2] at h1
    exact JFIN.of (JDropH.tokP h2') (SubB.canP h1 (ints_pur _)) ⟨tok1, j1, h1, h2', rfl, rfl⟩
theorem TokP.unbox {S : Nat → Prop} {j j1 : JH} {l : List AObj} (h : TokP S (Pg.ext j l) j1) : ∃ j2, Pg.ext j1 [] = Pg.ext j2 l ∧ TokP S j j2 ∧ j2.tnext = j1.tnext ∧ j2.tok = j1.tok := by
  refine ⟨⟨j.next, j.get, j1.tnext, j1.tok⟩, ?_, ⟨rfl, fun _ _ => rfl, h.tnext, h.tok, h.lo⟩, rfl, rfl⟩
  have hn : j1.next = pid j.next l.length := h.next
  unfold Pg.ext
  simp only [JH.mk.injEq, and_true, List.length_nil]
  refine ⟨by rw [hn]; unfold pid; omega, funext fun o => ?_⟩
  by_cases h1 : o < j1.next
  · rw [if_pos h1, h.get o (by rw [← h.next]; exact h1)]
    rfl
  · rw [if_neg h1]
    have h2 : ¬ o < j.next := by unfold pid at hn; omega
    rw [if_neg h2]
    rw [List.getElem?_eq_none (by simp), List.getElem?_eq_none (by unfold pid at hn; omega)]
theorem CanP.eq {S : Nat → Prop} {j j1 : JH} {tok : Tok} {es n : Nat} (h : CanP S j tok es n) (e1 : j1.tnext = j.tnext) (e2 : j1.tok = j.tok) : CanP S j1 tok es n := by
  unfold CanP at *
  rw [e1, e2]; exact h
/-- The reference's names of nodes. -/
def rcI (a : List Int) : List Con → List Int
  | [] => a
  | .mk o n _ :: l => rcI (if o = 0 then insR a n else a) l
def rrI (a : List Int) : List Con → List Int
  | [] => a
  | .mk o n _ :: l => rrI (if quant o = true then insR a (n.tdiv 2) else a) l
theorem rcI_append : ∀ (l r : List Con) (a : List Int), rcI a (l ++ r) = rcI (rcI a l) r
  | [], _, _ => rfl
  | .mk o n k :: l, r, a => by simp only [List.cons_append, rcI]; exact rcI_append l r _
theorem rrI_append : ∀ (l r : List Con) (a : List Int), rrI a (l ++ r) = rrI (rrI a l) r
  | [], _, _ => rfl
  | .mk o n k :: l, r, a => by simp only [List.cons_append, rrI]; exact rrI_append l r _
theorem rcI_len : ∀ (l : List Con) (a : List Int), (rcI a l).length ≤ a.length + l.length
  | [], _ => Nat.le_refl _
  | .mk o n k :: l, a => by
    simp only [rcI, List.length_cons]
    refine Nat.le_trans (rcI_len l _) ?_
    split
    · have := insR_len a n; omega
    · omega
theorem rrI_len : ∀ (l : List Con) (a : List Int), (rrI a l).length ≤ a.length + l.length
  | [], _ => Nat.le_refl _
  | .mk o n k :: l, a => by
    simp only [rrI, List.length_cons]
    refine Nat.le_trans (rrI_len l _) ?_
    split
    · have := insR_len a (n.tdiv 2); omega
    · omega
/-- Two rows that grow side by side. -/
structure Two (S : Nat → Prop) (j : JH) (tA tB : Tok) (a b : List Int) : Prop where
  a : CanP S j tA 1 a.length
  b : CanP S j tB 1 b.length
  dis : ∀ t, tA = .own t 0 1 → tB ≠ .own t 0 1
theorem Two.goA {S : Nat → Prop} {j j1 : JH} {tA tB t1 : Tok} {a b a1 : List Int} (h : Two S j tA tB a b) (h1 : CanP (fun t => S t ∨ tB = .own t 0 1) j1 t1 1 a1.length) (h2 : TokP (fun t => S t ∨ tB = .own t 0 1) j j1) : Two S j1 t1 tB a1 b :=
  ⟨h1.low fun t q => .inl q, h.b.stay h2 fun t e => .inr e, fun t e q => by
    rcases h1 with ⟨rfl, _⟩ | ⟨t', h3, _, h4, _⟩
    · cases e
    · rw [h4] at e; cases e; exact h3 (.inr q)⟩
theorem Two.goB {S : Nat → Prop} {j j1 : JH} {tA tB t1 : Tok} {a b b1 : List Int} (h : Two S j tA tB a b) (h1 : CanP (fun t => S t ∨ tA = .own t 0 1) j1 t1 1 b1.length) (h2 : TokP (fun t => S t ∨ tA = .own t 0 1) j j1) : Two S j1 tA t1 a b1 :=
  ⟨h.a.stay h2 fun t e => .inr e, h1.low fun t q => .inl q, fun t e q => by
    rcases h1 with ⟨rfl, _⟩ | ⟨t', h3, _, h4, _⟩
    · cases q
    · rw [h4] at q; cases q; exact h3 (.inr e)⟩
theorem Two.eq {S : Nat → Prop} {j j1 : JH} {tA tB : Tok} {a b : List Int} (h : Two S j tA tB a b) (e1 : j1.tnext = j.tnext) (e2 : j1.tok = j.tok) : Two S j1 tA tB a b := ⟨h.a.eq e1 e2, h.b.eq e1 e2, h.dis⟩
theorem CanP.lt {S : Nat → Prop} {j : JH} {tok : Tok} {es n : Nat} (h : CanP S j tok es n) {t : Nat} (e : tok = .own t 0 es) : t < j.tnext := by
  rcases h with ⟨rfl, _⟩ | ⟨t', h3, h5, h4, _⟩
  · cases e
  · rw [h4] at e; cases e; exact h5
theorem Two.subA {S : Nat → Prop} {j : JH} {tA tB : Tok} {a b : List Int} (h : Two S j tA tB a b) : CanP (fun t => S t ∨ tB = .own t 0 1) j tA 1 a.length := by
  rcases h.a with q | ⟨t, h1, h2, h3, h4⟩
  · exact .inl q
  · exact .inr ⟨t, fun q => q.elim h1 (h.dis t h3), h2, h3, h4⟩
theorem Two.subB {S : Nat → Prop} {j : JH} {tA tB : Tok} {a b : List Int} (h : Two S j tA tB a b) : CanP (fun t => S t ∨ tA = .own t 0 1) j tB 1 b.length := by
  rcases h.b with q | ⟨t, h1, h2, h3, h4⟩
  · exact .inl q
  · exact .inr ⟨t, fun q => q.elim h1 (fun e => h.dis t e h3), h2, h3, h4⟩
theorem Two.loB {S : Nat → Prop} {j : JH} {tA tB : Tok} {a b : List Int} (h : Two S j tA tB a b) (hS : ∀ t, S t → t < j.tnext) : ∀ t, (S t ∨ tB = .own t 0 1) → t < j.tnext := fun t q => q.elim (hS t) (fun e => h.b.lt e)
theorem Two.loA {S : Nat → Prop} {j : JH} {tA tB : Tok} {a b : List Int} (h : Two S j tA tB a b) (hS : ∀ t, S t → t < j.tnext) : ∀ t, (S t ∨ tA = .own t 0 1) → t < j.tnext := fun t q => q.elim (hS t) (fun e => h.a.lt e)
abbrev U2 (tA tB : Tok) (a b : List Int) : AV := .tup [.sl tA a.length (ints a), .sl tB b.length (ints b)]
noncomputable def ir65 : IFn := ⟨42, [⟨6, none⟩, ⟨7, none⟩], (.seq (.reg [oA 3 (.box 71 (.r 0)), oA 6 (.mov (.k (.sl .nil 0 []))), oA 7 (.mov (.k (.sl .nil 0 [])))]) (.seq (.seq (.reg [oA 10 (.fadr 0 (.r 3)), oL 11 10 none, oA 12 (.bin .eql (.r 11) (kI 0))]) (.cond (.r 12) (.reg [oA 13 (kM 1), oA 14 (.fadr 1 (.r 3)), oL 15 14 none, oA 16 (.call 66 [.r 13, .r 15]), oA 1 (kM 16)]) .skip)) (.seq (.seq (.reg [oA 17 (.fadr 0 (.r 3)), oL 18 17 none, oT 19 18 (.call 101 [.r 18])]) (.cond (.r 19) (.reg [oA 20 (kM 2), oA 21 (.fadr 1 (.r 3)), oL 22 21 none, oA 23 (.bin .quo (.r 22) (kI 2)), oA 24 (.call 66 [.r 20, .r 23]), oA 2 (kM 24)]) .skip)) (.seq (.seq (.reg [oA 25 (.fadr 2 (.r 3)), oL 26 25 none, oT 27 26 (.lenl (.r 26)), oA 28 (.mov (kI 0))]) (.block 0 (.loop (.seq (.reg [oA 29 (.bin .lss (.r 28) (.r 27))]) (.seq (.cond (.r 29) .skip (.exit 0)) (.seq (.block 1 (.seq (.reg [oA 30 (.iasl 3 (.r 26) (.r 28)), oL 31 30 (some 3), oA 9 (.alloc 71 [.v (.int .i64 0), .v (.int .i64 0), .sl .nil 0 []]), oN (.store 3 (.r 9) (.r 31))]) (.reg [oL 33 9 (some 3), oA 34 (kM 1), oA 35 (kM 2), oA 36 (.call 65 [.r 33, .r 34, .r 35]), oA 32 (kM 36), oA 37 (.ext (.r 32) 0), oA 38 (.ext (.r 32) 1), oA 1 (kM 37), oA 2 (kM 38)]))) (.reg [oA 39 (.bin .add (.r 28) (kI 1)), oA 28 (kM 39)]))))))) (.seq (.reg [oA 40 (kM 1), oA 41 (kM 2), oA 6 (kM 40), oA 7 (kM 41)]) .ret)))))⟩
theorem c65 : cfunc Tryz.prog 65 = some ir65 := by kernel_rfl
theorem k65 : okIR (max 3 ir65.n) ir65.ir = true := by decide +kernel
theorem s_rUses : ∀ (c : Con) (S : Nat → Prop) (tA tB : Tok) (a b : List Int) (j : JH), Two S j tA tB a b → (∀ t, S t → t < j.tnext) → c.ok → a.length + c.nodes ≤ 1000000 → b.length + c.nodes ≤ 1000000 →
    JC Tryz.prog G 65 [.agg c.enc, .sl tA a.length (ints a), .sl tB b.length (ints b)] j fun o j' => ∃ t1 t2 j1, Two S j1 t1 t2 (rcI a (pre c)) (rrI b (pre c)) ∧ TokP S j j1 ∧ o = .ret (U2 t1 t2 (rcI a (pre c)) (rrI b (pre c))) ∧ j' = Pg.ext j1 [] := by
  intro c
  induction c using Con.ind with
  | h op n l ih =>
  intro S tA tB a b j hT hS hc hla hlb
  simp only [Con.ok] at hc
  obtain ⟨hc1, hc2, hc3, hc4⟩ := hc
  simp only [Con.nodes] at hla hlb
  have hll : l.length ≤ Con.nodesL l := Con.nodesL_len l
  refine JC.run hmix c65 (by exact k65) ?_
  (try simp only[↓jr,jw,seval,ir65])
  refine wq.intro (fun q0 => ?_) (fun q0 => ?_)
  · (try simp only[↓jr,jw,seval])
    refine JCs.use (s_Insert (fun t => S t ∨ tB = .own t 0 1) a n tA (Pg.ext j [.cells 71 (Con.mk op n l).enc]) (hT.subA) (hT.loB hS) (by omega) hc2) ?_
    rintro o j' ⟨t1, j1, f1, f2, rfl, rfl⟩
    obtain ⟨j2, e, f3, e1, e2⟩ := f2.unbox
    rw [e]
    have f4 := hT.goA (f1.eq e1 e2) f3
    have f5 := f3.sub (S' := S) fun t q => .inl q
    have hnB := f5.next
    (try simp only[↓jr,jw,seval,hnB])
    refine JCs.ret (s_Quantified op _) ?_
    (try simp only[↓jr,jw,seval,hnB])
    refine ww.intro (fun q1 => ?_) (fun q1 => ?_)
    · (try simp only[↓jr,jw,seval,hnB])
      refine wc.intro (R64_tdiv2 hc2) ?_
      (try simp only[↓jr,jw,seval,hnB])
      refine JCs.use (s_Insert (fun t => S t ∨ t1 = .own t 0 1) b (n.tdiv 2) tB (Pg.ext j2 [.cells 71 (Con.mk op n l).enc]) (f4.subB) (f4.loA (fun t q => Nat.lt_of_lt_of_le (hS t q) (f5).tnext)) (by omega) (R64_tdiv2 hc2)) ?_
      rintro o j' ⟨t5, j5, g1, g2, rfl, rfl⟩
      obtain ⟨j6, e, g3, e1, e2⟩ := g2.unbox
      rw [e]
      have g4 := f4.goB (g1.eq e1 e2) g3
      have g5 := (f5).trans (g3.sub fun t q => .inl q)
      have hnA := g5.next
      (try simp only[↓jr,jw,seval,hnA])
      refine JLOOP.of (σ := Nat × Tok × Tok × JH) (fun s => s.1 ≤ l.length ∧ Two S s.2.2.2 s.2.1 s.2.2.1 (rcI (insR a n) (preL (l.take s.1))) (rrI (insR b (n.tdiv 2)) (preL (l.take s.1))) ∧ TokP S j s.2.2.2) (fun s => l.length - s.1)
        (fun s => [(28, I64 s.1), (27, I64 l.length), (26, .sl .none l.length (encs Con.enc l)), (1, .sl s.2.1 (rcI (insR a n) (preL (l.take s.1))).length (ints (rcI (insR a n) (preL (l.take s.1))))), (2, .sl s.2.2.1 (rrI (insR b (n.tdiv 2)) (preL (l.take s.1))).length (ints (rrI (insR b (n.tdiv 2)) (preL (l.take s.1)))))])
        (fun s => Pg.ext s.2.2.2 [.cells 71 (Con.mk op n l).enc]) (0, t1, t5, j6) ⟨by omega, g4, g5⟩ ?_ (JDropH.refl _) ?_
      · (try simp only[↓jr,jw,seval,DL])
        exact ⟨SubB.v, SubB.v, SubB.sl rfl (SubBs.pure (encs_pur Con.pur _)), SubB.canP g4.a (ints_pur _), SubB.canP g4.b (ints_pur _)⟩
      rintro ⟨k, tx, ty, jx⟩ ⟨hk, hTx, hPx⟩
      simp only at hk hTx hPx
      have hnx := hPx.next
      (try simp only[↓jr,jw,seval,hnx])
      refine wq.intro (fun g1 => ?_) (fun g1 => ?_)
      · have hlt : k < (l).length := by omega
        obtain ⟨x, r, hd⟩ : ∃ c_ l_, List.drop k (l) = c_ :: l_ := ⟨_, _, List.drop_eq_getElem_cons hlt⟩
        have hd1 : List.drop (k + 1) (l) = r := by rw [← List.drop_drop, hd]; rfl
        have hmem : x ∈ l := List.mem_of_mem_drop (hd ▸ List.mem_cons_self)
        have hcn := Con.nodesL_mem hmem
        have hsp : Con.nodesL (l.take k) + x.nodes ≤ Con.nodesL l := by
          have e1 := preL_len l
          have e2 : preL l = preL (l.take k) ++ (pre x ++ preL (l.drop (k + 1))) := by
            conv => lhs; rw [← List.take_append_drop k l, hd]
            rw [preL_append, preL, hd1]
          rw [e2, List.length_append, List.length_append, preL_len, pre_len] at e1; omega
        have b1 := rcI_len (preL (l.take k)) ((insR a n))
        have b2 := rrI_len (preL (l.take k)) ((insR b (n.tdiv 2)))
        rw [preL_len] at b1 b2
        have i1 := insR_len a n
        have i2 := insR_len b (n.tdiv 2)
        (try simp only[↓jr,jw,seval,hd,hnx])
        refine wc.intro (by omega) ?_
        (try simp only[↓jr,jw,seval,hd,hnx])
        refine JCs.use (ih x hmem S tx ty _ _ (Pg.ext jx [.cells 71 (Con.mk op n l).enc, .cells 71 x.enc]) (hTx.eq rfl rfl) (fun t q => Nat.lt_of_lt_of_le (hS t q) hPx.tnext) (Con.oks_mem hc4 hmem) (by omega) (by omega)) ?_
        rintro o j' ⟨t3, t4, j3, h1, h2, rfl, rfl⟩
        obtain ⟨j4, e, h3, e1, e2⟩ := h2.unbox
        rw [e]
        have h4 := h1.eq e1 e2
        have h5 := hPx.trans h3
        have hn4 := h3.next
        have hn5 := h5.next
        have ea : rcI (rcI (insR a n) (preL (l.take k))) (pre x) = rcI (insR a n) (preL (l.take (k + 1))) := by rw [take_sn hd, preL_append, rcI_append]; simp [preL]
        have eb : rrI (rrI (insR b (n.tdiv 2)) (preL (l.take k))) (pre x) = rrI (insR b (n.tdiv 2)) (preL (l.take (k + 1))) := by rw [take_sn hd, preL_append, rrI_append]; simp [preL]
        rw [ea, eb] at h4 ⊢
        (try simp only[↓jr,jw,seval,hn5])
        refine wc.intro (R64_add hlt hc3) ?_
        (try simp only[↓jr,jw,seval,hn5])
        refine JNEXT.of (k + 1, t3, t4, j4) ⟨by simp only; omega, h4, h5⟩ (by simp only; omega) ?_ ?_
        · (try simp only[↓jr,jw,seval,DL])
          exact ⟨SubB.v, SubB.v, SubB.sl rfl (SubBs.pure (encs_pur Con.pur _)), SubB.canP h4.a (ints_pur _), SubB.canP h4.b (ints_pur _)⟩
        · exact JDropH.next (TokExt.refl _) hn4 h3.tnext (fun o ob ho q => .inl (by rw [← h3.get o ho]; exact q)) ⟨.inl ⟨rfl, rfl⟩, True.intro⟩
      · (try simp only[↓jr,jw,seval,hnx])
        have ek : k = l.length := by omega
        subst ek
        rw [List.take_length] at hTx ⊢
        have ea : rcI (insR a n) (preL l) = rcI a (pre (Con.mk op n l)) := by simp only [pre, rcI]; rw [if_pos q0]
        have eb : rrI (insR b (n.tdiv 2)) (preL l) = rrI b (pre (Con.mk op n l)) := by simp only [pre, rrI]; rw [if_pos q1]
        rw [ea, eb] at hTx ⊢
        exact JFIN.of (Y := U2 tx ty (rcI a (pre (Con.mk op n l))) (rrI b (pre (Con.mk op n l)))) (JDropH.tokP hPx) (SubB.tup ⟨SubB.canP hTx.a (ints_pur _), SubB.canP hTx.b (ints_pur _), True.intro⟩) ⟨tx, ty, jx, hTx, hPx, rfl, rfl⟩
    · have hq : ¬ quant op = true := by rw [q1]; simp
      have hnA := (f5).next
      (try simp only[↓jr,jw,seval,hnA])
      refine JLOOP.of (σ := Nat × Tok × Tok × JH) (fun s => s.1 ≤ l.length ∧ Two S s.2.2.2 s.2.1 s.2.2.1 (rcI (insR a n) (preL (l.take s.1))) (rrI b (preL (l.take s.1))) ∧ TokP S j s.2.2.2) (fun s => l.length - s.1)
        (fun s => [(28, I64 s.1), (27, I64 l.length), (26, .sl .none l.length (encs Con.enc l)), (1, .sl s.2.1 (rcI (insR a n) (preL (l.take s.1))).length (ints (rcI (insR a n) (preL (l.take s.1))))), (2, .sl s.2.2.1 (rrI b (preL (l.take s.1))).length (ints (rrI b (preL (l.take s.1)))))])
        (fun s => Pg.ext s.2.2.2 [.cells 71 (Con.mk op n l).enc]) (0, t1, tB, j2) ⟨by omega, f4, f5⟩ ?_ (JDropH.refl _) ?_
      · (try simp only[↓jr,jw,seval,DL])
        exact ⟨SubB.v, SubB.v, SubB.sl rfl (SubBs.pure (encs_pur Con.pur _)), SubB.canP f4.a (ints_pur _), SubB.canP f4.b (ints_pur _)⟩
      rintro ⟨k, tx, ty, jx⟩ ⟨hk, hTx, hPx⟩
      simp only at hk hTx hPx
      have hnx := hPx.next
      (try simp only[↓jr,jw,seval,hnx])
      refine wq.intro (fun g1 => ?_) (fun g1 => ?_)
      · have hlt : k < (l).length := by omega
        obtain ⟨x, r, hd⟩ : ∃ c_ l_, List.drop k (l) = c_ :: l_ := ⟨_, _, List.drop_eq_getElem_cons hlt⟩
        have hd1 : List.drop (k + 1) (l) = r := by rw [← List.drop_drop, hd]; rfl
        have hmem : x ∈ l := List.mem_of_mem_drop (hd ▸ List.mem_cons_self)
        have hcn := Con.nodesL_mem hmem
        have hsp : Con.nodesL (l.take k) + x.nodes ≤ Con.nodesL l := by
          have e1 := preL_len l
          have e2 : preL l = preL (l.take k) ++ (pre x ++ preL (l.drop (k + 1))) := by
            conv => lhs; rw [← List.take_append_drop k l, hd]
            rw [preL_append, preL, hd1]
          rw [e2, List.length_append, List.length_append, preL_len, pre_len] at e1; omega
        have b1 := rcI_len (preL (l.take k)) ((insR a n))
        have b2 := rrI_len (preL (l.take k)) (b)
        rw [preL_len] at b1 b2
        have i1 := insR_len a n
        have i2 := insR_len b (n.tdiv 2)
        (try simp only[↓jr,jw,seval,hd,hnx])
        refine wc.intro (by omega) ?_
        (try simp only[↓jr,jw,seval,hd,hnx])
        refine JCs.use (ih x hmem S tx ty _ _ (Pg.ext jx [.cells 71 (Con.mk op n l).enc, .cells 71 x.enc]) (hTx.eq rfl rfl) (fun t q => Nat.lt_of_lt_of_le (hS t q) hPx.tnext) (Con.oks_mem hc4 hmem) (by omega) (by omega)) ?_
        rintro o j' ⟨t3, t4, j3, h1, h2, rfl, rfl⟩
        obtain ⟨j4, e, h3, e1, e2⟩ := h2.unbox
        rw [e]
        have h4 := h1.eq e1 e2
        have h5 := hPx.trans h3
        have hn4 := h3.next
        have hn5 := h5.next
        have ea : rcI (rcI (insR a n) (preL (l.take k))) (pre x) = rcI (insR a n) (preL (l.take (k + 1))) := by rw [take_sn hd, preL_append, rcI_append]; simp [preL]
        have eb : rrI (rrI b (preL (l.take k))) (pre x) = rrI b (preL (l.take (k + 1))) := by rw [take_sn hd, preL_append, rrI_append]; simp [preL]
        rw [ea, eb] at h4 ⊢
        (try simp only[↓jr,jw,seval,hn5])
        refine wc.intro (R64_add hlt hc3) ?_
        (try simp only[↓jr,jw,seval,hn5])
        refine JNEXT.of (k + 1, t3, t4, j4) ⟨by simp only; omega, h4, h5⟩ (by simp only; omega) ?_ ?_
        · (try simp only[↓jr,jw,seval,DL])
          exact ⟨SubB.v, SubB.v, SubB.sl rfl (SubBs.pure (encs_pur Con.pur _)), SubB.canP h4.a (ints_pur _), SubB.canP h4.b (ints_pur _)⟩
        · exact JDropH.next (TokExt.refl _) hn4 h3.tnext (fun o ob ho q => .inl (by rw [← h3.get o ho]; exact q)) ⟨.inl ⟨rfl, rfl⟩, True.intro⟩
      · (try simp only[↓jr,jw,seval,hnx])
        have ek : k = l.length := by omega
        subst ek
        rw [List.take_length] at hTx ⊢
        have ea : rcI (insR a n) (preL l) = rcI a (pre (Con.mk op n l)) := by simp only [pre, rcI]; rw [if_pos q0]
        have eb : rrI b (preL l) = rrI b (pre (Con.mk op n l)) := by simp only [pre, rrI]; rw [if_neg hq]
        rw [ea, eb] at hTx ⊢
        exact JFIN.of (Y := U2 tx ty (rcI a (pre (Con.mk op n l))) (rrI b (pre (Con.mk op n l)))) (JDropH.tokP hPx) (SubB.tup ⟨SubB.canP hTx.a (ints_pur _), SubB.canP hTx.b (ints_pur _), True.intro⟩) ⟨tx, ty, jx, hTx, hPx, rfl, rfl⟩
  · have hP0 := TokP.refl (j := j) hS
    (try simp only[↓jr,jw,seval,ints_le])
    refine JCs.ret (s_Quantified op _) ?_
    (try simp only[↓jr,jw,seval,ints_le])
    refine ww.intro (fun q1 => ?_) (fun q1 => ?_)
    · (try simp only[↓jr,jw,seval,ints_le])
      refine wc.intro (R64_tdiv2 hc2) ?_
      (try simp only[↓jr,jw,seval,ints_le])
      refine JCs.use (s_Insert (fun t => S t ∨ tA = .own t 0 1) b (n.tdiv 2) tB (Pg.ext j [.cells 71 (Con.mk op n l).enc]) (hT.subB) (hT.loA (fun t q => Nat.lt_of_lt_of_le (hS t q) (hP0).tnext)) (by omega) (R64_tdiv2 hc2)) ?_
      rintro o j' ⟨t5, j5, g1, g2, rfl, rfl⟩
      obtain ⟨j6, e, g3, e1, e2⟩ := g2.unbox
      rw [e]
      have g4 := hT.goB (g1.eq e1 e2) g3
      have g5 := (hP0).trans (g3.sub fun t q => .inl q)
      have hnA := g5.next
      (try simp only[↓jr,jw,seval,hnA])
      refine JLOOP.of (σ := Nat × Tok × Tok × JH) (fun s => s.1 ≤ l.length ∧ Two S s.2.2.2 s.2.1 s.2.2.1 (rcI a (preL (l.take s.1))) (rrI (insR b (n.tdiv 2)) (preL (l.take s.1))) ∧ TokP S j s.2.2.2) (fun s => l.length - s.1)
        (fun s => [(28, I64 s.1), (27, I64 l.length), (26, .sl .none l.length (encs Con.enc l)), (1, .sl s.2.1 (rcI a (preL (l.take s.1))).length (ints (rcI a (preL (l.take s.1))))), (2, .sl s.2.2.1 (rrI (insR b (n.tdiv 2)) (preL (l.take s.1))).length (ints (rrI (insR b (n.tdiv 2)) (preL (l.take s.1)))))])
        (fun s => Pg.ext s.2.2.2 [.cells 71 (Con.mk op n l).enc]) (0, tA, t5, j6) ⟨by omega, g4, g5⟩ ?_ (JDropH.refl _) ?_
      · (try simp only[↓jr,jw,seval,DL])
        exact ⟨SubB.v, SubB.v, SubB.sl rfl (SubBs.pure (encs_pur Con.pur _)), SubB.canP g4.a (ints_pur _), SubB.canP g4.b (ints_pur _)⟩
      rintro ⟨k, tx, ty, jx⟩ ⟨hk, hTx, hPx⟩
      simp only at hk hTx hPx
      have hnx := hPx.next
      (try simp only[↓jr,jw,seval,hnx])
      refine wq.intro (fun g1 => ?_) (fun g1 => ?_)
      · have hlt : k < (l).length := by omega
        obtain ⟨x, r, hd⟩ : ∃ c_ l_, List.drop k (l) = c_ :: l_ := ⟨_, _, List.drop_eq_getElem_cons hlt⟩
        have hd1 : List.drop (k + 1) (l) = r := by rw [← List.drop_drop, hd]; rfl
        have hmem : x ∈ l := List.mem_of_mem_drop (hd ▸ List.mem_cons_self)
        have hcn := Con.nodesL_mem hmem
        have hsp : Con.nodesL (l.take k) + x.nodes ≤ Con.nodesL l := by
          have e1 := preL_len l
          have e2 : preL l = preL (l.take k) ++ (pre x ++ preL (l.drop (k + 1))) := by
            conv => lhs; rw [← List.take_append_drop k l, hd]
            rw [preL_append, preL, hd1]
          rw [e2, List.length_append, List.length_append, preL_len, pre_len] at e1; omega
        have b1 := rcI_len (preL (l.take k)) (a)
        have b2 := rrI_len (preL (l.take k)) ((insR b (n.tdiv 2)))
        rw [preL_len] at b1 b2
        have i1 := insR_len a n
        have i2 := insR_len b (n.tdiv 2)
        (try simp only[↓jr,jw,seval,hd,hnx])
        refine wc.intro (by omega) ?_
        (try simp only[↓jr,jw,seval,hd,hnx])
        refine JCs.use (ih x hmem S tx ty _ _ (Pg.ext jx [.cells 71 (Con.mk op n l).enc, .cells 71 x.enc]) (hTx.eq rfl rfl) (fun t q => Nat.lt_of_lt_of_le (hS t q) hPx.tnext) (Con.oks_mem hc4 hmem) (by omega) (by omega)) ?_
        rintro o j' ⟨t3, t4, j3, h1, h2, rfl, rfl⟩
        obtain ⟨j4, e, h3, e1, e2⟩ := h2.unbox
        rw [e]
        have h4 := h1.eq e1 e2
        have h5 := hPx.trans h3
        have hn4 := h3.next
        have hn5 := h5.next
        have ea : rcI (rcI a (preL (l.take k))) (pre x) = rcI a (preL (l.take (k + 1))) := by rw [take_sn hd, preL_append, rcI_append]; simp [preL]
        have eb : rrI (rrI (insR b (n.tdiv 2)) (preL (l.take k))) (pre x) = rrI (insR b (n.tdiv 2)) (preL (l.take (k + 1))) := by rw [take_sn hd, preL_append, rrI_append]; simp [preL]
        rw [ea, eb] at h4 ⊢
        (try simp only[↓jr,jw,seval,hn5])
        refine wc.intro (R64_add hlt hc3) ?_
        (try simp only[↓jr,jw,seval,hn5])
        refine JNEXT.of (k + 1, t3, t4, j4) ⟨by simp only; omega, h4, h5⟩ (by simp only; omega) ?_ ?_
        · (try simp only[↓jr,jw,seval,DL])
          exact ⟨SubB.v, SubB.v, SubB.sl rfl (SubBs.pure (encs_pur Con.pur _)), SubB.canP h4.a (ints_pur _), SubB.canP h4.b (ints_pur _)⟩
        · exact JDropH.next (TokExt.refl _) hn4 h3.tnext (fun o ob ho q => .inl (by rw [← h3.get o ho]; exact q)) ⟨.inl ⟨rfl, rfl⟩, True.intro⟩
      · (try simp only[↓jr,jw,seval,hnx])
        have ek : k = l.length := by omega
        subst ek
        rw [List.take_length] at hTx ⊢
        have ea : rcI a (preL l) = rcI a (pre (Con.mk op n l)) := by simp only [pre, rcI]; rw [if_neg q0]
        have eb : rrI (insR b (n.tdiv 2)) (preL l) = rrI b (pre (Con.mk op n l)) := by simp only [pre, rrI]; rw [if_pos q1]
        rw [ea, eb] at hTx ⊢
        exact JFIN.of (Y := U2 tx ty (rcI a (pre (Con.mk op n l))) (rrI b (pre (Con.mk op n l)))) (JDropH.tokP hPx) (SubB.tup ⟨SubB.canP hTx.a (ints_pur _), SubB.canP hTx.b (ints_pur _), True.intro⟩) ⟨tx, ty, jx, hTx, hPx, rfl, rfl⟩
    · have hq : ¬ quant op = true := by rw [q1]; simp
      (try simp only[↓jr,jw,seval,ints_le])
      refine JLOOP.of (σ := Nat × Tok × Tok × JH) (fun s => s.1 ≤ l.length ∧ Two S s.2.2.2 s.2.1 s.2.2.1 (rcI a (preL (l.take s.1))) (rrI b (preL (l.take s.1))) ∧ TokP S j s.2.2.2) (fun s => l.length - s.1)
        (fun s => [(28, I64 s.1), (27, I64 l.length), (26, .sl .none l.length (encs Con.enc l)), (1, .sl s.2.1 (rcI a (preL (l.take s.1))).length (ints (rcI a (preL (l.take s.1))))), (2, .sl s.2.2.1 (rrI b (preL (l.take s.1))).length (ints (rrI b (preL (l.take s.1)))))])
        (fun s => Pg.ext s.2.2.2 [.cells 71 (Con.mk op n l).enc]) (0, tA, tB, j) ⟨by omega, hT, hP0⟩ ?_ (JDropH.refl _) ?_
      · (try simp only[↓jr,jw,seval,DL])
        exact ⟨SubB.v, SubB.v, SubB.sl rfl (SubBs.pure (encs_pur Con.pur _)), SubB.canP hT.a (ints_pur _), SubB.canP hT.b (ints_pur _)⟩
      rintro ⟨k, tx, ty, jx⟩ ⟨hk, hTx, hPx⟩
      simp only at hk hTx hPx
      have hnx := hPx.next
      (try simp only[↓jr,jw,seval,hnx])
      refine wq.intro (fun g1 => ?_) (fun g1 => ?_)
      · have hlt : k < (l).length := by omega
        obtain ⟨x, r, hd⟩ : ∃ c_ l_, List.drop k (l) = c_ :: l_ := ⟨_, _, List.drop_eq_getElem_cons hlt⟩
        have hd1 : List.drop (k + 1) (l) = r := by rw [← List.drop_drop, hd]; rfl
        have hmem : x ∈ l := List.mem_of_mem_drop (hd ▸ List.mem_cons_self)
        have hcn := Con.nodesL_mem hmem
        have hsp : Con.nodesL (l.take k) + x.nodes ≤ Con.nodesL l := by
          have e1 := preL_len l
          have e2 : preL l = preL (l.take k) ++ (pre x ++ preL (l.drop (k + 1))) := by
            conv => lhs; rw [← List.take_append_drop k l, hd]
            rw [preL_append, preL, hd1]
          rw [e2, List.length_append, List.length_append, preL_len, pre_len] at e1; omega
        have b1 := rcI_len (preL (l.take k)) (a)
        have b2 := rrI_len (preL (l.take k)) (b)
        rw [preL_len] at b1 b2
        have i1 := insR_len a n
        have i2 := insR_len b (n.tdiv 2)
        (try simp only[↓jr,jw,seval,hd,hnx])
        refine wc.intro (by omega) ?_
        (try simp only[↓jr,jw,seval,hd,hnx])
        refine JCs.use (ih x hmem S tx ty _ _ (Pg.ext jx [.cells 71 (Con.mk op n l).enc, .cells 71 x.enc]) (hTx.eq rfl rfl) (fun t q => Nat.lt_of_lt_of_le (hS t q) hPx.tnext) (Con.oks_mem hc4 hmem) (by omega) (by omega)) ?_
        rintro o j' ⟨t3, t4, j3, h1, h2, rfl, rfl⟩
        obtain ⟨j4, e, h3, e1, e2⟩ := h2.unbox
        rw [e]
        have h4 := h1.eq e1 e2
        have h5 := hPx.trans h3
        have hn4 := h3.next
        have hn5 := h5.next
        have ea : rcI (rcI a (preL (l.take k))) (pre x) = rcI a (preL (l.take (k + 1))) := by rw [take_sn hd, preL_append, rcI_append]; simp [preL]
        have eb : rrI (rrI b (preL (l.take k))) (pre x) = rrI b (preL (l.take (k + 1))) := by rw [take_sn hd, preL_append, rrI_append]; simp [preL]
        rw [ea, eb] at h4 ⊢
        (try simp only[↓jr,jw,seval,hn5])
        refine wc.intro (R64_add hlt hc3) ?_
        (try simp only[↓jr,jw,seval,hn5])
        refine JNEXT.of (k + 1, t3, t4, j4) ⟨by simp only; omega, h4, h5⟩ (by simp only; omega) ?_ ?_
        · (try simp only[↓jr,jw,seval,DL])
          exact ⟨SubB.v, SubB.v, SubB.sl rfl (SubBs.pure (encs_pur Con.pur _)), SubB.canP h4.a (ints_pur _), SubB.canP h4.b (ints_pur _)⟩
        · exact JDropH.next (TokExt.refl _) hn4 h3.tnext (fun o ob ho q => .inl (by rw [← h3.get o ho]; exact q)) ⟨.inl ⟨rfl, rfl⟩, True.intro⟩
      · (try simp only[↓jr,jw,seval,hnx])
        have ek : k = l.length := by omega
        subst ek
        rw [List.take_length] at hTx ⊢
        have ea : rcI a (preL l) = rcI a (pre (Con.mk op n l)) := by simp only [pre, rcI]; rw [if_neg q0]
        have eb : rrI b (preL l) = rrI b (pre (Con.mk op n l)) := by simp only [pre, rrI]; rw [if_neg hq]
        rw [ea, eb] at hTx ⊢
        exact JFIN.of (Y := U2 tx ty (rcI a (pre (Con.mk op n l))) (rrI b (pre (Con.mk op n l)))) (JDropH.tokP hPx) (SubB.tup ⟨SubB.canP hTx.a (ints_pur _), SubB.canP hTx.b (ints_pur _), True.intro⟩) ⟨tx, ty, jx, hTx, hPx, rfl, rfl⟩
end
end Go.Proofs.YtcjlpklgnknpgaaGreatDoor.Pg
