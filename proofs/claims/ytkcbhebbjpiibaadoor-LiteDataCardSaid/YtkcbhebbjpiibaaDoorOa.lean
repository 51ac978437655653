/-
  Matrices in memory: each row an object of its own; a new one, and one made transitive.
-/
import Derived.Test.YtkcbhebbjpiibaaDoorLx
set_option linter.unusedVariables false
set_option linter.unusedSimpArgs false
set_option linter.defProp false
set_option maxRecDepth 20000
set_option maxHeartbeats 1000000
namespace Go.Proofs.YtkcbhebbjpiibaaDoor.Pg
open Go
section
variable {m : Int} {G : Nat → Option (List AV)}
/-! ### Rows of bits -/
def brow (n : Nat) (p : Nat → Bool) : List AV := (List.range n).map fun i => .v (.bool (p i))
theorem brow_len {n : Nat} {p : Nat → Bool} : (brow n p).length = n := by simp [brow]
theorem brow_at {n i : Nat} {p : Nat → Bool} : icut none (brow n p) i = if i < n then some (BOO (p i)) else none := by
  unfold icut brow
  simp only [List.getElem?_map]
  split
  · rw [List.getElem?_range (by assumption)]; rfl
  · rw [List.getElem?_eq_none (by simp; omega)]; rfl
theorem brow_pur (n : Nat) (p : Nat → Bool) : AV.pures (brow n p) = true := by
  unfold brow
  generalize List.range n = l
  induction l with
  | nil => rfl
  | cons k l ih => simp [AV.pures, AV.pure, ih]
def upd (p : Nat → Bool) (x : Nat) (v : Bool) : Nat → Bool := fun i => if i = x then v else p i
def upd2 (f : Nat → Nat → Bool) (i x : Nat) (v : Bool) : Nat → Nat → Bool := fun r => if r = i then upd (f i) x v else f r
theorem upd2_at (f : Nat → Nat → Bool) (i x : Nat) (v : Bool) (r c : Nat) : upd2 f i x v r c = if r = i ∧ c = x then v else f r c := by
  unfold upd2 upd
  by_cases h : r = i
  · subst h; rw [if_pos rfl]; simp
  · rw [if_neg h, if_neg (fun q => h q.1)]
theorem brow_put {n x : Nat} {p : Nat → Bool} {v : Bool} (h : x < n) : splice (brow n p) x [.v (.bool v)] = brow n (upd p x v) := by
  unfold splice brow upd
  refine List.ext_getElem? fun i => ?_
  simp only [List.length_cons, List.length_nil]
  rw [List.getElem?_append, List.getElem?_append]
  simp only [List.length_append, List.length_take, List.length_map, List.length_range, List.length_cons, List.length_nil, List.getElem?_take, List.getElem?_drop, List.getElem?_map]
  rw [Nat.min_eq_left (by omega)]
  by_cases q : i < x
  · rw [if_pos (by omega), if_pos q, if_pos q, List.getElem?_range (by omega)]; simp; omega
  · by_cases q2 : i = x
    · subst q2; rw [if_pos (by omega), if_neg (by omega), List.getElem?_range h]; simp
    · rw [if_neg (by omega)]
      have e : x + (0 + 1) + (i - (x + (0 + 1))) = i := by omega
      rw [e]
      by_cases q3 : i < n
      · rw [List.getElem?_range q3]; simp; omega
      · rw [List.getElem?_eq_none (by simp; omega)]; rfl
theorem brow_new (n : Nat) : acycle [.v (.bool false)] n = brow n fun _ => false := by
  have := acy_eq [.v (.bool false)] (by simp) n
  simp only [List.length_cons, List.length_nil, Nat.zero_add, Nat.mul_one] at this
  rw [this]
  unfold brow
  clear this
  induction n with
  | zero => rfl
  | succ n ih => rw [acy, ih, List.range_succ_eq_map, List.map_cons, List.map_map]; rfl
section
variable {K : AV → Prop} {n i x u : Nat} {p : Nat → Bool}
theorem brow_ld : @wh _ (icut none (brow n p) i) ⟨K⟩ = @wc (i < n) ⟨K (BOO (p i))⟩ := by
  rw [brow_at]; split
  · exact propext ⟨fun h => ⟨by assumption, h⟩, fun h => h.2⟩
  · exact propext ⟨fun h => h.elim, fun h => absurd h.1 (by assumption)⟩
theorem wc.bput {c : Prop} {v : Bool} {KL : List AV → Prop} (hc : c) (h : x < n) (q : KL (brow n (upd p x v))) : @wc c ⟨@jcs (splice (brow n p) x [.v (.bool v)]) ⟨KL⟩⟩ := ⟨hc, by rw [brow_put h]; exact q⟩
end
/-! ### Where the rows lie -/
def arrs (u k n : Nat) : List AV := (List.range k).map fun i => .arr (pid u i) 0 n
theorem arrs_len {u k n : Nat} : (arrs u k n).length = k := by simp [arrs]
theorem arrs_succ {u k n : Nat} : arrs u k n ++ [.arr (pid u k) 0 n] = arrs u (k + 1) n := by unfold arrs; rw [List.range_succ, List.map_append]; rfl
theorem arrs_ld {K : AV → Prop} {u k n i : Nat} : @wh _ (icut none (arrs u k n) i) ⟨K⟩ = @wc (i < k) ⟨K (.arr (pid u i) 0 n)⟩ := by
  unfold icut arrs
  simp only [List.getElem?_map]
  by_cases h : i < k
  · rw [List.getElem?_range h]; exact propext ⟨fun q => ⟨h, q⟩, fun q => q.2⟩
  · rw [List.getElem?_eq_none (by simp; omega)]; exact propext ⟨fun q => q.elim, fun q => absurd q.1 h⟩
theorem arrs_sub {no nt u k n : Nat} (h : ∀ i, i < k → pid u i < no) : SubBs no nt (arrs u k n) (arrs u k n) := by
  unfold arrs
  have : ∀ (l : List Nat), (∀ i ∈ l, i < k) → SubBs no nt (l.map fun i => AV.arr (pid u i) 0 n) (l.map fun i => AV.arr (pid u i) 0 n) := by
    intro l
    induction l with
    | nil => intro _; exact True.intro
    | cons x l ih => intro hl; exact ⟨SubB.arr (h x (hl x List.mem_cons_self)), ih fun i hi => hl i (List.mem_cons_of_mem _ hi)⟩
  exact this _ fun i hi => List.mem_range.1 hi
theorem SubB.can2 {j0 j : JH} {tok : Tok} {es n no : Nat} {cs : List AV} (h : CanApp j0 j tok es n) (hl : cs.length = n * es) (p : SubBs no j.tnext cs cs) : SubB no j.tnext (.sl tok n cs) (.sl tok n cs) := by
  rcases h with ⟨rfl, rfl⟩ | ⟨t, h1, h2, rfl, h4⟩
  · have : cs = [] := List.eq_nil_of_length_eq_zero (by rw [hl, Nat.zero_mul])
    subst this; exact SubB.pure rfl
  · exact SubB.own h2 p
def mrows (k n : Nat) (f : Nat → Nat → Bool) : List AObj := (List.range k).map fun i => .cells 4 (brow n (f i))
theorem mrows_len {k n : Nat} {f : Nat → Nat → Bool} : (mrows k n f).length = k := by simp [mrows]
theorem mrows_succ {k n : Nat} {f : Nat → Nat → Bool} : mrows k n f ++ [.cells 4 (brow n (f k))] = mrows (k + 1) n f := by unfold mrows; rw [List.range_succ, List.map_append]; rfl
theorem mrows_at {k n i : Nat} {f : Nat → Nat → Bool} (h : i < k) : (mrows k n f)[i]? = some (.cells 4 (brow n (f i))) := by
  unfold mrows; rw [List.getElem?_map, List.getElem?_range h]; rfl
theorem mrows_pur {k n : Nat} {f : Nat → Nat → Bool} {x : AObj} (h : x ∈ mrows k n f) {no nt : Nat} : OSub no nt x x := by
  unfold mrows at h
  obtain ⟨i, -, rfl⟩ := List.mem_map.1 h
  exact OSub.pure (brow_pur _ _)
theorem mrows_last {k n : Nat} {f : Nat → Nat → Bool} {x : AObj} : (mrows k n f ++ [x])[k]? = some x := by
  rw [List.getElem?_append_right (by rw [mrows_len]; omega), mrows_len, Nat.sub_self]; rfl
theorem mrows_put {k n : Nat} {f : Nat → Nat → Bool} {x y : AObj} : (mrows k n f ++ [x]).set k y = mrows k n f ++ [y] := by
  rw [List.set_append_right _ _ (by rw [mrows_len]; omega), mrows_len, Nat.sub_self]; rfl
theorem JDropH.gen {hs h' h'' : JH} (lo : hs.next ≤ h''.next) (hi : h''.next ≤ h'.next) (tlo : hs.tnext ≤ h''.tnext) (thi : h''.tnext ≤ h'.tnext) (tok : ∀ t, t < h''.tnext → h''.tok t = h'.tok t)
    (get : ∀ o, o < h''.next → h'.get o = h''.get o) (obj : ∀ o ob, o < h''.next → h''.get o = some ob → (o < hs.next ∧ hs.get o = some ob) ∨ OSub h''.next h''.tnext ob ob) : JDropH hs h' h'' :=
  ⟨lo, hi, tlo, thi, fun o ob ho e => by
    rw [get o ho] at e
    rcases obj o ob ho e with ⟨h1, h2⟩ | h1
    · exact .inl ⟨h1, h2, e⟩
    · exact .inr ⟨ob, e, h1⟩, tok⟩
/-- What new objects are kept. -/
theorem JDropH.grow {j jx j1 : JH} {l : List AObj} {x : AObj} {r : List AObj} (ht : TokExt j jx) (ht1 : TokExt j j1) (hle : jx.tnext ≤ j1.tnext) (hx : OSub (pid j.next (l ++ [x]).length) j1.tnext x x) : JDropH (ext jx l) (ext j1 (l ++ [x] ++ r)) (ext j1 (l ++ [x])) := by
  refine JDropH.gen ?_ ?_ hle (Nat.le_refl _) (fun _ _ => rfl) (fun o ho => ?_) (fun o ob ho e => ?_)
  · simp only [ext_next, pid, ht.next, ht1.next, List.length_append]; omega
  · simp only [ext_next, pid, List.length_append]; omega
  · by_cases h : o < j1.next
    · rw [ext_get_old h, ext_get_old h]
    · have ek : o = pid j1.next (o - j1.next) := by unfold pid; omega
      rw [ek, ext_get_new rfl, ext_get_new rfl, List.getElem?_append_left]
      simp only [ext_next, pid] at ho; omega
  · by_cases h : o < j1.next
    · rw [ext_get_old h, ht1.get o (by rw [← ht1.next]; exact h), ← ht.get o (by rw [← ht1.next]; exact h)] at e
      have h2 : o < jx.next := by rw [ht.next, ← ht1.next]; exact h
      exact .inl ⟨by rw [ext_next]; unfold pid; omega, by rw [ext_get_old h2]; exact e⟩
    · have ek : o = pid j1.next (o - j1.next) := by unfold pid; omega
      rw [ek, ext_get_new rfl] at e
      by_cases h2 : o - j1.next < l.length
      · rw [List.getElem?_append_left h2] at e
        refine .inl ⟨by rw [ext_next, ht.next, ← ht1.next]; unfold pid; omega, ?_⟩
        rw [ek, ext_get_new (ht.next.trans ht1.next.symm)]; exact e
      · rw [List.getElem?_append_right (by omega)] at e
        have hm := List.mem_of_getElem? e
        rw [List.mem_singleton] at hm
        subst hm
        refine .inr ?_
        rw [ext_next, ht1.next]; exact hx
def idm (s : Bool) : Nat → Nat → Bool := fun i k => s && decide (i = k)
theorem upd_id (s : Bool) (k : Nat) : upd (fun _ => false) k s = idm s k := by
  funext i; unfold upd idm
  by_cases h : i = k
  · subst h; simp
  · rw [if_neg h, decide_eq_false (fun q => h q.symm), Bool.and_false]
def ir66 : IFn := ⟨24, [⟨4, none⟩], (.seq (.reg [oA 4 (.mov (.k (.sl .nil 0 [])))]) (.seq (.reg [oA 5 (.mov (.k (.sl .nil 0 [])))]) (.seq (.seq (.reg [oA 8 (kM 0), oA 9 (.mov (kI 0))]) (.block 0 (.loop (.seq (.reg [oA 10 (.bin .lss (.r 9) (.r 8))]) (.seq (.cond (.r 10) .skip (.exit 0)) (.seq (.block 1 (.seq (.reg [oA 11 (kM 9), oA 6 (kM 11)]) (.seq (.reg [oA 12 (kM 0), oA 13 (.mks 4 1 1 [.v (.bool false)] (.r 12) (.r 12)), oA 7 (kM 13)]) (.seq (.reg [oA 14 (kM 7), oA 15 (kM 6), oA 16 (kM 1), oA 17 (.iasl 1 (.r 14) (.r 15)), oN (.store 1 (.r 17) (.r 16))]) (.reg [oA 18 (kM 5), oA 19 (kM 7), oA 20 (.bsl 1 1 [.sl .nil 0 []] [(0, (1, .r 19))]), oA 21 (.app 1 24 (.r 18) (.r 20)), oA 5 (kM 21)]))))) (.reg [oA 22 (.bin .add (.r 9) (kI 1)), oA 9 (kM 22)]))))))) (.seq (.reg [oA 23 (kM 5), oA 4 (kM 23)]) .ret))))⟩
theorem c66 : cfunc Tryd.prog 66 = some ir66 := by kernel_rfl
theorem k66 : okIR (max 2 ir66.n) ir66.ir = true := by decide +kernel
theorem s_matrix (n : Nat) (s : Bool) (hn : n ≤ 1000) (j : JH) : JC Tryd.prog G 66 [I64 n, BOO s] j (RET (.sl .none n (arrs j.next n n)) (ext j (mrows n n (idm s)))) := by
  refine JC.run hmix c66 (by exact k66) ?_
  (try simp only[↓jr,jw,seval,mrows_len,brow_len,brow_new,mrows_last,mrows_put,Nat.lt_add_one,ir66])
  refine JLOOP.of (σ := Nat × Tok × JH) (fun t => t.1 ≤ n ∧ TokExt j t.2.2 ∧ CanApp j t.2.2 t.2.1 1 t.1) (fun t => n - t.1)
    (fun t => [(9, I64 t.1), (8, I64 n), (0, I64 n), (1, BOO s), (5, .sl t.2.1 t.1 (arrs j.next t.1 n))]) (fun t => ext t.2.2 (mrows t.1 n (idm s))) (0, .nil, j) ⟨Nat.zero_le _, TokExt.refl _, CanApp.nil⟩ ?_ (JDropH.refl _) ?_
  · ((try simp only[↓jr,jw,seval,mrows_len,brow_len,brow_new,mrows_last,mrows_put,Nat.lt_add_one,DL]) <;> exact sbq)
  rintro ⟨k, tk, jx⟩ ⟨hk, ht, hc⟩
  simp only at hk ht hc
  have hx := ht.next
  (try simp only[↓jr,jw,seval,mrows_len,brow_len,brow_new,mrows_last,mrows_put,Nat.lt_add_one,hx])
  refine wq.intro (fun h1 => ?_) (fun h1 => ?_)
  · (try simp only[↓jr,jw,seval,mrows_len,brow_len,brow_new,mrows_last,mrows_put,Nat.lt_add_one,hx])
    refine JMKS.same (by omega) (by omega) ?_
    (try simp only[↓jr,jw,seval,mrows_len,brow_len,brow_new,mrows_last,mrows_put,Nat.lt_add_one,hx,ext_push,brow_new])
    refine wc.intro (by omega) ?_
    (try simp only[↓jr,jw,seval,mrows_len,brow_len,brow_new,mrows_last,mrows_put,Nat.lt_add_one,hx])
    refine wc.bput (by omega) (by omega) ?_
    rw [upd_id]
    (try simp only[↓jr,jw,seval,mrows_len,brow_len,brow_new,mrows_last,mrows_put,Nat.lt_add_one,hx])
    refine JAPP.can' hc.push (ht.push 1) (by rw [arrs_len, Nat.mul_one]) rfl rfl (by omega) (by omega) ?_
    intro tok1 j1 hcan ht1 hle
    have hx1 := ht1.next
    have hle' : jx.tnext ≤ j1.tnext := Nat.le_trans (Nat.le_succ _) hle
    (try simp only[↓jr,jw,seval,mrows_len,brow_len,brow_new,mrows_last,mrows_put,Nat.lt_add_one,hx1])
    refine wc.intro (by unfold R64; omega) ?_
    (try simp only[↓jr,jw,seval,mrows_len,brow_len,brow_new,mrows_last,mrows_put,Nat.lt_add_one])
    refine JNEXT.of (k + 1, tok1, j1) ⟨by simp only; omega, ht1, hcan⟩ (by simp only; omega) ?_ ?_
    · have hs : SubBs (pid j1.next (k + 1)) j1.tnext (arrs j.next (k + 1) n) (arrs j.next (k + 1) n) := arrs_sub fun i hi => by rw [hx1]; unfold pid; omega
      (try simp only[↓jr,jw,seval,mrows_len,brow_len,brow_new,mrows_last,mrows_put,Nat.lt_add_one,DL,arrs_succ])
      exact ⟨SubB.eqi (by omega), SubB.v, SubB.v, SubB.v, SubB.can2 hcan (by rw [arrs_len, Nat.mul_one]) hs⟩
    · have := JDropH.grow (l := mrows k n (idm s)) (x := .cells 4 (brow n (idm s k))) (r := []) ht ht1 hle' (OSub.pure (brow_pur _ _))
      rw [List.append_nil, mrows_succ] at this
      simp only [mrows_succ]
      exact this
  (try simp only[↓jr,jw,seval,mrows_len,brow_len,brow_new,mrows_last,mrows_put,Nat.lt_add_one,hx])
  have ek : k = n := by omega
  subst ek
  refine JFIN.ret (J := ext j (mrows k k (idm s))) (JDropH.keepT ht rfl fun q ob hq => ?_) (SubB.sl rfl (arrs_sub fun i hi => by rw [ext_next, mrows_len]; unfold pid; omega))
  exact ⟨ob, hq, mrows_pur (List.mem_of_getElem? hq)⟩
/-! ### A matrix somewhere in memory -/
def matM (j : JH) (u n : Nat) (f : Nat → Nat → Bool) : JH := { j with get := fun o => if u ≤ o ∧ o < u + n then some (.cells 4 (brow n (f (o - u)))) else j.get o }
section
variable {j : JH} {u n i : Nat} {f g : Nat → Nat → Bool} {p : Nat → Bool}
theorem matM_next : (matM j u n f).next = j.next := rfl
theorem matM_tnext : (matM j u n f).tnext = j.tnext := rfl
theorem matM_get (h : i < n) : (matM j u n f).get (pid u i) = some (.cells 4 (brow n (f i))) := by
  unfold matM pid; simp only; rw [if_pos (by omega), show u + i - u = i from by omega]
theorem matM_set (h : i < n) : (matM j u n f).set (pid u i) (.cells 4 (brow n p)) = matM j u n (fun r => if r = i then p else f r) := by
  unfold matM JH.set pid
  simp only [JH.mk.injEq, true_and, and_true]
  funext o
  by_cases e : o = u + i
  · subst e
    rw [if_pos rfl, if_pos (by omega), show u + i - u = i from by omega, if_pos rfl]
  · rw [if_neg e]
    by_cases q : u ≤ o ∧ o < u + n
    · rw [if_pos q, if_pos q, if_neg (by omega)]
    · rw [if_neg q, if_neg q]
theorem matM_self (h : ∀ i, i < n → j.get (pid u i) = some (.cells 4 (brow n (f i)))) : matM j u n f = j := by
  unfold matM
  obtain ⟨nx, gt, tn, tk⟩ := j
  simp only [JH.mk.injEq, true_and, and_true]
  funext o
  by_cases q : u ≤ o ∧ o < u + n
  · rw [if_pos q]
    have := h (o - u) (by omega)
    unfold pid at this
    rw [show u + (o - u) = o from by omega] at this
    exact this.symm
  · rw [if_neg q]
theorem matM_out {o : Nat} (h : o < u ∨ u + n ≤ o) : (matM j u n f).get o = j.get o := by
  unfold matM; simp only; rw [if_neg (by omega)]
theorem JDropH.mat : JDropH (ext (matM j u n f) []) (ext (matM j u n g) []) (ext (matM j u n g) []) := by
  refine JDropH.gen (Nat.le_refl _) (Nat.le_refl _) (Nat.le_refl _) (Nat.le_refl _) (fun _ _ => rfl) (fun _ _ => rfl) (fun o ob ho e => ?_)
  have ho' : o < j.next := ho
  rw [ext_get_old (by exact ho')] at e
  by_cases q : u ≤ o ∧ o < u + n
  · unfold matM at e
    simp only at e
    rw [if_pos q] at e
    cases e
    exact .inr (OSub.pure (brow_pur _ _))
  · refine .inl ⟨ho, ?_⟩
    rw [ext_get_old (by exact ho'), matM_out (by omega)]
    rwa [matM_out (by omega)] at e
theorem JDropH.matB : JDropH (matM j u n f) (ext (matM j u n g) []) (matM j u n g) := by
  refine JDropH.gen (Nat.le_refl _) ?_ (Nat.le_refl _) (Nat.le_refl _) (fun _ _ => rfl) (fun o ho => ?_) (fun o ob ho e => ?_)
  · rw [ext_next]; unfold pid; simp
  · rw [ext_get_old ho]
  · by_cases q : u ≤ o ∧ o < u + n
    · unfold matM at e
      simp only at e
      rw [if_pos q] at e
      cases e
      exact .inr (OSub.pure (brow_pur _ _))
    · refine .inl ⟨ho, ?_⟩
      rw [matM_out (by omega)]
      rwa [matM_out (by omega)] at e
end
/-! ### Closed under steps -/
def clS (k i : Nat) (f : Nat → Nat → Bool) (x : Nat) : Nat → Nat → Bool := upd2 f i x (f i x || f i k && f k x)
def clX (k i : Nat) (f : Nat → Nat → Bool) (y : Nat) : Nat → Nat → Bool := (List.range y).foldl (clS k i) f
def clI (n k : Nat) (f : Nat → Nat → Bool) (y : Nat) : Nat → Nat → Bool := (List.range y).foldl (fun f i => clX k i f n) f
def clK (n : Nat) (f : Nat → Nat → Bool) (y : Nat) : Nat → Nat → Bool := (List.range y).foldl (fun f k => clI n k f n) f
theorem clX_succ (k i : Nat) (f : Nat → Nat → Bool) (y : Nat) : clX k i f (y + 1) = clS k i (clX k i f y) y := by unfold clX; rw [List.range_succ, List.foldl_append]; rfl
theorem clI_succ (n k : Nat) (f : Nat → Nat → Bool) (y : Nat) : clI n k f (y + 1) = clX k y (clI n k f y) n := by unfold clI; rw [List.range_succ, List.foldl_append]; rfl
theorem clK_succ (n : Nat) (f : Nat → Nat → Bool) (y : Nat) : clK n f (y + 1) = clI n y (clK n f y) n := by unfold clK; rw [List.range_succ, List.foldl_append]; rfl
theorem matM_put {j : JH} {u n i x : Nat} {f : Nat → Nat → Bool} {v : Bool} (h : i < n) : (matM j u n f).set (pid u i) (.cells 4 (brow n (upd (f i) x v))) = matM j u n (upd2 f i x v) := matM_set h
def ir67 : IFn := ⟨54, [], (.seq (.reg [oA 5 (kM 0), oT 6 5 (.lenl (.r 5)), oA 7 (.mov (kI 0))]) (.block 0 (.loop (.seq (.reg [oA 8 (.bin .lss (.r 7) (.r 6))]) (.seq (.cond (.r 8) .skip (.exit 0)) (.seq (.block 1 (.seq (.reg [oA 9 (kM 7), oA 2 (kM 9)]) (.seq (.reg [oA 10 (kM 0), oT 11 10 (.lenl (.r 10)), oA 12 (.mov (kI 0))]) (.block 2 (.loop (.seq (.reg [oA 13 (.bin .lss (.r 12) (.r 11))]) (.seq (.cond (.r 13) .skip (.exit 2)) (.seq (.block 3 (.seq (.reg [oA 14 (kM 12), oA 3 (kM 14)]) (.seq (.reg [oA 15 (kM 0), oT 16 15 (.lenl (.r 15)), oA 17 (.mov (kI 0))]) (.block 4 (.loop (.seq (.reg [oA 18 (.bin .lss (.r 17) (.r 16))]) (.seq (.cond (.r 18) .skip (.exit 4)) (.seq (.block 5 (.seq (.reg [oA 19 (kM 17), oA 4 (kM 19)]) (.draw [oA 20 (kM 0), oA 21 (kM 3), oA 22 (.iasl 1 (.r 20) (.r 21)), oL 23 22 none, oA 24 (kM 4), oA 25 (kM 0), oA 26 (kM 3), oA 27 (.iasl 1 (.r 25) (.r 26)), oL 28 27 none, oA 29 (kM 4), oA 30 (.iasl 1 (.r 28) (.r 29)), oL 31 30 none, oA 32 (kM 31), ⟨(some 33), (some ((32, false))), none, (kM 0)⟩, ⟨(some 34), (some ((32, false))), none, (kM 3)⟩, ⟨(some 35), (some ((32, false))), none, (.iasl 1 (.r 33) (.r 34))⟩, ⟨(some 36), (some ((32, false))), (some (.r 35)), (.load none (.r 35))⟩, ⟨(some 37), (some ((32, false))), none, (kM 2)⟩, ⟨(some 38), (some ((32, false))), none, (.iasl 1 (.r 36) (.r 37))⟩, ⟨(some 39), (some ((32, false))), (some (.r 38)), (.load none (.r 38))⟩, ⟨(some 40), (some ((32, false))), none, (kM 39)⟩, ⟨(some 41), (some ((40, true))), none, (kM 0)⟩, ⟨(some 42), (some ((40, true))), none, (kM 2)⟩, ⟨(some 43), (some ((40, true))), none, (.iasl 1 (.r 41) (.r 42))⟩, ⟨(some 44), (some ((40, true))), (some (.r 43)), (.load none (.r 43))⟩, ⟨(some 45), (some ((40, true))), none, (kM 4)⟩, ⟨(some 46), (some ((40, true))), none, (.iasl 1 (.r 44) (.r 45))⟩, ⟨(some 47), (some ((40, true))), (some (.r 46)), (.load none (.r 46))⟩, ⟨(some 48), (some ((32, false))), none, (.pick (.r 40) (.r 47) (kB false))⟩, oA 49 (.pick (.r 32) (kB true) (.r 48)), oA 50 (.iasl 1 (.r 23) (.r 24)), oN (.store 1 (.r 50) (.r 49))] []))) (.reg [oA 51 (.bin .add (.r 17) (kI 1)), oA 17 (kM 51)]))))))))) (.reg [oA 52 (.bin .add (.r 12) (kI 1)), oA 12 (kM 52)]))))))))) (.reg [oA 53 (.bin .add (.r 7) (kI 1)), oA 7 (kM 53)])))))))⟩
theorem c67 : cfunc Tryd.prog 67 = some ir67 := by kernel_rfl
theorem k67 : okIR (max 1 ir67.n) ir67.ir = true := by decide +kernel
theorem s_closed (u n : Nat) (f : Nat → Nat → Bool) (hn : n ≤ 1000) (j : JH) (hu : u + n ≤ j.next) : JC Tryd.prog G 67 [.sl .none n (arrs u n n)] (matM j u n f) (RET (.tup []) (matM j u n (clK n f n))) := by
  have hM : ∀ {nt : Nat}, SubB (pid j.next 0) nt (.sl .none n (arrs u n n)) (.sl .none n (arrs u n n)) := SubB.sl rfl (arrs_sub fun i hi => by unfold pid; omega)
  refine JC.run hmix c67 (by exact k67) ?_
  (try simp only[↓jr,jw,seval,arrs_len,brow_len,arrs_ld,brow_ld,matM_next,matM_tnext,ir67])
  refine JLOOP.of (σ := Nat) (fun k => k ≤ n) (fun k => n - k) (fun k => [(7, I64 k), (6, I64 n), (5, .sl .none n (arrs u n n)), (0, .sl .none n (arrs u n n))]) (fun k => ext (matM j u n (clK n f k)) []) 0 (Nat.zero_le _) ?_ (JDropH.refl _) ?_
  · (try simp only[↓jr,jw,seval,arrs_len,brow_len,arrs_ld,brow_ld,matM_next,matM_tnext,DL])
    exact ⟨SubB.v, SubB.v, hM⟩
  rintro k hk
  (try simp only[↓jr,jw,seval,arrs_len,brow_len,arrs_ld,brow_ld,matM_next,matM_tnext])
  refine wq.intro (fun g1 => ?_) (fun g1 => ?_)
  · (try simp only[↓jr,jw,seval,arrs_len,brow_len,arrs_ld,brow_ld,matM_next,matM_tnext])
    generalize hF : clK n f k = F
    refine JLOOP.of (σ := Nat) (fun i => i ≤ n) (fun i => n - i) (fun i => [(12, I64 i), (11, I64 n), (10, .sl .none n (arrs u n n)), (2, I64 k), (7, I64 k), (6, I64 n), (5, .sl .none n (arrs u n n)), (0, .sl .none n (arrs u n n))]) (fun i => ext (matM j u n (clI n k F i)) []) 0 (Nat.zero_le _) ?_ (JDropH.refl _) ?_
    · (try simp only[↓jr,jw,seval,arrs_len,brow_len,arrs_ld,brow_ld,matM_next,matM_tnext,DL])
      exact ⟨SubB.v, SubB.v, hM, SubB.v, SubB.v, SubB.v, hM⟩
    rintro i hi
    (try simp only[↓jr,jw,seval,arrs_len,brow_len,arrs_ld,brow_ld,matM_next,matM_tnext])
    refine wq.intro (fun g2 => ?_) (fun g2 => ?_)
    · (try simp only[↓jr,jw,seval,arrs_len,brow_len,arrs_ld,brow_ld,matM_next,matM_tnext])
      generalize hH : clI n k F i = H
      refine JLOOP.of (σ := Nat) (fun x => x ≤ n) (fun x => n - x) (fun x => [(17, I64 x), (16, I64 n), (15, .sl .none n (arrs u n n)), (3, I64 i), (12, I64 i), (11, I64 n), (10, .sl .none n (arrs u n n)), (2, I64 k), (7, I64 k), (6, I64 n), (5, .sl .none n (arrs u n n)), (0, .sl .none n (arrs u n n))]) (fun x => ext (matM j u n (clX k i H x)) []) 0 (Nat.zero_le _) ?_ (JDropH.refl _) ?_
      · (try simp only[↓jr,jw,seval,arrs_len,brow_len,arrs_ld,brow_ld,matM_next,matM_tnext,DL])
        exact ⟨SubB.v, SubB.v, hM, SubB.v, SubB.v, SubB.v, hM, SubB.v, SubB.v, SubB.v, hM⟩
      rintro x hx
      (try simp only[↓jr,jw,seval,arrs_len,brow_len,arrs_ld,brow_ld,matM_next,matM_tnext])
      refine wq.intro (fun g3 => ?_) (fun g3 => ?_)
      · generalize hP : clX k i H x = P
        have nx : ∀ v, (P i x || P i k && P k x) = v → upd2 P i x v = clX k i H (x + 1) := fun v e => by rw [clX_succ, hP]; unfold clS; rw [e]
        have hi' : i < n := by omega
        have hk' : k < n := by omega
        have gi := matM_get (j := j) (u := u) (f := P) hi'
        have gk := matM_get (j := j) (u := u) (f := P) hk'
        have li : pid u i < (matM j u n P).next := by rw [matM_next]; unfold pid; omega
        have lk : pid u k < (matM j u n P).next := by rw [matM_next]; unfold pid; omega
        have ei : ∀ {l : List AObj}, (ext (matM j u n P) l).get (pid u i) = some (.cells 4 (brow n (P i))) := fun {l} => by rw [ext_get_old li]; exact gi
        have ek : ∀ {l : List AObj}, (ext (matM j u n P) l).get (pid u k) = some (.cells 4 (brow n (P k))) := fun {l} => by rw [ext_get_old lk]; exact gk
        have si : ∀ {l : List AObj} {y : AObj}, (ext (matM j u n P) l).set (pid u i) y = ext ((matM j u n P).set (pid u i) y) l := fun {l y} => ext_set_old li
        (try simp only[↓jr,jw,seval,jq2,q_e5,ext_next,ext_tnext,set_next,set_tnext,matM_next,matM_tnext,Nat.le_refl,arrs_len,brow_len,arrs_ld,brow_ld,ei,ek,si])
        refine wc.intro (by omega) ?_
        (try simp only[↓jr,jw,seval,jq2,q_e5,ext_next,ext_tnext,set_next,set_tnext,matM_next,matM_tnext,Nat.le_refl,arrs_len,brow_len,arrs_ld,brow_ld,ei,ek,si])
        have put : ∀ v, (P i x || P i k && P k x) = v → ext ((matM j u n P).set (pid u i) (.cells 4 (brow n (upd (P i) x v)))) [] = ext (matM j u n (clX k i H (x + 1))) [] := fun v e => by rw [matM_put hi', nx v e]
        repeat' (first | (refine wc.bput (by omega) (by omega) ?_; (try simp only[↓jr,jw,seval,jq2,q_e5,ext_next,ext_tnext,set_next,set_tnext,matM_next,matM_tnext,Nat.le_refl,arrs_len,brow_len,arrs_ld,brow_ld,ei,ek,si])) | (refine wc.intro (by omega) ?_; (try simp only[↓jr,jw,seval,jq2,q_e5,ext_next,ext_tnext,set_next,set_tnext,matM_next,matM_tnext,Nat.le_refl,arrs_len,brow_len,arrs_ld,brow_ld,ei,ek,si])) | (refine ww.intro (fun _ => ?_) (fun _ => ?_) <;> (try simp only[↓jr,jw,seval,jq2,q_e5,ext_next,ext_tnext,set_next,set_tnext,matM_next,matM_tnext,Nat.le_refl,arrs_len,brow_len,arrs_ld,brow_ld,ei,ek,si])) | (refine JDRAW.oc (by (try simp only[↓jr,jw,seval,jq2,q_e5,ext_next,ext_tnext,set_next,set_tnext,matM_next,matM_tnext,Nat.le_refl,arrs_len,brow_len,arrs_ld,brow_ld,ei,ek,si,jq]) <;> exact orq) ?_; (try simp only[↓jr,jw,seval,jq2,q_e5,ext_next,ext_tnext,set_next,set_tnext,matM_next,matM_tnext,Nat.le_refl,arrs_len,brow_len,arrs_ld,brow_ld,ei,ek,si])))
        all_goals
          refine wc.intro (by unfold R64; omega) ?_
          (try simp only[↓jr,jw,seval,jq2,q_e5,ext_next,ext_tnext,set_next,set_tnext,matM_next,matM_tnext,Nat.le_refl,arrs_len,brow_len,arrs_ld,brow_ld,ei,ek,si])
          refine JNEXT.of (x + 1) (by omega) (by omega) ?_ (by rw [put _ (by simp only [*, Bool.true_or, Bool.false_or, Bool.true_and, Bool.false_and])]; exact JDropH.mat)
          (try simp only[↓jr,jw,seval,jq2,q_e5,ext_next,ext_tnext,set_next,set_tnext,matM_next,matM_tnext,Nat.le_refl,arrs_len,brow_len,arrs_ld,brow_ld,ei,ek,si,DL])
          exact ⟨SubB.eqi (by omega), SubB.v, hM, SubB.v, SubB.v, SubB.v, hM, SubB.v, SubB.v, SubB.v, hM⟩
      · (try simp only[↓jr,jw,seval,arrs_len,brow_len,arrs_ld,brow_ld,matM_next,matM_tnext])
        have ex : x = n := by omega
        refine wc.intro (by unfold R64; omega) ?_
        (try simp only[↓jr,jw,seval,arrs_len,brow_len,arrs_ld,brow_ld,matM_next,matM_tnext])
        refine JNEXT.of (i + 1) (by omega) (by omega) ?_ (by rw [ex, clI_succ, hH]; exact JDropH.mat)
        (try simp only[↓jr,jw,seval,arrs_len,brow_len,arrs_ld,brow_ld,matM_next,matM_tnext,DL])
        exact ⟨SubB.eqi (by omega), SubB.v, hM, SubB.v, SubB.v, SubB.v, hM⟩
    · (try simp only[↓jr,jw,seval,arrs_len,brow_len,arrs_ld,brow_ld,matM_next,matM_tnext])
      have ei : i = n := by omega
      refine wc.intro (by unfold R64; omega) ?_
      (try simp only[↓jr,jw,seval,arrs_len,brow_len,arrs_ld,brow_ld,matM_next,matM_tnext])
      refine JNEXT.of (k + 1) (by omega) (by omega) ?_ (by rw [ei, clK_succ, hF]; exact JDropH.mat)
      (try simp only[↓jr,jw,seval,arrs_len,brow_len,arrs_ld,brow_ld,matM_next,matM_tnext,DL])
      exact ⟨SubB.eqi (by omega), SubB.v, hM⟩
  · (try simp only[↓jr,jw,seval,arrs_len,brow_len,arrs_ld,brow_ld,matM_next,matM_tnext])
    have ek : k = n := by omega
    subst ek
    refine JFIN.ret (J := matM j u k (clK k f k)) ?_ (SubB.pure rfl)
    exact JDropH.matB.of_ext
end

/-! ### What a matrix closed under steps is: the paths. -/
section
inductive Pth (R : Nat → Nat → Prop) : Nat → Nat → Prop
  | one {a b : Nat} : R a b → Pth R a b
  | cat {a b c : Nat} : Pth R a b → Pth R b c → Pth R a c
theorem Pth.mono {R S : Nat → Nat → Prop} (h : ∀ a b, R a b → S a b) {a b : Nat} (p : Pth R a b) : Pth S a b := by
  induction p with
  | one q => exact .one (h _ _ q)
  | cat _ _ i1 i2 => exact .cat i1 i2
theorem Pth.bind {R S : Nat → Nat → Prop} (h : ∀ a b, R a b → Pth S a b) {a b : Nat} (p : Pth R a b) : Pth S a b := by
  induction p with
  | one q => exact h _ _ q
  | cat _ _ i1 i2 => exact .cat i1 i2
def Stp (n : Nat) (f : Nat → Nat → Bool) (a b : Nat) : Prop := a < n ∧ b < n ∧ f a b = true
theorem clX_eq (k i : Nat) (f : Nat → Nat → Bool) : ∀ (y r c : Nat), clX k i f y r c = if r = i ∧ c < y then f i c || (f i k && f k c) else f r c
  | 0, r, c => by unfold clX; simp
  | y + 1, r, c => by
    rw [clX_succ]
    unfold clS
    rw [upd2_at]
    have h1 : clX k i f y i y = f i y := by rw [clX_eq k i f y i y, if_neg (by omega)]
    have h2 : clX k i f y i k = f i k := by
      rw [clX_eq k i f y i k]; split
      · cases f i k <;> simp
      · rfl
    have h3 : clX k i f y k y = f k y := by rw [clX_eq k i f y k y, if_neg (by omega)]
    rw [h1, h2, h3, clX_eq k i f y r c]
    by_cases q : r = i ∧ c = y
    · obtain ⟨rfl, rfl⟩ := q
      rw [if_pos ⟨rfl, rfl⟩, if_pos ⟨rfl, by omega⟩]
    · rw [if_neg q]
      by_cases q2 : r = i ∧ c < y
      · rw [if_pos q2, if_pos ⟨q2.1, by omega⟩]
      · rw [if_neg q2, if_neg (by omega)]
theorem clI_eq (n k : Nat) (f : Nat → Nat → Bool) : ∀ (y r c : Nat), clI n k f y r c = if r < y ∧ c < n then f r c || (f r k && f k c) else f r c
  | 0, r, c => by unfold clI; simp
  | y + 1, r, c => by
    rw [clI_succ, clX_eq]
    have h1 : ∀ c, clI n k f y y c = f y c := fun c => by rw [clI_eq n k f y y c, if_neg (by omega)]
    have h3 : clI n k f y k c = f k c := by
      rw [clI_eq n k f y k c]; split
      · cases f k c <;> simp
      · rfl
    rw [h1, h1, h3, clI_eq n k f y r c]
    by_cases q : r = y ∧ c < n
    · obtain ⟨rfl, q⟩ := q
      rw [if_pos ⟨rfl, q⟩, if_pos ⟨by omega, q⟩]
    · rw [if_neg q]
      by_cases q2 : r < y ∧ c < n
      · rw [if_pos q2, if_pos ⟨by omega, q2.2⟩]
      · rw [if_neg q2, if_neg (by omega)]
theorem clK_step (n : Nat) (f : Nat → Nat → Bool) (y : Nat) {r c : Nat} (hr : r < n) (hc : c < n) : clK n f (y + 1) r c = (clK n f y r c || (clK n f y r y && clK n f y y c)) := by
  rw [clK_succ, clI_eq, if_pos ⟨hr, hc⟩]
theorem clK_sound (n : Nat) (f : Nat → Nat → Bool) : ∀ (y : Nat), y ≤ n → ∀ r c, r < n → c < n → clK n f y r c = true → Pth (Stp n f) r c
  | 0, _, r, c, hr, hc, h => .one ⟨hr, hc, h⟩
  | y + 1, hy, r, c, hr, hc, h => by
    rw [clK_step n f y hr hc, Bool.or_eq_true, Bool.and_eq_true] at h
    rcases h with h | ⟨h1, h2⟩
    · exact clK_sound n f y (by omega) r c hr hc h
    · exact .cat (clK_sound n f y (by omega) r y hr (by omega) h1) (clK_sound n f y (by omega) y c (by omega) hc h2)
theorem clK_thru (n : Nat) (f : Nat → Nat → Bool) : ∀ (y : Nat), y ≤ n → ∀ a b c, c < y → a < n → b < n → clK n f y a c = true → clK n f y c b = true → clK n f y a b = true
  | 0, _, a, b, c, hc, _, _, _, _ => by omega
  | y + 1, hy, a, b, c, hc, ha, hb, h1, h2 => by
    have ih := clK_thru n f y (by omega)
    rw [clK_step n f y ha (by omega), Bool.or_eq_true, Bool.and_eq_true] at h1
    rw [clK_step n f y (by omega) hb, Bool.or_eq_true, Bool.and_eq_true] at h2
    rw [clK_step n f y ha hb, Bool.or_eq_true, Bool.and_eq_true]
    by_cases e : c = y
    · subst e
      have g1 : clK n f c a c = true := by rcases h1 with h | h; exact h; exact h.1
      have g2 : clK n f c c b = true := by rcases h2 with h | h; exact h; exact h.2
      exact .inr ⟨g1, g2⟩
    · have hcy : c < y := by omega
      rcases h1 with h1 | ⟨h1, h1'⟩ <;> rcases h2 with h2 | ⟨h2, h2'⟩
      · exact .inl (ih a b c hcy ha hb h1 h2)
      · exact .inr ⟨ih a y c hcy ha (by omega) h1 h2, h2'⟩
      · exact .inr ⟨h1, ih y b c hcy (by omega) hb h1' h2⟩
      · exact .inr ⟨h1, h2'⟩
theorem clK_more (n : Nat) (f : Nat → Nat → Bool) : ∀ (y : Nat) (r c : Nat), r < n → c < n → f r c = true → clK n f y r c = true
  | 0, r, c, _, _, h => h
  | y + 1, r, c, hr, hc, h => by rw [clK_step n f y hr hc, clK_more n f y r c hr hc h]; rfl
theorem clK_iff (n : Nat) (f : Nat → Nat → Bool) {r c : Nat} (hr : r < n) (hc : c < n) : clK n f n r c = true ↔ Pth (Stp n f) r c := by
  refine ⟨clK_sound n f n (Nat.le_refl _) r c hr hc, fun p => ?_⟩
  have : r < n ∧ c < n ∧ clK n f n r c = true := by
    clear hr hc
    induction p with
    | one h => exact ⟨h.1, h.2.1, clK_more n f n _ _ h.1 h.2.1 h.2.2⟩
    | cat _ _ i1 i2 => exact ⟨i1.1, i2.2.1, clK_thru n f n (Nat.le_refl _) _ _ _ i1.2.1 i1.1 i2.2.1 i1.2.2 i2.2.2⟩
  exact this.2.2
/-! ### The same in a number's bits -/
def BM (n b N : Nat) (g : Nat → Nat → Bool) : Prop := ∀ i k, i < n → k < n → N.testBit (b + i * n + k) = g i k
theorem idx_inj {n i k r c : Nat} (hk : k < n) (hc : c < n) : i * n + k = r * n + c ↔ i = r ∧ k = c := by
  constructor
  · intro h
    have h1 : (i * n + k) / n = i := by rw [Nat.mul_comm, Nat.mul_add_div (by omega), Nat.div_eq_of_lt hk]; omega
    have h2 : (r * n + c) / n = r := by rw [Nat.mul_comm, Nat.mul_add_div (by omega), Nat.div_eq_of_lt hc]; omega
    have : i = r := by rw [← h1, h, h2]
    subst this
    exact ⟨rfl, by omega⟩
  · rintro ⟨rfl, rfl⟩; rfl
theorem BM.put {n b N : Nat} {g : Nat → Nat → Bool} (h : BM n b N g) {i k : Nat} (hi : i < n) (hk : k < n) : BM n b (put N (b + i * n + k)) (upd2 g i k true) := fun r c hr hc => by
  rw [put_bit, upd2_at, h r c hr hc]
  by_cases e : r = i ∧ c = k
  · obtain ⟨rfl, rfl⟩ := e; simp
  · have : ¬ b + i * n + k = b + r * n + c := fun q => e (by have := (idx_inj (n := n) hk hc).1 (by omega : i * n + k = r * n + c); exact ⟨this.1.symm, this.2.symm⟩)
    rw [decide_eq_false this, if_neg e, Bool.or_false]
theorem BM.congr {n b N : Nat} {f g : Nat → Nat → Bool} (h : BM n b N f) (e : ∀ i k, i < n → k < n → f i k = g i k) : BM n b N g := fun i k hi hk => (h i k hi hk).trans (e i k hi hk)
theorem trS_BM {n b N : Nat} {g : Nat → Nat → Bool} (h : BM n b N g) {j i k : Nat} (hj : j < n) (hi : i < n) (hk : k < n) : BM n b (trS n b j i N k) (clS j i g k) := by
  unfold trS clS
  rw [h i j hi hj, h j k hj hk]
  by_cases q : (g i j && g j k) = true
  · rw [if_pos q, q, Bool.or_true]; exact h.put hi hk
  · rw [if_neg q]
    simp only [Bool.not_eq_true] at q
    rw [q, Bool.or_false]
    refine h.congr fun r c hr hc => ?_
    rw [upd2_at]; split
    · rename_i e; rw [e.1, e.2]
    · rfl
theorem trK_BM {n b : Nat} {j i : Nat} (hj : j < n) (hi : i < n) : ∀ (y : Nat), y ≤ n → ∀ {N : Nat} {g : Nat → Nat → Bool}, BM n b N g → BM n b (trK n b j i N y) (clX j i g y)
  | 0, _, N, g, h => h
  | y + 1, hy, N, g, h => by
    rw [clX_succ]
    have e : trK n b j i N (y + 1) = trS n b j i (trK n b j i N y) y := by unfold trK; rw [List.range_succ, List.foldl_append]; rfl
    rw [e]
    exact trS_BM (trK_BM hj hi y (by omega) h) hj hi (by omega)
theorem trI_BM {n b : Nat} {j : Nat} (hj : j < n) : ∀ (y : Nat), y ≤ n → ∀ {N : Nat} {g : Nat → Nat → Bool}, BM n b N g → BM n b (trI n b j N y) (clI n j g y)
  | 0, _, N, g, h => h
  | y + 1, hy, N, g, h => by
    rw [clI_succ]
    have e : trI n b j N (y + 1) = trK n b j y (trI n b j N y) n := by unfold trI; rw [List.range_succ, List.foldl_append]; rfl
    rw [e]
    exact trK_BM hj (by omega) n (Nat.le_refl _) (trI_BM hj y (by omega) h)
theorem trJ_BM {n b : Nat} : ∀ (y : Nat), y ≤ n → ∀ {N : Nat} {g : Nat → Nat → Bool}, BM n b N g → BM n b (trJ n b N y) (clK n g y)
  | 0, _, N, g, h => h
  | y + 1, hy, N, g, h => by
    rw [clK_succ]
    have e : trJ n b N (y + 1) = trI n b y (trJ n b N y) n := by unfold trJ; rw [List.range_succ, List.foldl_append]; rfl
    rw [e]
    exact trI_BM (by omega) n (Nat.le_refl _) (trJ_BM y (by omega) h)
/-- .. and elsewhere nothing. -/
def Out (b l N M : Nat) : Prop := ∀ k, k < b ∨ b + l ≤ k → M.testBit k = N.testBit k
theorem Out.refl {b l N : Nat} : Out b l N N := fun _ _ => rfl
theorem Out.trans {b l N M K : Nat} (h : Out b l N M) (g : Out b l M K) : Out b l N K := fun k hk => (g k hk).trans (h k hk)
theorem Out.put {b l N p : Nat} (h : b ≤ p ∧ p < b + l) : Out b l N (put N p) := fun k hk => by rw [put_bit, decide_eq_false (by omega), Bool.or_false]
theorem foldl_out {b l : Nat} {f : Nat → Nat → Nat} : ∀ (xs : List Nat) (N : Nat), (∀ M, ∀ x ∈ xs, Out b l M (f M x)) → Out b l N (xs.foldl f N)
  | [], N, _ => Out.refl
  | x :: xs, N, h => (h N x List.mem_cons_self).trans (foldl_out xs _ fun M y hy => h M y (List.mem_cons_of_mem _ hy))
theorem trJ_out (n b N : Nat) : Out b (n * n) N (trJ n b N n) := by
  unfold trJ
  refine foldl_out _ _ fun M j hj => ?_
  unfold trI
  refine foldl_out _ _ fun M i hi => ?_
  unfold trK
  refine foldl_out _ _ fun M k hk => ?_
  rw [List.mem_range] at hi hk
  unfold trS
  split
  · refine Out.put ?_
    have : (i + 1) * n ≤ n * n := Nat.mul_le_mul_right n (by omega)
    rw [Nat.add_mul] at this
    omega
  · exact Out.refl
end
end Go.Proofs.YtkcbhebbjpiibaaDoor.Pg
