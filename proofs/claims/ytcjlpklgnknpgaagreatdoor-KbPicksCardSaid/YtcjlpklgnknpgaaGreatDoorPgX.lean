/-
  Pg, part 17: the plainer code, reckoned: what a closed call answers.
-/
import Derived.Test.YtcjlpklgnknpgaaGreatDoorPgM
set_option linter.unusedVariables false
set_option linter.unusedSimpArgs false
set_option linter.unusedSectionVars false
namespace Go.Proofs.YtcjlpklgnknpgaaGreatDoor.Pg
open Go
def xo {α β : Type} (o : Option α) (k : α → Option β) : Option β :=
 match o with
 | some x => k x
 | none => none
theorem xo_some {α β : Type} {o : Option α} {k : α → Option β} {b : β} (h : xo o k = some b) : ∃ a, o = some a ∧ k a = some b := by
 cases o with
 | none => cases h
 | some a => exact ⟨a, rfl, h⟩
def eqTok : Tok → Tok → Bool
 | .nil, .nil | .none, .none => true
 | .own a b c, .own d e f => a == d && b == e && c == f
 | _, _ => false
theorem eqTok_eq {a b : Tok} (h : eqTok a b = true) : a = b := by
 cases a <;> cases b <;> simp [eqTok] at h <;> simp_all
def eqVal : Value → Value → Bool
 | .bool a, .bool b => a == b
 | .int k a, .int l b => decide (k = l) && a == b
 | .string a, .string b => decide (a = b)
 | .pointer none, .pointer none | .nilFunc, .nilFunc | .nilIface, .nilIface | .map none, .map none => true
 | _, _ => false
theorem eqVal_eq {a b : Value} (h : eqVal a b = true) : a = b := by
 unfold eqVal at h
 split at h <;> simp_all
mutual
def eqAV : AV → AV → Bool
 | .v a, .v b => eqVal a b
 | .ptr a b, .ptr c d => a == c && b == d
 | .arr a b c, .arr d e f => a == d && b == e && c == f
 | .mp a, .mp b => a == b
 | .sl t n cs, .sl u m ds => eqTok t u && n == m && eqAVs cs ds
 | .ifc t x, .ifc u y => t == u && eqAV x y
 | .agg cs, .agg ds => eqAVs cs ds
 | .cptr cs, .cptr ds => eqAVs cs ds
 | .fn (.func f) a b, .fn (.func g) c d => f == g && eqAVs a c && eqAVs b d
 | _, _ => false
def eqAVs : List AV → List AV → Bool
 | [], [] => true
 | x :: xs, y :: ys => eqAV x y && eqAVs xs ys
 | _, _ => false
end
mutual
theorem eqAV_eq : ∀ (x y : AV), eqAV x y = true → x = y := by
 intro x y h
 cases x <;> cases y <;> try simp only [eqAV, Bool.and_eq_true, beq_iff_eq, Bool.false_eq_true] at h
 ·rw [eqVal_eq h]
 ·rw [h.1, h.2]
 ·rw [h.1.1, h.1.2, h.2]
 ·rw [eqAVs_eq _ _ h]
 ·rw [eqTok_eq h.1.1, h.1.2, eqAVs_eq _ _ h.2]
 ·rw [h]
 ·rename_i f a b g c d
  cases f <;> cases g <;> simp only [eqAV, Bool.and_eq_true, beq_iff_eq, Bool.false_eq_true] at h
  rw [h.1.1, eqAVs_eq _ _ h.1.2, eqAVs_eq _ _ h.2]
 ·rw [h.1, eqAV_eq _ _ h.2]
 ·rw [eqAVs_eq _ _ h]
theorem eqAVs_eq : ∀ (x y : List AV), eqAVs x y = true → x = y
 | [], [], _ => rfl
 | x :: xs, y :: ys, h => by
  simp only [eqAVs, Bool.and_eq_true] at h
  rw [eqAV_eq _ _ h.1, eqAVs_eq _ _ h.2]
 | [], _ :: _, h => by simp [eqAVs] at h
 | _ :: _, [], h => by simp [eqAVs] at h
end
def eqObj : Option AObj → Option AObj → Bool
 | none, none => true
 | some (.cells e cs), some (.cells f ds) => e == f && eqAVs cs ds
 | some (.map es), some (.map fs) => es.length == fs.length && (es.zip fs).all (fun p => eqVal p.1.1 p.2.1 && eqAV p.1.2 p.2.2)
 | _, _ => false
theorem eqObj_eq {a b : Option AObj} (h : eqObj a b = true) : a = b := by
 unfold eqObj at h
 split at h
 ·rfl
 ·simp only [Bool.and_eq_true, beq_iff_eq] at h
  rw [h.1, eqAVs_eq _ _ h.2]
 ·rename_i es fs
  simp only [Bool.and_eq_true, beq_iff_eq, List.all_eq_true] at h
  congr 2
  apply List.ext_getElem h.1
  intro i h1 h2
  have := h.2 (es[i], fs[i]) (List.mem_iff_getElem.2 ⟨i, by simp; omega, by simp⟩)
  exact Prod.ext (eqVal_eq this.1) (eqAV_eq _ _ this.2)
 ·cases h
mutual
def AV.low (no nt : Nat) : AV → Bool
 | .v _ | .any => true
 | .ptr o _ | .arr o _ _ | .mp o | .yld o => decide (o < no)
 | .cptr cs => AV.lows no nt cs
 | .sl .nil _ _ => true
 | .sl .none _ cs => AV.lows no nt cs
 | .sl (.own t _ _) _ cs => decide (t < nt) && AV.lows no nt cs
 | .fn _ a b => AV.lows no nt a && AV.lows no nt b
 | .ifc _ x => AV.low no nt x
 | .agg cs => AV.lows no nt cs
 | .tup cs => AV.lows no nt cs
def AV.lows (no nt : Nat) : List AV → Bool
 | [] => true
 | x :: xs => AV.low no nt x && AV.lows no nt xs
end
mutual
theorem V.low {no nt : Nat} {μ μ' : Mu} {w : World} (hr : Restr no nt μ μ') : ∀ (x : AV) (u : Value), AV.low no nt x = true → V μ w x u → V μ' w x u
 | .v _, _, _, h => by simp only [V] at h ⊢; exact h
 | .any, _, _, _ => by simp only [V]
 | .ptr o _, _, p, h => by
  simp only [AV.low, decide_eq_true_eq] at p
  simp only [V] at h ⊢; obtain ⟨b, e, q⟩ := h; exact ⟨b, by rw [hr.obj, if_pos p]; exact e, q⟩
 | .arr o _ _, _, p, h => by
  simp only [AV.low, decide_eq_true_eq] at p
  simp only [V] at h ⊢; obtain ⟨b, c, e, q⟩ := h; exact ⟨b, c, by rw [hr.obj, if_pos p]; exact e, q⟩
 | .mp o, _, p, h => by
  simp only [AV.low, decide_eq_true_eq] at p
  simp only [V] at h ⊢; obtain ⟨b, e, q⟩ := h; exact ⟨b, by rw [hr.obj, if_pos p]; exact e, q⟩
 | .yld o, _, p, h => by
  simp only [AV.low, decide_eq_true_eq] at p
  simp only [V] at h ⊢; obtain ⟨b, e, q⟩ := h; exact ⟨b, by rw [hr.obj, if_pos p]; exact e, q⟩
 | .cptr cs, _, p, h => by
  simp only [V] at h ⊢; obtain ⟨b, off, e, hc⟩ := h
  exact ⟨b, off, e, Cells.low hr cs b off (by simpa [AV.low] using p) hc⟩
 | .sl .nil _ cs, _, p, h => by simp only [V] at h ⊢; exact h
 | .sl .none _ cs, _, p, h => by
  simp only [V] at h ⊢
  obtain ⟨A, c, e, hn, hc⟩ := h
  exact ⟨A, c, e, hn, fun hne => by obtain ⟨b, off, eA, hcs⟩ := hc hne; exact ⟨b, off, eA, Cells.low hr cs b off (by simpa [AV.low] using p) hcs⟩⟩
 | .sl (.own t _ _) _ cs, _, p, h => by
  simp only [AV.low, Bool.and_eq_true, decide_eq_true_eq] at p
  simp only [V] at h ⊢
  obtain ⟨b, off, c, i, e, hn, hc, ht, hrest⟩ := h
  exact ⟨b, off, c, i, e, hn, Cells.low hr cs b off p.2 hc, by rw [hr.tok, if_pos p.1]; exact ht, hrest⟩
 | .fn f a b, _, p, h => by
  simp only [AV.low, Bool.and_eq_true] at p
  simp only [V] at h ⊢; obtain ⟨a', b', e, h1, h2⟩ := h; exact ⟨a', b', e, Vs.low hr a _ p.1 h1, Vs.low hr b _ p.2 h2⟩
 | .ifc t x, _, p, h => by simp only [AV.low] at p; simp only [V] at h ⊢; obtain ⟨y, e, hy⟩ := h; exact ⟨y, e, V.low hr x y p hy⟩
 | .agg cs, _, p, h => by simp only [AV.low] at p; simp only [V] at h ⊢; obtain ⟨us, e, hy⟩ := h; exact ⟨us, e, Vs.low hr cs _ p hy⟩
 | .tup cs, _, p, h => by simp only [AV.low] at p; simp only [V] at h ⊢; obtain ⟨us, e, hy⟩ := h; exact ⟨us, e, Vs.low hr cs _ p hy⟩
theorem Vs.low {no nt : Nat} {μ μ' : Mu} {w : World} (hr : Restr no nt μ μ') : ∀ (xs : List AV) (us : List Value), AV.lows no nt xs = true → Vs μ w xs us → Vs μ' w xs us
 | [], _, _, h => by simp only [Vs] at h ⊢; exact h
 | x :: xs, _, p, h => by
  simp only [AV.lows, Bool.and_eq_true] at p
  simp only [Vs] at h ⊢
  obtain ⟨u, us', e, h1, h2⟩ := h
  exact ⟨u, us', e, V.low hr x u p.1 h1, Vs.low hr xs us' p.2 h2⟩
theorem Cells.low {no nt : Nat} {μ μ' : Mu} {w : World} (hr : Restr no nt μ μ') : ∀ (xs : List AV) (b off : Nat), AV.lows no nt xs = true → Cells μ w xs b off → Cells μ' w xs b off
 | [], _, _, _, _ => by simp only [Cells]
 | x :: xs, b, off, p, h => by
  simp only [AV.lows, Bool.and_eq_true] at p
  simp only [Cells] at h ⊢
  obtain ⟨hc, ⟨u, hu, hx⟩, hxs⟩ := h
  exact ⟨(hr.com _ _).2 hc, ⟨u, hu, V.low hr x u p.1 hx⟩, Cells.low hr xs b (off + 1) p.2 hxs⟩
end
theorem SubB.low {no nt : Nat} {x : AV} (p : AV.low no nt x = true) : SubB no nt x x := fun _ _ _ u hr h => V.low hr x u p h
abbrev XC := FuncId → List AV → AH → Option (AOut × AH)
abbrev XY := Nat → List AV → AH → Option (AOut × AH)
section
variable (P : Program) (G : Nat → Option (List AV)) (T : FuncId → Option IFn)
def xstep (call : XC) (ys : XY) (fr : Fr) (h : AH) : I → Option (AOut × AH)
 | .mov x => xo (x.ev G fr) fun y => some (.ret y, h)
 | .pick c a b => xo (c.ev G fr) fun c => xo (ibool c) fun t => xo ((if t then a else b).ev G fr) fun y => some (.ret y, h)
 | .bin op x y => xo (x.ev G fr) fun x => xo (y.ev G fr) fun y => xo (ibin op x y) fun z => some (.ret z, h)
 | .not x => xo (x.ev G fr) fun x => xo (ibool x) fun t => some (.ret (.v (.bool !t)), h)
 | .cvt k x => xo (x.ev G fr) fun x => xo (aint x) fun p => some (.ret (.v (.int k (k.wrap p.2))), h)
 | .fadr off x => xo (x.ev G fr) fun x => xo (ifadr off x) fun z => some (.ret z, h)
 | .fld row off x => xo (x.ev G fr) fun x => xo (ifld row off x) fun z => some (.ret z, h)
 | .iasl es x i => xo (x.ev G fr) fun x => xo (i.ev G fr) fun i => xo (iiasl es x i) fun z => some (.ret z, h)
 | .iaar n es x i => xo (x.ev G fr) fun x => xo (i.ev G fr) fun i => xo (iiaar n es x i) fun z => some (.ret z, h)
 | .idxs x i => xo (x.ev G fr) fun x => xo (i.ev G fr) fun i => xo (iidxs x i) fun z => some (.ret z, h)
 | .slc es x lo hi => xo (x.ev G fr) fun x => xo (X.evo G fr lo) fun lo => xo (X.evo G fr hi) fun hi => xo (islc es lo hi x) fun z => some (.ret z, h)
 | .slcs x lo hi => xo (x.ev G fr) fun x => xo (X.evo G fr lo) fun lo => xo (X.evo G fr hi) fun hi => xo (islcs lo hi x) fun z => some (.ret z, h)
 | .ext x i => xo (x.ev G fr) fun x => match x with
  | .tup vs => xo (vs[i]?) fun z => some (.ret z, h)
  | _ => none
 | .mki t x => xo (x.ev G fr) fun x => some (.ret (.ifc t x), h)
 | .mkf f first cap => xo (X.evs G fr first) fun a => xo (X.evs G fr cap) fun b => some (.ret (.fn f a b), h)
 | .load row x => xo (x.ev G fr) fun x => xo (iload h.get row x) fun z => some (.ret z, h)
 | .lenl x => xo (x.ev G fr) fun x => xo (ilenl x) fun z => some (.ret z, h)
 | .lens x => xo (x.ev G fr) fun x => xo (ilens x) fun z => some (.ret z, h)
 | .box t x => xo (x.ev G fr) fun x => if x.known then some (.ret (.ptr h.next 0), h.push (.cells t x.cells)) else none
 | .alloc t cs => some (.ret (.ptr h.next 0), h.push (.cells t cs))
 | .build z ps => xo (ifill G fr z ps) fun cs => some (.ret (.agg cs), h)
 | .bsl n es z ps => xo (ifill G fr (acycle z (n * es)) ps) fun cs => if cs.length = n * es then some (.ret (.sl (.own h.tnext 0 es) n cs), h.pushTok n) else none
 | .mkmap => some (.ret (.mp h.next), h.push (.map []))
 | .lookup kind zero ok m k => xo (m.ev G fr) fun m => xo (k.ev G fr) fun k => xo (ilookup h.get kind zero ok m k) fun z => some (.ret z, h)
 | .mapup kind m k x => xo (m.ev G fr) fun m => xo (k.ev G fr) fun k => xo (x.ev G fr) fun x => xo (imapup h kind m k x) fun h' => some (.ret (.v undef), h')
 | .store size p x => xo (p.ev G fr) fun p => xo (x.ev G fr) fun x => xo (istore h size p x) fun h' => some (.ret (.v undef), h')
 | .app es bytes a b => xo (a.ev G fr) fun a => xo (b.ev G fr) fun b => xo (iapp h es bytes a b) fun p => some (.ret p.1, p.2)
 | .call f xs => xo (X.evs G fr xs) fun xs => call f xs h
 | .callv f xs => xo (f.ev G fr) fun f => xo (X.evs G fr xs) fun xs => match f with
  | .fn (.func g) first cap => xo (T g) fun _ => call g (first ++ xs ++ cap) h
  | .yld ob => ys ob xs h
  | _ => none
 | .inv m r xs => xo (r.ev G fr) fun r => xo (X.evs G fr xs) fun xs => match r with
  | .ifc t y => xo (mtv P t m) fun g => call g (y :: xs) h
  | _ => none
 | .nchk x => xo (x.ev G fr) fun p => if callable p then some (.ret p, h) else none
 | .beq ne x y => xo (x.ev G fr) fun x => xo (ibool x) fun a => xo (y.ev G fr) fun y => xo (ibool y) fun b => some (.ret (.v (.bool (if ne then !(a == b) else a == b))), h)
 | .beqA ne x y => xo (x.ev G fr) fun x => xo (ipr x) fun a => xo (y.ev G fr) fun y => xo (ipr y) fun b => some (.ret (.v (.bool (if ne then !(a.1 == b.1 && a.2 == b.2) else a.1 == b.1 && a.2 == b.2))), h)
 | .mx mn x y => xo (x.ev G fr) fun x => xo (aint x) fun p => xo (y.ev G fr) fun y => xo (aint y) fun q => some (.ret (.v (.int p.1 (if mn then (if q.2 < p.2 then q.2 else p.2) else if q.2 > p.2 then q.2 else p.2))), h)
 | .mks e es bytes z l c => xo (l.ev G fr) fun l => xo (aint l) fun l => xo (c.ev G fr) fun c => xo (aint c) fun c => xo (imks h e es bytes z l.2 c.2) fun p => some (.ret p.1, p.2)
 | .pan x => xo (x.ev G fr) fun x => match x with
  | .ifc t y => some (.pan (.ifc t y), h)
  | _ => none
 | .aidx row n es x i => xo (x.ev G fr) fun x => xo (i.ev G fr) fun i => xo (iaidx row n es x i) fun z => some (.ret z, h)
 | .slcp n es x lo hi => xo (x.ev G fr) fun x => xo (X.evo G fr lo) fun lo => xo (X.evo G fr hi) fun hi => xo (islcp n es lo hi x) fun z => some (.ret z, h)
 | .tas t z ok x => xo (x.ev G fr) fun x => xo (itas t z ok x) fun y => some (.ret y, h)
 | .inil ne x => xo (x.ev G fr) fun x => xo (iinil ne x) fun y => some (.ret y, h)
 | .gen o => if kindOf o = .p then (pop P G fr o).map fun x => (.ret x, h) else none
def xwant (fr : Fr) : Option (Nat × Bool) → Option Bool
 | none => some true
 | some (t, want) => if t < fr.n then match fr.get t with
   | .v (.bool c) => some (c == want)
   | .v (.tuple _) => some false
   | _ => none
  else none
def xput (fr : Fr) (d : Option Nat) (x : AV) : Option Fr :=
 match d with
 | none => some fr
 | some d => if d < fr.n then some (fr.set d x) else none
def xops (call : XC) (ys : XY) : List IOp → Fr → AH → Option (Option AV × Fr × AH)
 | [], fr, h => some (none, fr, h)
 | o :: r, fr, h => xo (xwant fr o.g) fun w =>
  if w then xo (xstep P G T call ys fr h o.i) fun p => match p.1 with
   | .ret x => xo (xput fr o.d x) fun fr' => xops call ys r fr' p.2
   | .pan x => some (some x, fr, p.2)
  else xo (xput fr o.d (.v undef)) fun fr' => xops call ys r fr' h
def xdraw (call : XC) (ys : XY) : List IOp → Fr → AH → List DEnt → Option (Fr × AH × List DEnt)
 | [], fr, h, es => some (fr, h, es)
 | o :: r, fr, h, es => xo (xwant fr o.g) fun w =>
  if w then xo (xstep P G T call (fun _ _ _ => none) fr h o.i) fun p => match p.1 with
   | .ret x => xo (xput fr o.d x) fun fr' => xdraw call ys r fr' p.2 (es ++ [⟨true, touchX G fr o.tx, h, p.2⟩])
   | .pan x => none
  else xo (xput fr o.d (.v undef)) fun fr' => xdraw call ys r fr' h (es ++ [⟨false, touchX G fr o.tx, h, h⟩])
def xpair (es : List DEnt) (p : Nat × Nat) : Bool :=
 match es[p.1]?, es[p.2]? with
 | some ei, some ej => !ei.ex || !ej.ex || ((match ei.touch with | some ob => eqObj (ej.hb.get ob) (ej.ha.get ob) | none => true) &&
   (ei.ha.next == ei.hb.next || eqObj (ej.hb.get ei.hb.next) (ej.ha.get ei.hb.next)) && (ei.ha.tnext == ei.hb.tnext || ej.hb.tok ei.hb.tnext == ej.ha.tok ei.hb.tnext))
 | _, _ => true
def xdok (pairs : List (Nat × Nat)) (es : List DEnt) : Bool :=
 es.all (fun e => decide (e.hb.next ≤ e.ha.next) && decide (e.hb.tnext ≤ e.ha.tnext) && (match e.touch with | some ob => decide (ob < e.hb.next) | none => true)) && pairs.all (xpair es)
def xloop (body : Fr → AH → Option (AX × Fr × AH)) : Nat → Fr → AH → Option (AX × Fr × AH)
 | 0, _, _ => none
 | n + 1, fr, h => match body fr h with
  | some (.norm, fr, h) => xloop body n fr h
  | r => r
def xend (o : Nat) (fr0 : Fr) (ps0 : Array Tmp) (ca cb : Code) (x : AX) (h3 : AH) : Option (AOut × AH) :=
 match h3.get o with
 | some (.loop _ .busy none _ _ _) => match x with
  | .norm => some (.ret (.v (.bool true)), h3.set o (.loop fr0 .ready none ps0 ca cb))
  | .ret => some (.ret (.v (.bool false)), h3.set o (.loop fr0 .done (some .ret) ps0 ca cb))
  | .exit i => some (.ret (.v (.bool false)), h3.set o (.loop fr0 .done (some (.exit i)) ps0 ca cb))
  | .pan _ => none
 | _ => none
def xrun (call : XC) (ys : XY) (N : Nat) : IR → Fr → AH → Option (AX × Fr × AH)
 | .skip, fr, h => some (.norm, fr, h)
 | .exit id, fr, h => some (.exit id, fr, h)
 | .ret, fr, h => some (.ret, fr, h)
 | .reg l, fr, h => xo (xops P G T call ys l fr h) fun p => match p.1 with
  | none => some (.norm, p.2.1, p.2.2)
  | some x => some (.pan x, p.2.1, p.2.2)
 | .draw l pairs, fr, h => xo (xdraw P G T call ys l fr h []) fun p => if xdok pairs p.2.2 then some (.norm, p.1, p.2.1) else none
 | .drawP l pairs i, fr, h => xo (xdraw P G T call ys (l.take i) fr h []) fun p => match l[i]? with
  | some ⟨_, none, _, .call f xs⟩ => xo (X.evs G p.1 xs) fun xs => xo (call f xs p.2.1) fun q => match q.1 with
   | .pan x => if xdok (pre2 i pairs) p.2.2 then some (.pan x, forget fr (idsts l), q.2) else none
   | .ret _ => xo (xdraw P G T call ys l fr h []) fun p => if xdok pairs p.2.2 then some (.norm, p.1, p.2.1) else none
  | _ => none
 | .seq a b, fr, h => xo (xrun call ys N a fr h) fun p => match p.1 with
  | .norm => xrun call ys N b p.2.1 p.2.2
  | x => some (x, p.2.1, p.2.2)
 | .cond x a b, fr, h => xo (x.ev G fr) fun c => xo (ibool c) fun t => if t then xrun call ys N a fr h else xrun call ys N b fr h
 | .block id a, fr, h => xo (xrun call ys N a fr h) fun p => match p.1 with
  | .exit j => if j = id then some (.norm, p.2.1, p.2.2) else some (.exit j, p.2.1, p.2.2)
  | x => some (x, p.2.1, p.2.2)
 | .loop a, fr, h => xloop (fun fr h => xrun call ys N a fr h) N fr h
 | .rng x ps ca cb _ _, fr, h => xo (x.ev G fr) fun g => match g with
  | .fn (.func it) [] cap => xo (T it) fun _ => xo (call it (.yld h.next :: cap) (h.push (.loop fr .ready none ps ca cb))) fun p => match p.1 with
   | .ret _ => match p.2.get h.next with
    | some (.loop _ st pe _ _ _) => if st = .busy then none else match pe with
     | none => some (.norm, fr, p.2.set h.next .dead)
     | some .ret => some (.ret, fr, p.2.set h.next .dead)
     | some (.exit i) => some (.exit i, fr, p.2.set h.next .dead)
     | _ => none
    | _ => none
   | .pan _ => none
  | _ => none
 | _, _, _ => none
def xround (call : XC) (ys : XY) (N : Nat) (o : Nat) (args : List AV) (h : AH) : Option (AOut × AH) :=
 match h.get o with
 | some (.loop fr0 .ready none ps0 ca cb) =>
  if args.length = ps0.size ∧ ps0.toList.all (fun p => decide (p < fr0.n)) = true ∧ o < h.next then match xrun P G T call ys N (ccode P false ca) (setps fr0 ps0.toList args) h with
  | some (.norm, fr2, h2) => match h2.get o with
   | some (.loop fr0' .ready none ps0' ca' cb') => xo (xrun P G T call ys N (ccode P false cb) fr2 (h2.set o (.loop fr0 .busy none ps0 ca cb))) fun p => xend o fr0 ps0 ca cb p.1 p.2.2
   | _ => none
  | _ => none
  else none
 | _ => none
end
section
variable {P : Program} {G : Nat → Option (List AV)} {T : FuncId → Option IFn}
def KL (h h' : AH) : Prop := h.next ≤ h'.next ∧ ∀ o fr st pe ps ca cb, o < h.next → h.get o = some (.loop fr st pe ps ca cb) → ∃ st' pe', h'.get o = some (.loop fr st' pe' ps ca cb)
theorem KL.refl (h : AH) : KL h h := ⟨Nat.le_refl _, fun _ _ st pe _ _ _ _ e => ⟨st, pe, e⟩⟩
theorem KL.trans {a b c : AH} (h : KL a b) (k : KL b c) : KL a c := ⟨Nat.le_trans h.1 k.1, fun o fr st pe ps ca cb hl e => by
 obtain ⟨st1, pe1, e1⟩ := h.2 o fr st pe ps ca cb hl e
 exact k.2 o fr st1 pe1 ps ca cb (Nat.lt_of_lt_of_le hl h.1) e1⟩
theorem KL.push (h : AH) (x : AObj) : KL h (h.push x) := ⟨by simp [AH.push], fun o fr st pe ps ca cb hl e => ⟨st, pe, by rw [AH.get_push, if_neg (by omega)]; exact e⟩⟩
theorem KL.pushTok (h : AH) (n : Nat) : KL h (h.pushTok n) := ⟨Nat.le_refl _, fun _ _ st pe _ _ _ _ e => ⟨st, pe, e⟩⟩
theorem KL.setTok (h : AH) (t n : Nat) : KL h (h.setTok t n) := ⟨Nat.le_refl _, fun _ _ st pe _ _ _ _ e => ⟨st, pe, e⟩⟩
theorem KL.set {h : AH} {o : Nat} {x : AObj} (hn : ∀ fr st pe ps ca cb, h.get o ≠ some (.loop fr st pe ps ca cb)) : KL h (h.set o x) := ⟨Nat.le_refl _, fun o' fr st pe ps ca cb hl e => ⟨st, pe, by
 rw [AH.get_set]
 split
 ·rename_i q; subst q; exact absurd e (hn _ _ _ _ _ _)
 ·exact e⟩⟩
theorem KL.setLoop {h : AH} {o : Nat} {fr : Fr} {st st' : LoopState} {pe pe' : Option Code} {ps : Array Tmp} {ca cb : Code} (hg : h.get o = some (.loop fr st pe ps ca cb)) : KL h (h.set o (.loop fr st' pe' ps ca cb)) := ⟨Nat.le_refl _, fun o' fr1 st1 pe1 ps1 ca1 cb1 hl e => by
 by_cases q : o' = o
 ·subst q; rw [hg] at e; cases e; exact ⟨st', pe', by rw [AH.get_set, if_pos rfl]⟩
 ·exact ⟨st1, pe1, by rw [AH.get_set, if_neg q]; exact e⟩⟩
structure XOk (P : Program) (G : Nat → Option (List AV)) (call : XC) (ys : XY) : Prop where
 c : ∀ f args h o h', call f args h = some (o, h') → CALL P G f args h fun q k => q = o ∧ k = h'
 y : ∀ b args h o h', ys b args h = some (o, h') → CALLY P G b args h fun q k => q = o ∧ k = h'
 ck : ∀ f args h o h', call f args h = some (o, h') → KL h h'
 yk : ∀ b args h o h', ys b args h = some (o, h') → KL h h'
def Tok' (P : Program) (T : FuncId → Option IFn) : Prop := ∀ f k, T f = some k → cfunc P f = some k ∧ hasBody P f = true
theorem xstep_sound {call : XC} {ys : XY} (hc : XOk P G call ys) (hT : Tok' P T) {fr : Fr} {h : AH} {i : I} {o : AOut} {h' : AH} (e : xstep P G T call ys fr h i = some (o, h')) : istep P G fr h i fun q k => q = o ∧ k = h' := by
 cases i with
 | gen o =>
  simp only [xstep] at e
  split at e
  ·rename_i hk
   cases hp : pop P G fr o with
   | none => rw [hp] at e; cases e
   | some x =>
    rw [hp] at e
    simp only [Option.map_some, Option.some.injEq, Prod.mk.injEq] at e
    obtain ⟨rfl, rfl⟩ := e
    refine .inl ?_
    show wv (astep P G (fun _ _ _ => none) fr h o) _
    unfold astep
    rw [hk]
    simp only [hp, Option.map_some, wv_some, and_self]
  ·cases e
 | mov x =>
  simp only [xstep] at e
  obtain ⟨a1, e1, e⟩ := xo_some e
  cases e
  simp only [istep, e1, wv_some, and_self]
 | bin op x y =>
  simp only [xstep] at e
  obtain ⟨a1, e1, e⟩ := xo_some e
  obtain ⟨a2, e2, e⟩ := xo_some e
  obtain ⟨a3, e3, e⟩ := xo_some e
  cases e
  simp only [istep, e1, e2, e3, wv_some, and_self]
 | not x =>
  simp only [xstep] at e
  obtain ⟨a1, e1, e⟩ := xo_some e
  obtain ⟨a2, e2, e⟩ := xo_some e
  cases e
  simp only [istep, e1, e2, wv_some, and_self]
 | cvt k x =>
  simp only [xstep] at e
  obtain ⟨a1, e1, e⟩ := xo_some e
  obtain ⟨a2, e2, e⟩ := xo_some e
  cases e
  simp only [istep, e1, e2, wv_some, and_self]
 | fadr off x =>
  simp only [xstep] at e
  obtain ⟨a1, e1, e⟩ := xo_some e
  obtain ⟨a2, e2, e⟩ := xo_some e
  cases e
  simp only [istep, e1, e2, wv_some, and_self]
 | fld row off x =>
  simp only [xstep] at e
  obtain ⟨a1, e1, e⟩ := xo_some e
  obtain ⟨a2, e2, e⟩ := xo_some e
  cases e
  simp only [istep, e1, e2, wv_some, and_self]
 | iasl es x i =>
  simp only [xstep] at e
  obtain ⟨a1, e1, e⟩ := xo_some e
  obtain ⟨a2, e2, e⟩ := xo_some e
  obtain ⟨a3, e3, e⟩ := xo_some e
  cases e
  simp only [istep, e1, e2, e3, wv_some, and_self]
 | iaar n es x i =>
  simp only [xstep] at e
  obtain ⟨a1, e1, e⟩ := xo_some e
  obtain ⟨a2, e2, e⟩ := xo_some e
  obtain ⟨a3, e3, e⟩ := xo_some e
  cases e
  simp only [istep, e1, e2, e3, wv_some, and_self]
 | idxs x i =>
  simp only [xstep] at e
  obtain ⟨a1, e1, e⟩ := xo_some e
  obtain ⟨a2, e2, e⟩ := xo_some e
  obtain ⟨a3, e3, e⟩ := xo_some e
  cases e
  simp only [istep, e1, e2, e3, wv_some, and_self]
 | slc es x lo hi =>
  simp only [xstep] at e
  obtain ⟨a1, e1, e⟩ := xo_some e
  obtain ⟨a2, e2, e⟩ := xo_some e
  obtain ⟨a3, e3, e⟩ := xo_some e
  obtain ⟨a4, e4, e⟩ := xo_some e
  cases e
  simp only [istep, e1, e2, e3, e4, wv_some, and_self]
 | slcs x lo hi =>
  simp only [xstep] at e
  obtain ⟨a1, e1, e⟩ := xo_some e
  obtain ⟨a2, e2, e⟩ := xo_some e
  obtain ⟨a3, e3, e⟩ := xo_some e
  obtain ⟨a4, e4, e⟩ := xo_some e
  cases e
  simp only [istep, e1, e2, e3, e4, wv_some, and_self]
 | mki t x =>
  simp only [xstep] at e
  obtain ⟨a1, e1, e⟩ := xo_some e
  cases e
  simp only [istep, e1, wv_some, and_self]
 | mkf f first cap =>
  simp only [xstep] at e
  obtain ⟨a1, e1, e⟩ := xo_some e
  obtain ⟨a2, e2, e⟩ := xo_some e
  cases e
  simp only [istep, e1, e2, wv_some, and_self]
 | load row x =>
  simp only [xstep] at e
  obtain ⟨a1, e1, e⟩ := xo_some e
  obtain ⟨a2, e2, e⟩ := xo_some e
  cases e
  simp only [istep, e1, e2, wv_some, and_self]
 | lenl x =>
  simp only [xstep] at e
  obtain ⟨a1, e1, e⟩ := xo_some e
  obtain ⟨a2, e2, e⟩ := xo_some e
  cases e
  simp only [istep, e1, e2, wv_some, and_self]
 | lens x =>
  simp only [xstep] at e
  obtain ⟨a1, e1, e⟩ := xo_some e
  obtain ⟨a2, e2, e⟩ := xo_some e
  cases e
  simp only [istep, e1, e2, wv_some, and_self]
 | alloc t cs =>
  simp only [xstep] at e
  cases e
  simp only [istep, wv_some, and_self]
 | build z ps =>
  simp only [xstep] at e
  obtain ⟨a1, e1, e⟩ := xo_some e
  cases e
  simp only [istep, e1, wv_some, and_self]
 | mkmap =>
  simp only [xstep] at e
  cases e
  simp only [istep, wv_some, and_self]
 | lookup kind zero ok m k =>
  simp only [xstep] at e
  obtain ⟨a1, e1, e⟩ := xo_some e
  obtain ⟨a2, e2, e⟩ := xo_some e
  obtain ⟨a3, e3, e⟩ := xo_some e
  cases e
  simp only [istep, e1, e2, e3, wv_some, and_self]
 | mapup kind m k x =>
  simp only [xstep] at e
  obtain ⟨a1, e1, e⟩ := xo_some e
  obtain ⟨a2, e2, e⟩ := xo_some e
  obtain ⟨a3, e3, e⟩ := xo_some e
  obtain ⟨a4, e4, e⟩ := xo_some e
  cases e
  simp only [istep, e1, e2, e3, e4, wv_some, and_self]
 | store size p x =>
  simp only [xstep] at e
  obtain ⟨a1, e1, e⟩ := xo_some e
  obtain ⟨a2, e2, e⟩ := xo_some e
  obtain ⟨a3, e3, e⟩ := xo_some e
  cases e
  simp only [istep, e1, e2, e3, wv_some, and_self]
 | app es bytes a b =>
  simp only [xstep] at e
  obtain ⟨a1, e1, e⟩ := xo_some e
  obtain ⟨a2, e2, e⟩ := xo_some e
  obtain ⟨a3, e3, e⟩ := xo_some e
  cases e
  simp only [istep, e1, e2, e3, wv_some, and_self]
 | beq ne x y =>
  simp only [xstep] at e
  obtain ⟨a1, e1, e⟩ := xo_some e
  obtain ⟨a2, e2, e⟩ := xo_some e
  obtain ⟨a3, e3, e⟩ := xo_some e
  obtain ⟨a4, e4, e⟩ := xo_some e
  cases e
  simp only [istep, e1, e2, e3, e4, wv_some, and_self]
 | beqA ne x y =>
  simp only [xstep] at e
  obtain ⟨a1, e1, e⟩ := xo_some e
  obtain ⟨a2, e2, e⟩ := xo_some e
  obtain ⟨a3, e3, e⟩ := xo_some e
  obtain ⟨a4, e4, e⟩ := xo_some e
  cases e
  simp only [istep, e1, e2, e3, e4, wv_some, and_self]
 | mx mn x y =>
  simp only [xstep] at e
  obtain ⟨a1, e1, e⟩ := xo_some e
  obtain ⟨a2, e2, e⟩ := xo_some e
  obtain ⟨a3, e3, e⟩ := xo_some e
  obtain ⟨a4, e4, e⟩ := xo_some e
  cases e
  simp only [istep, e1, e2, e3, e4, wv_some, and_self]
 | aidx row n es x i =>
  simp only [xstep] at e
  obtain ⟨a1, e1, e⟩ := xo_some e
  obtain ⟨a2, e2, e⟩ := xo_some e
  obtain ⟨a3, e3, e⟩ := xo_some e
  cases e
  simp only [istep, e1, e2, e3, wv_some, and_self]
 | slcp n es x lo hi =>
  simp only [xstep] at e
  obtain ⟨a1, e1, e⟩ := xo_some e
  obtain ⟨a2, e2, e⟩ := xo_some e
  obtain ⟨a3, e3, e⟩ := xo_some e
  obtain ⟨a4, e4, e⟩ := xo_some e
  cases e
  simp only [istep, e1, e2, e3, e4, wv_some, and_self]
 | tas t z ok x =>
  simp only [xstep] at e
  obtain ⟨a1, e1, e⟩ := xo_some e
  obtain ⟨a2, e2, e⟩ := xo_some e
  cases e
  simp only [istep, e1, e2, wv_some, and_self]
 | inil ne x =>
  simp only [xstep] at e
  obtain ⟨a1, e1, e⟩ := xo_some e
  obtain ⟨a2, e2, e⟩ := xo_some e
  cases e
  simp only [istep, e1, e2, wv_some, and_self]
 | mks e1 es bytes z l c =>
  simp only [xstep] at e
  obtain ⟨a1, q1, e⟩ := xo_some e
  obtain ⟨a2, q2, e⟩ := xo_some e
  obtain ⟨a3, q3, e⟩ := xo_some e
  obtain ⟨a4, q4, e⟩ := xo_some e
  obtain ⟨a5, q5, e⟩ := xo_some e
  cases e
  simp only [istep, q1, q2, q3, q4, q5, wv_some, and_self]
 | pick c a b =>
  simp only [xstep] at e
  obtain ⟨c', e1, e⟩ := xo_some e
  obtain ⟨t, e2, e⟩ := xo_some e
  obtain ⟨y, e3, e⟩ := xo_some e
  cases e
  simp only [istep, e1, e2, wv_some]
  refine ⟨fun q => ?_, fun q => ?_⟩
  ·rw [q, if_pos rfl] at e3; simp only [e3, wv_some, and_self]
  ·rw [q, if_neg (by simp)] at e3; simp only [e3, wv_some, and_self]
 | ext x i =>
  simp only [xstep] at e
  obtain ⟨x', e1, e⟩ := xo_some e
  split at e
  ·obtain ⟨y, e2, e⟩ := xo_some e
   cases e
   simp only [istep, e1, e2, wv_some, and_self]
  ·cases e
 | box t x =>
  simp only [xstep] at e
  obtain ⟨x', e1, e⟩ := xo_some e
  split at e
  ·rename_i q; cases e; simp only [istep, e1, wv_some, q, and_self]
  ·cases e
 | bsl n es z ps =>
  simp only [xstep] at e
  obtain ⟨x', e1, e⟩ := xo_some e
  split at e
  ·rename_i q; cases e; simp only [istep, e1, wv_some, q, and_self]
  ·cases e
 | call f xs =>
  simp only [xstep] at e
  obtain ⟨x', e1, e⟩ := xo_some e
  simp only [istep, e1, wv_some]; exact hc.c _ _ _ _ _ e
 | callv f xs =>
  simp only [xstep] at e
  obtain ⟨f', e1, e⟩ := xo_some e
  obtain ⟨x', e2, e⟩ := xo_some e
  simp only [istep, e1, e2, wv_some]
  split at e
  ·obtain ⟨k, e3, e⟩ := xo_some e
   exact ⟨(hT _ _ e3).2, hc.c _ _ _ _ _ e⟩
  ·exact hc.y _ _ _ _ _ e
  ·cases e
 | inv m r xs =>
  simp only [xstep] at e
  obtain ⟨r', e1, e⟩ := xo_some e
  obtain ⟨x', e2, e⟩ := xo_some e
  simp only [istep, e1, e2, wv_some]
  split at e
  ·obtain ⟨g, e3, e⟩ := xo_some e
   simp only [e3, wv_some]
   exact hc.c _ _ _ _ _ e
  ·cases e
 | nchk x =>
  simp only [xstep] at e
  obtain ⟨x', e1, e⟩ := xo_some e
  split at e
  ·rename_i q; cases e; simp only [istep, e1, wv_some, q, and_self]
  ·cases e
 | pan x =>
  simp only [xstep] at e
  obtain ⟨x', e1, e⟩ := xo_some e
  split at e
  ·cases e; simp only [istep, e1, wv_some, and_self]
  ·cases e
theorem xwant_sound {fr : Fr} {g : Option (Nat × Bool)} {b : Bool} (e : xwant fr g = some b) {A B : Prop} (h : if b then A else B) : gq fr g A B := by
 unfold xwant at e
 split at e
 ·cases e; exact h
 ·rename_i t want
  split at e
  ·rename_i hlt
   refine ⟨hlt, ?_⟩
   split at e
   ·rename_i c hv
    cases e
    rw [hv]
    cases want <;> cases c <;> simp at h <;> simpa using h
   ·rename_i c hv
    cases e
    rw [hv]; simpa using h
   ·cases e
  ·cases e
theorem xput_sound {fr : Fr} {d : Option Nat} {x : AV} {fr' : Fr} (e : xput fr d x = some fr') {K : Fr → Prop} (k : K fr') : wput fr d x K := by
 unfold xput at e
 split at e
 ·cases e; exact k
 ·split at e
  ·cases e; exact ⟨by assumption, k⟩
  ·cases e
theorem xops_sound {call : XC} {ys : XY} (hc : XOk P G call ys) (hT : Tok' P T) : ∀ (l : List IOp) {fr : Fr} {h : AH} {o : Option AV} {fr' : Fr} {h' : AH}, xops P G T call ys l fr h = some (o, fr', h') → wops P G l fr h fun q f k => q = o ∧ f = fr' ∧ k = h'
 | [], fr, h, o, fr', h', e => by simp only [xops, Option.some.injEq, Prod.mk.injEq] at e; obtain ⟨rfl, rfl, rfl⟩ := e; exact ⟨rfl, rfl, rfl⟩
 | i :: r, fr, h, o, fr', h', e => by
  simp only [xops] at e
  obtain ⟨w, e1, e⟩ := xo_some e
  simp only [wops]
  refine xwant_sound e1 ?_
  cases w with
  | true =>
   simp only [if_true] at e ⊢
   obtain ⟨⟨out, h1⟩, e2, e⟩ := xo_some e
   refine istep_mono (xstep_sound hc hT e2) ?_
   rintro o1 k1 ⟨rfl, rfl⟩
   cases o1 with
   | ret x =>
    obtain ⟨fr1, e3, e⟩ := xo_some e
    exact xput_sound (K := fun fr' => wops P G r fr' k1 _) e3 (xops_sound hc hT r e)
   | pan x => simp only [Option.some.injEq, Prod.mk.injEq] at e; obtain ⟨rfl, rfl, rfl⟩ := e; exact ⟨rfl, rfl, rfl⟩
  | false =>
   simp only [Bool.false_eq_true, if_false] at e ⊢
   obtain ⟨fr1, e3, e⟩ := xo_some e
   exact xput_sound e3 (xops_sound hc hT r e)
theorem xdstep_sound {call : XC} {ys ys' : XY} (hc : XOk P G call ys) (hn : ∀ a b c, ys' a b c = none) (hT : Tok' P T) {fr : Fr} {h : AH} {i : I} {x : AV} {h' : AH} (e : xstep P G T call ys' fr h i = some (.ret x, h')) {K : AV → AH → Prop} (k : K x h') : idstep P G fr h i K := by
 have hc : XOk P G call ys' := ⟨hc.c, fun b a c d e q => (by rw [hn] at q; cases q), hc.ck, fun b a c d e q => (by rw [hn] at q; cases q)⟩
 have gen : istep P G fr h i (outK K fun _ _ => False) := istep_mono (xstep_sound hc hT e) (by rintro o1 k1 ⟨rfl, rfl⟩; exact k)
 cases i with
 | call f xs =>
  simp only [xstep] at e
  obtain ⟨x', e1, e⟩ := xo_some e
  simp only [idstep, e1, wv_some]; exact ⟨x, h', hc.c _ _ _ _ _ e, k⟩
 | callv f xs =>
  simp only [xstep] at e
  obtain ⟨f', e1, e⟩ := xo_some e
  obtain ⟨x', e2, e⟩ := xo_some e
  simp only [idstep, e1, e2, wv_some]
  split at e
  ·obtain ⟨q, e3, e⟩ := xo_some e
   exact ⟨(hT _ _ e3).2, x, h', hc.c _ _ _ _ _ e, k⟩
  ·rw [hn] at e; cases e
  ·cases e
 | inv m r xs =>
  simp only [xstep] at e
  obtain ⟨r', e1, e⟩ := xo_some e
  obtain ⟨x', e2, e⟩ := xo_some e
  simp only [idstep, e1, e2, wv_some]
  split at e
  ·obtain ⟨g, e3, e⟩ := xo_some e
   simp only [e3, wv_some]
   exact ⟨x, h', hc.c _ _ _ _ _ e, k⟩
  ·cases e
 | gen o =>
  simp only [xstep] at e
  split at e
  ·rename_i hk
   cases hp : pop P G fr o with
   | none => rw [hp] at e; cases e
   | some y =>
    rw [hp] at e
    simp only [Option.map_some, Option.some.injEq, Prod.mk.injEq, AOut.ret.injEq] at e
    obtain ⟨rfl, rfl⟩ := e
    refine ⟨y, ?_, k⟩
    unfold astep
    rw [hk]
    simp only [hp, Option.map_some]
  ·cases e
 | _ => exact gen
theorem xdraw_sound {call : XC} {ys : XY} (hc : XOk P G call ys) (hT : Tok' P T) : ∀ (l : List IOp) {fr : Fr} {h : AH} {es : List DEnt} {fr' : Fr} {h' : AH} {es' : List DEnt}, xdraw P G T call ys l fr h es = some (fr', h', es') → wdraw P G l fr h es fun f k q => f = fr' ∧ k = h' ∧ q = es'
 | [], fr, h, es, fr', h', es', e => by simp only [xdraw, Option.some.injEq, Prod.mk.injEq] at e; obtain ⟨rfl, rfl, rfl⟩ := e; exact ⟨rfl, rfl, rfl⟩
 | i :: r, fr, h, es, fr', h', es', e => by
  simp only [xdraw] at e
  obtain ⟨w, e1, e⟩ := xo_some e
  simp only [wdraw]
  refine xwant_sound e1 ?_
  cases w with
  | true =>
   simp only [if_true] at e ⊢
   obtain ⟨⟨out, h1⟩, e2, e⟩ := xo_some e
   cases out with
   | ret x =>
    obtain ⟨fr1, e3, e⟩ := xo_some e
    exact xdstep_sound hc (fun _ _ _ => rfl) hT e2 (xput_sound e3 (xdraw_sound hc hT r e))
   | pan x => cases e
  | false =>
   simp only [Bool.false_eq_true, if_false] at e ⊢
   obtain ⟨fr1, e3, e⟩ := xo_some e
   exact xput_sound e3 (xdraw_sound hc hT r e)
theorem xdok_sound {pairs : List (Nat × Nat)} {es : List DEnt} (h : xdok pairs es = true) : drawOk pairs es := by
 simp only [xdok, Bool.and_eq_true, List.all_eq_true, decide_eq_true_eq] at h
 refine ⟨fun e he => ?_, fun p hp => ?_⟩
 ·obtain ⟨⟨h1, h2⟩, h3⟩ := h.1 e he
  refine ⟨h1, h2, fun ob q => ?_⟩
  rw [q] at h3; simpa using h3
 ·have := h.2 p hp
  unfold xpair at this
  unfold pairOk
  split at this
  ·rename_i ei ej e1 e2
   rw [e1, e2]
   intro q1 q2
   simp only [q1, q2, Bool.not_true, Bool.false_or, Bool.and_eq_true, Bool.or_eq_true, beq_iff_eq] at this
   obtain ⟨⟨h1, h2⟩, h3⟩ := this
   refine ⟨fun ob q => ?_, fun q => ?_, fun q => ?_⟩
   ·rw [q] at h1; exact eqObj_eq h1
   ·exact eqObj_eq (h2.resolve_left q)
   ·exact h3.resolve_left q
  ·rename_i hn
   split
   ·rename_i ei ej e1 e2; exact absurd e2 (hn ei ej e1)
   ·trivial
theorem xloop_iwp {a : IR} {body : Fr → AH → Option (AX × Fr × AH)} (hb : ∀ fr h x fr' h', body fr h = some (x, fr', h') → iwp P G a fr h fun q f k => q = x ∧ f = fr' ∧ k = h') {N : Nat} {fr : Fr} {h : AH} {x : AX} {fr' : Fr} {h' : AH} (e : xloop body N fr h = some (x, fr', h')) : iwp P G (.loop a) fr h fun q f k => q = x ∧ f = fr' ∧ k = h' := by
 refine ⟨fun n f k => xloop body n f k = some (x, fr', h'), ⟨N, fr, h, ⟨rfl, .inr ⟨rfl, rfl, rfl⟩, .inr ⟨rfl, rfl, rfl, rfl⟩⟩, e⟩, ?_⟩
 ·intro n fr1 h1 e
  cases n with
  | zero => cases e
  | succ n =>
   simp only [xloop] at e
   cases hq : body fr1 h1 with
   | none => rw [hq] at e; cases e
   | some p =>
    obtain ⟨y, fr2, h2⟩ := p
    rw [hq] at e
    refine iwp_mono a (hb _ _ _ _ _ hq) ?_
    rintro q f k ⟨rfl, rfl, rfl⟩
    cases q with
    | norm => exact ⟨n, f, k, Nat.lt_succ_self _, ⟨rfl, .inr ⟨rfl, rfl, rfl⟩, .inr ⟨rfl, rfl, rfl, rfl⟩⟩, e⟩
    | _ => simp only [Option.some.injEq, Prod.mk.injEq] at e; obtain ⟨rfl, rfl, rfl⟩ := e; exact ⟨rfl, rfl, rfl⟩
theorem xrun_sound {call : XC} {ys : XY} (hc : XOk P G call ys) (hT : Tok' P T) (N : Nat) : ∀ (ir : IR) {fr : Fr} {h : AH} {x : AX} {fr' : Fr} {h' : AH}, xrun P G T call ys N ir fr h = some (x, fr', h') → iwp P G ir fr h fun q f k => q = x ∧ f = fr' ∧ k = h'
 | .skip, fr, h, x, fr', h', e => by simp only [xrun, Option.some.injEq, Prod.mk.injEq] at e; obtain ⟨rfl, rfl, rfl⟩ := e; exact ⟨rfl, rfl, rfl⟩
 | .exit _, fr, h, x, fr', h', e => by simp only [xrun, Option.some.injEq, Prod.mk.injEq] at e; obtain ⟨rfl, rfl, rfl⟩ := e; exact ⟨rfl, rfl, rfl⟩
 | .ret, fr, h, x, fr', h', e => by simp only [xrun, Option.some.injEq, Prod.mk.injEq] at e; obtain ⟨rfl, rfl, rfl⟩ := e; exact ⟨rfl, rfl, rfl⟩
 | .reg l, fr, h, x, fr', h', e => by
  simp only [xrun] at e
  obtain ⟨⟨o, f1, h1⟩, e1, e⟩ := xo_some e
  refine wops_mono (Q := fun q f k => q = o ∧ f = f1 ∧ k = h1) (xops_sound hc hT l e1) ?_
  rintro q f k ⟨rfl, rfl, rfl⟩
  cases q <;> (simp only [Option.some.injEq, Prod.mk.injEq] at e; obtain ⟨rfl, rfl, rfl⟩ := e; exact ⟨rfl, rfl, rfl⟩)
 | .draw l pairs, fr, h, x, fr', h', e => by
  simp only [xrun] at e
  obtain ⟨⟨f1, h1, es⟩, e1, e⟩ := xo_some e
  simp only at e
  split at e
  ·rename_i hk
   simp only [Option.some.injEq, Prod.mk.injEq] at e; obtain ⟨rfl, rfl, rfl⟩ := e
   refine iwp_mono (.draw l pairs) (Q := fun q f k => q = .norm ∧ f = f1 ∧ k = h1) ?_ (by rintro q f k ⟨rfl, rfl, rfl⟩; exact ⟨rfl, rfl, rfl⟩)
   have := xdraw_sound hc hT l e1
   exact wdraw_mono l this fun f k q ⟨e1, e2, e3⟩ => by subst e1; subst e2; subst e3; exact ⟨xdok_sound hk, rfl, rfl, rfl⟩
  ·cases e
 | .drawP l pairs i, fr, h, x, fr', h', e => by
  simp only [xrun] at e
  obtain ⟨⟨f1, h1, es⟩, e1, e⟩ := xo_some e
  simp only at e
  split at e
  ·rename_i d tx f xs ho
   obtain ⟨ys', e2, e⟩ := xo_some e
   obtain ⟨⟨out, h2⟩, e3, e⟩ := xo_some e
   cases out with
   | pan y =>
    simp only at e
    split at e
    ·rename_i hk
     simp only [Option.some.injEq, Prod.mk.injEq] at e; obtain ⟨rfl, rfl, rfl⟩ := e
     refine .inr (wdraw_mono _ (xdraw_sound hc hT (l.take i) e1) fun f k q ⟨a1, a2, a3⟩ => ?_)
     subst a1; subst a2; subst a3
     refine ⟨xdok_sound hk, ?_⟩
     rw [ho]
     show wv (X.evs G _ _) _
     rw [e2]
     exact ⟨y, _, hc.c _ _ _ _ _ e3, rfl, rfl, rfl⟩
    ·cases e
   | ret y =>
    obtain ⟨⟨f3, h3, es3⟩, e4, e⟩ := xo_some e
    simp only at e
    split at e
    ·rename_i hk
     simp only [Option.some.injEq, Prod.mk.injEq] at e; obtain ⟨rfl, rfl, rfl⟩ := e
     refine .inl (wdraw_mono l (xdraw_sound hc hT l e4) fun f k q ⟨a1, a2, a3⟩ => ?_)
     subst a1; subst a2; subst a3
     exact ⟨xdok_sound hk, rfl, rfl, rfl⟩
    ·cases e
  ·cases e
 | .seq a b, fr, h, x, fr', h', e => by
  simp only [xrun] at e
  obtain ⟨⟨y, f1, h1⟩, e1, e⟩ := xo_some e
  refine iwp_mono a (xrun_sound hc hT N a e1) ?_
  rintro q f k ⟨rfl, rfl, rfl⟩
  cases q with
  | norm => exact xrun_sound hc hT N b e
  | _ => simp only [Option.some.injEq, Prod.mk.injEq] at e; obtain ⟨rfl, rfl, rfl⟩ := e; exact ⟨rfl, rfl, rfl⟩
 | .cond c a b, fr, h, x, fr', h', e => by
  simp only [xrun] at e
  obtain ⟨v, e1, e⟩ := xo_some e
  obtain ⟨t, e2, e⟩ := xo_some e
  simp only [iwp, e1, e2, wv_some]
  cases t with
  | true => simp only [if_true] at e; exact ⟨fun _ => xrun_sound hc hT N a e, fun q => (by cases q)⟩
  | false => simp only [Bool.false_eq_true, if_false] at e; exact ⟨fun q => (by cases q), fun _ => xrun_sound hc hT N b e⟩
 | .block id a, fr, h, x, fr', h', e => by
  simp only [xrun] at e
  obtain ⟨⟨y, f1, h1⟩, e1, e⟩ := xo_some e
  refine iwp_mono a (xrun_sound hc hT N a e1) ?_
  rintro q f k ⟨rfl, rfl, rfl⟩
  cases q with
  | exit j =>
   simp only [blockQ]
   simp only at e
   split at e
   ·rename_i hj; rw [if_pos hj]; simp only [Option.some.injEq, Prod.mk.injEq] at e; obtain ⟨rfl, rfl, rfl⟩ := e; exact ⟨rfl, rfl, rfl⟩
   ·rename_i hj; rw [if_neg hj]; simp only [Option.some.injEq, Prod.mk.injEq] at e; obtain ⟨rfl, rfl, rfl⟩ := e; exact ⟨rfl, rfl, rfl⟩
  | _ => simp only [Option.some.injEq, Prod.mk.injEq] at e; obtain ⟨rfl, rfl, rfl⟩ := e; exact ⟨rfl, rfl, rfl⟩
 | .loop a, fr, h, x, fr', h', e => xloop_iwp (fun fr h x fr' h' e => xrun_sound hc hT N a e) e
 | .bad, fr, h, x, fr', h', e => by cases e
 | .orc _, fr, h, x, fr', h', e => by cases e
 | .rng g ps ca cb a b, fr, h, x, fr', h', e => by
  simp only [xrun] at e
  obtain ⟨gv, e1, e⟩ := xo_some e
  simp only [iwp, e1, wv_some]
  split at e
  ·rename_i it cap
   obtain ⟨k, e2, e⟩ := xo_some e
   obtain ⟨⟨q, h1⟩, e3, e⟩ := xo_some e
   refine ⟨(hT _ _ e2).2, fun _ _ => (hc.c _ _ _ _ _ e3).mono ?_⟩
   rintro o1 k1 ⟨rfl, rfl⟩
   simp only at e
   cases o1 with
   | pan y => cases e
   | ret y =>
    simp only at e
    split at e
    ·rename_i fr1 st pe ps1 ca1 cb1 hg
     split at e
     ·cases e
     ·rename_i hst
      refine ⟨fr1, st, pe, ps1, ca1, cb1, hg, hst, ?_⟩
      cases pe with
      | none => simp only [Option.some.injEq, Prod.mk.injEq] at e; obtain ⟨rfl, rfl, rfl⟩ := e; exact ⟨rfl, rfl, rfl⟩
      | some c => cases c <;> simp only [Option.some.injEq, Prod.mk.injEq, reduceCtorEq] at e <;> obtain ⟨rfl, rfl, rfl⟩ := e <;> exact ⟨rfl, rfl, rfl⟩
    ·cases e
  ·cases e
 | .dfr _ _, fr, h, x, fr', h', e => by cases e
 | .rcv _ _, fr, h, x, fr', h', e => by cases e
theorem istore_kl {h : AH} {size : Nat} {p x : AV} {h' : AH} (e : istore h size p x = some h') : KL h h' := by
 unfold istore at e
 split at e
 ·split at e
  ·rename_i hg
   split at e
   ·cases e; exact KL.set fun _ _ _ _ _ _ q => by rw [hg] at q; cases q
   ·cases e
  ·cases e
 ·cases e
theorem imapup_kl {h : AH} {kind : TypeDesc} {m k x : AV} {h' : AH} (e : imapup h kind m k x = some h') : KL h h' := by
 unfold imapup at e
 split at e
 ·split at e
  ·rename_i hg
   split at e
   ·cases e; exact KL.set fun _ _ _ _ _ _ q => by rw [hg] at q; cases q
   ·cases e; exact KL.set fun _ _ _ _ _ _ q => by rw [hg] at q; cases q
   ·cases e
  ·cases e
 ·cases e
theorem iapp_kl {h : AH} {es bytes : Nat} {a b : AV} {y : AV} {h' : AH} (e : iapp h es bytes a b = some (y, h')) : KL h h' := by
 unfold iapp at e
 split at e
 ·split at e
  ·split at e
   ·cases e; exact KL.refl _
   ·split at e
    ·cases e; exact KL.pushTok _ _
    ·split at e
     ·cases e; exact KL.setTok _ _ _
     ·cases e
    ·cases e
  ·cases e
 ·cases e
theorem imks_kl {h : AH} {t : TypeId} {es bytes : Nat} {z : List AV} {l c : Int} {y : AV} {h' : AH} (e : imks h t es bytes z l c = some (y, h')) : KL h h' := by
 unfold imks at e
 split at e
 ·split at e
  ·cases e; exact KL.push _ _
  ·split at e
   ·cases e; exact KL.pushTok _ _
   ·cases e
 ·cases e
theorem xstep_kl {call : XC} {ys : XY} (hc : ∀ f args h o h', call f args h = some (o, h') → KL h h') (hy : ∀ b args h o h', ys b args h = some (o, h') → KL h h') {fr : Fr} {h : AH} {i : I} {o : AOut} {h' : AH} (e : xstep P G T call ys fr h i = some (o, h')) : KL h h' := by
 cases i with
 | gen o =>
  simp only [xstep] at e
  split at e
  ·cases hp : pop P G fr o with
   | none => rw [hp] at e; cases e
   | some x =>
    rw [hp] at e
    simp only [Option.map_some, Option.some.injEq, Prod.mk.injEq] at e
    obtain ⟨rfl, rfl⟩ := e
    exact KL.refl _
  ·cases e
 | call f xs =>
  simp only [xstep] at e
  obtain ⟨_, _, e⟩ := xo_some e
  exact hc _ _ _ _ _ e
 | callv f xs =>
  simp only [xstep] at e
  obtain ⟨_, _, e⟩ := xo_some e
  obtain ⟨_, _, e⟩ := xo_some e
  split at e
  ·obtain ⟨_, _, e⟩ := xo_some e; exact hc _ _ _ _ _ e
  ·exact hy _ _ _ _ _ e
  ·cases e
 | inv m r xs =>
  simp only [xstep] at e
  obtain ⟨_, _, e⟩ := xo_some e
  obtain ⟨_, _, e⟩ := xo_some e
  split at e
  ·obtain ⟨_, _, e⟩ := xo_some e; exact hc _ _ _ _ _ e
  ·cases e
 | store size p x =>
  simp only [xstep] at e
  obtain ⟨_, _, e⟩ := xo_some e
  obtain ⟨_, _, e⟩ := xo_some e
  obtain ⟨_, e1, e⟩ := xo_some e
  cases e; exact istore_kl e1
 | mapup kind m k x =>
  simp only [xstep] at e
  obtain ⟨_, _, e⟩ := xo_some e
  obtain ⟨_, _, e⟩ := xo_some e
  obtain ⟨_, _, e⟩ := xo_some e
  obtain ⟨_, e1, e⟩ := xo_some e
  cases e; exact imapup_kl e1
 | app es bytes a b =>
  simp only [xstep] at e
  obtain ⟨_, _, e⟩ := xo_some e
  obtain ⟨_, _, e⟩ := xo_some e
  obtain ⟨p, e1, e⟩ := xo_some e
  cases e; exact iapp_kl e1
 | mks e1 es bytes z l c =>
  simp only [xstep] at e
  obtain ⟨_, _, e⟩ := xo_some e
  obtain ⟨_, _, e⟩ := xo_some e
  obtain ⟨_, _, e⟩ := xo_some e
  obtain ⟨_, _, e⟩ := xo_some e
  obtain ⟨p, e1, e⟩ := xo_some e
  cases e; exact imks_kl e1
 | box t x =>
  simp only [xstep] at e
  obtain ⟨_, _, e⟩ := xo_some e
  split at e
  ·cases e; exact KL.push _ _
  ·cases e
 | alloc t cs => simp only [xstep] at e; cases e; exact KL.push _ _
 | mkmap => simp only [xstep] at e; cases e; exact KL.push _ _
 | bsl n es z ps =>
  simp only [xstep] at e
  obtain ⟨_, _, e⟩ := xo_some e
  split at e
  ·cases e; exact KL.pushTok _ _
  ·cases e
 | _ =>
  simp only [xstep, xo] at e
  (repeat' split at e) <;> first | (injection e with e1; injection e1 with e2 e3; subst e3; exact KL.refl _) | cases e
theorem xops_kl {call : XC} {ys : XY} (hc : ∀ f args h o h', call f args h = some (o, h') → KL h h') (hy : ∀ b args h o h', ys b args h = some (o, h') → KL h h') : ∀ (l : List IOp) {fr : Fr} {h : AH} {o : Option AV} {fr' : Fr} {h' : AH}, xops P G T call ys l fr h = some (o, fr', h') → KL h h'
 | [], fr, h, o, fr', h', e => by simp only [xops, Option.some.injEq, Prod.mk.injEq] at e; obtain ⟨rfl, rfl, rfl⟩ := e; exact KL.refl _
 | i :: r, fr, h, o, fr', h', e => by
  simp only [xops] at e
  obtain ⟨w, e1, e⟩ := xo_some e
  cases w with
  | true =>
   simp only [if_true] at e
   obtain ⟨⟨out, h1⟩, e2, e⟩ := xo_some e
   have k := xstep_kl hc hy e2
   cases out with
   | ret x => obtain ⟨fr1, e3, e⟩ := xo_some e; exact k.trans (xops_kl hc hy r e)
   | pan x => simp only [Option.some.injEq, Prod.mk.injEq] at e; obtain ⟨rfl, rfl, rfl⟩ := e; exact k
  | false =>
   simp only [Bool.false_eq_true, if_false] at e
   obtain ⟨fr1, e3, e⟩ := xo_some e
   exact xops_kl hc hy r e
theorem xdraw_kl {call : XC} {ys : XY} (hc : ∀ f args h o h', call f args h = some (o, h') → KL h h') : ∀ (l : List IOp) {fr : Fr} {h : AH} {es : List DEnt} {fr' : Fr} {h' : AH} {es' : List DEnt}, xdraw P G T call ys l fr h es = some (fr', h', es') → KL h h'
 | [], fr, h, es, fr', h', es', e => by simp only [xdraw, Option.some.injEq, Prod.mk.injEq] at e; obtain ⟨rfl, rfl, rfl⟩ := e; exact KL.refl _
 | i :: r, fr, h, es, fr', h', es', e => by
  simp only [xdraw] at e
  obtain ⟨w, e1, e⟩ := xo_some e
  cases w with
  | true =>
   simp only [if_true] at e
   obtain ⟨⟨out, h1⟩, e2, e⟩ := xo_some e
   have k := xstep_kl hc (fun _ _ _ _ _ q => by cases q) e2
   cases out with
   | ret x => obtain ⟨fr1, e3, e⟩ := xo_some e; exact k.trans (xdraw_kl hc r e)
   | pan x => cases e
  | false =>
   simp only [Bool.false_eq_true, if_false] at e
   obtain ⟨fr1, e3, e⟩ := xo_some e
   exact xdraw_kl hc r e
theorem xloop_kl {body : Fr → AH → Option (AX × Fr × AH)} (hb : ∀ fr h x fr' h', body fr h = some (x, fr', h') → KL h h') : ∀ (N : Nat) {fr : Fr} {h : AH} {x : AX} {fr' : Fr} {h' : AH}, xloop body N fr h = some (x, fr', h') → KL h h'
 | 0, fr, h, x, fr', h', e => by cases e
 | n + 1, fr, h, x, fr', h', e => by
  simp only [xloop] at e
  cases hq : body fr h with
  | none => rw [hq] at e; cases e
  | some p =>
   obtain ⟨y, fr2, h2⟩ := p
   rw [hq] at e
   have k := hb _ _ _ _ _ hq
   cases y with
   | norm => exact k.trans (xloop_kl hb n e)
   | _ => simp only [Option.some.injEq, Prod.mk.injEq] at e; obtain ⟨rfl, rfl, rfl⟩ := e; exact k
theorem xrun_kl {call : XC} {ys : XY} (hc : ∀ f args h o h', call f args h = some (o, h') → KL h h') (hy : ∀ b args h o h', ys b args h = some (o, h') → KL h h') (N : Nat) : ∀ (ir : IR) {fr : Fr} {h : AH} {x : AX} {fr' : Fr} {h' : AH}, xrun P G T call ys N ir fr h = some (x, fr', h') → KL h h'
 | .skip, fr, h, x, fr', h', e => by simp only [xrun, Option.some.injEq, Prod.mk.injEq] at e; obtain ⟨rfl, rfl, rfl⟩ := e; exact KL.refl _
 | .exit _, fr, h, x, fr', h', e => by simp only [xrun, Option.some.injEq, Prod.mk.injEq] at e; obtain ⟨rfl, rfl, rfl⟩ := e; exact KL.refl _
 | .ret, fr, h, x, fr', h', e => by simp only [xrun, Option.some.injEq, Prod.mk.injEq] at e; obtain ⟨rfl, rfl, rfl⟩ := e; exact KL.refl _
 | .reg l, fr, h, x, fr', h', e => by
  simp only [xrun] at e
  obtain ⟨⟨o, f1, h1⟩, e1, e⟩ := xo_some e
  have k := xops_kl hc hy l e1
  cases o <;> (simp only [Option.some.injEq, Prod.mk.injEq] at e; obtain ⟨rfl, rfl, rfl⟩ := e; exact k)
 | .draw l pairs, fr, h, x, fr', h', e => by
  simp only [xrun] at e
  obtain ⟨⟨f1, h1, es⟩, e1, e⟩ := xo_some e
  have k := xdraw_kl hc l e1
  simp only at e
  split at e
  ·simp only [Option.some.injEq, Prod.mk.injEq] at e; obtain ⟨rfl, rfl, rfl⟩ := e; exact k
  ·cases e
 | .drawP l pairs i, fr, h, x, fr', h', e => by
  simp only [xrun] at e
  obtain ⟨⟨f1, h1, es⟩, e1, e⟩ := xo_some e
  have k := xdraw_kl hc _ e1
  simp only at e
  split at e
  ·obtain ⟨ys', e2, e⟩ := xo_some e
   obtain ⟨⟨out, h2⟩, e3, e⟩ := xo_some e
   cases out with
   | pan y =>
    simp only at e
    split at e
    ·simp only [Option.some.injEq, Prod.mk.injEq] at e; obtain ⟨rfl, rfl, rfl⟩ := e
     exact k.trans (hc _ _ _ _ _ e3)
    ·cases e
   | ret y =>
    obtain ⟨⟨f3, h3, es3⟩, e4, e⟩ := xo_some e
    have k := xdraw_kl hc _ e4
    simp only at e
    split at e
    ·simp only [Option.some.injEq, Prod.mk.injEq] at e; obtain ⟨rfl, rfl, rfl⟩ := e; exact k
    ·cases e
  ·cases e
 | .seq a b, fr, h, x, fr', h', e => by
  simp only [xrun] at e
  obtain ⟨⟨y, f1, h1⟩, e1, e⟩ := xo_some e
  have k := xrun_kl hc hy N a e1
  cases y with
  | norm => exact k.trans (xrun_kl hc hy N b e)
  | _ => simp only [Option.some.injEq, Prod.mk.injEq] at e; obtain ⟨rfl, rfl, rfl⟩ := e; exact k
 | .cond c a b, fr, h, x, fr', h', e => by
  simp only [xrun] at e
  obtain ⟨v, e1, e⟩ := xo_some e
  obtain ⟨t, e2, e⟩ := xo_some e
  cases t with
  | true => simp only [if_true] at e; exact xrun_kl hc hy N a e
  | false => simp only [Bool.false_eq_true, if_false] at e; exact xrun_kl hc hy N b e
 | .block id a, fr, h, x, fr', h', e => by
  simp only [xrun] at e
  obtain ⟨⟨y, f1, h1⟩, e1, e⟩ := xo_some e
  have k := xrun_kl hc hy N a e1
  cases y with
  | exit j =>
   simp only at e
   split at e <;> (simp only [Option.some.injEq, Prod.mk.injEq] at e; obtain ⟨rfl, rfl, rfl⟩ := e; exact k)
  | _ => simp only [Option.some.injEq, Prod.mk.injEq] at e; obtain ⟨rfl, rfl, rfl⟩ := e; exact k
 | .loop a, fr, h, x, fr', h', e => xloop_kl (fun fr h x fr' h' e => xrun_kl hc hy N a e) N e
 | .rng g ps ca cb a b, fr, h, x, fr', h', e => by
  simp only [xrun] at e
  obtain ⟨gv, e1, e⟩ := xo_some e
  split at e
  ·obtain ⟨k, e2, e⟩ := xo_some e
   obtain ⟨⟨q, h1⟩, e3, e⟩ := xo_some e
   have k1 := hc _ _ _ _ _ e3
   have fin : KL h (h1.set h.next .dead) := by
    refine ⟨Nat.le_trans (Nat.le_succ _) k1.1, fun o fr st pe ps ca cb hl hg => ?_⟩
    obtain ⟨st', pe', hh⟩ := k1.2 o fr st pe ps ca cb (Nat.lt_succ_of_lt hl) (by rw [AH.get_push, if_neg (by omega)]; exact hg)
    exact ⟨st', pe', by rw [AH.get_set, if_neg (by omega)]; exact hh⟩
   cases q with
   | pan y => cases e
   | ret y =>
    simp only at e
    split at e
    ·rename_i fr1 st pe ps1 ca1 cb1 hg
     split at e
     ·cases e
     ·cases pe with
      | none => simp only [Option.some.injEq, Prod.mk.injEq] at e; obtain ⟨rfl, rfl, rfl⟩ := e; exact fin
      | some c => cases c <;> simp only [Option.some.injEq, Prod.mk.injEq, reduceCtorEq] at e <;> obtain ⟨rfl, rfl, rfl⟩ := e <;> exact fin
    ·cases e
  ·cases e
 | .bad, fr, h, x, fr', h', e => by cases e
 | .orc _, fr, h, x, fr', h', e => by cases e
 | .dfr _ _, fr, h, x, fr', h', e => by cases e
 | .rcv _ _, fr, h, x, fr', h', e => by cases e
theorem xround_both (hmix : P.follows .mixedOrders = true) {call : XC} {ys : XY} (hc : XOk P G call ys) (hT : Tok' P T) {N o : Nat} {args : List AV} {h : AH} {out : AOut} {h' : AH} (e : xround P G T call ys N o args h = some (out, h')) : CALLY P G o args h (fun q k => q = out ∧ k = h') ∧ KL h h' := by
 unfold xround at e
 split at e
 ·rename_i fr0 ps0 ca cb hob
  split at e
  ·rename_i hcnd
   obtain ⟨hlen, hps, hlt⟩ := hcnd
   split at e
   ·rename_i fr2 h2 e1
    have k1 := xrun_kl hc.ck hc.yk N _ e1
    have s1 := xrun_sound hc hT N _ e1
    split at e
    ·rename_i fr0' ps0' ca' cb' hg2
     obtain ⟨st2, pe2, hg2'⟩ := k1.2 o _ _ _ _ _ _ hlt hob
     rw [hg2] at hg2'
     cases hg2'
     obtain ⟨⟨x, fr3, h3⟩, e2, e⟩ := xo_some e
     have k2 := xrun_kl hc.ck hc.yk N _ e2
     have s2 := xrun_sound hc hT N _ e2
     have hlt2 : o < h2.next := Nat.lt_of_lt_of_le hlt k1.1
     obtain ⟨st3, pe3, hg3'⟩ := k2.2 o fr0 .busy none ps0 ca cb hlt2 (by rw [AH.get_set, if_pos rfl])
     have k3 : KL h h3 := (k1.trans (KL.setLoop hg2)).trans k2
     simp only at e
     unfold xend at e
     split at e
     ·rename_i fr4 ps4 ca4 cb4 hg3
      rw [hg3] at hg3'
      cases hg3'
      have fin : ∀ st pe, KL h (h3.set o (.loop fr0 st pe ps0 ca cb)) := fun st pe => k3.trans (KL.setLoop hg3)
      refine ⟨CALLY.of_wp hob hlen (fun p hp => by simpa using List.all_eq_true.1 hps p hp) ?_, ?_⟩
      ·refine (iwp_sound hmix ca false s1).mono ?_
       rintro q f k ⟨rfl, rfl, rfl⟩
       refine ⟨hg2, (iwp_sound hmix cb false s2).mono ?_⟩
       rintro q f k ⟨rfl, rfl, rfl⟩
       cases q with
       | norm => simp only [Option.some.injEq, Prod.mk.injEq] at e; obtain ⟨rfl, rfl⟩ := e; exact ⟨hg3, _, _, .inr ⟨rfl, rfl, rfl, rfl⟩, SubB.v, rfl, rfl⟩
       | ret => simp only [Option.some.injEq, Prod.mk.injEq] at e; obtain ⟨rfl, rfl⟩ := e; exact ⟨hg3, _, _, .inr ⟨rfl, rfl, rfl, rfl⟩, SubB.v, rfl, rfl⟩
       | exit i => simp only [Option.some.injEq, Prod.mk.injEq] at e; obtain ⟨rfl, rfl⟩ := e; exact ⟨hg3, _, _, .inr ⟨rfl, rfl, rfl, rfl⟩, SubB.v, rfl, rfl⟩
       | pan y => cases e
      ·cases x with
       | pan y => cases e
       | _ => simp only [Option.some.injEq, Prod.mk.injEq] at e; obtain ⟨rfl, rfl⟩ := e; exact fin _ _
     ·cases e
    ·cases e
   ·cases e
  ·cases e
 ·cases e
def xrunD (P : Program) (G : Nat → Option (List AV)) (T : FuncId → Option IFn) (call : XC) (ys : XY) (N : Nat) : IR → List AV → Fr → AH → Option (List AV × AX × Fr × AH)
 | .seq a b, ds, fr, h => xo (xrunD P G T call ys N a ds fr h) fun p => match p.2.1 with
  | .norm => xrunD P G T call ys N b p.1 p.2.2.1 p.2.2.2
  | x => some (p.1, x, p.2.2.1, p.2.2.2)
 | .dfr l x, ds, fr, h => xo (xops P G T call ys l fr h) fun p => match p.1 with
  | none => xo (x.ev G p.2.1) fun g => match g with
   | .fn (.func g) [] cap => xo (T g) fun _ => some (.fn (.func g) [] cap :: ds, .norm, p.2.1, p.2.2)
   | _ => none
  | some y => some (ds, .pan y, p.2.1, p.2.2)
 | a, ds, fr, h => xo (xrun P G T call ys N a fr h) fun p => some (ds, p.1, p.2.1, p.2.2)
theorem xrunD_sound {call : XC} {ys : XY} (hc : XOk P G call ys) (hT : Tok' P T) (N : Nat) : ∀ (ir : IR) {ds : List AV} {fr : Fr} {h : AH} {ds' : List AV} {x : AX} {fr' : Fr} {h' : AH}, xrunD P G T call ys N ir ds fr h = some (ds', x, fr', h') → iwpD P G ir ds fr h fun d q f k => d = ds' ∧ q = x ∧ f = fr' ∧ k = h'
 | .seq a b, ds, fr, h, ds', x, fr', h', e => by
  simp only [xrunD] at e
  obtain ⟨⟨d1, y, f1, h1⟩, e1, e⟩ := xo_some e
  refine iwpD_mono a (xrunD_sound hc hT N a e1) ?_
  rintro d q f k ⟨rfl, rfl, rfl, rfl⟩
  cases q with
  | norm => exact xrunD_sound hc hT N b e
  | _ => simp only [Option.some.injEq, Prod.mk.injEq] at e; obtain ⟨rfl, rfl, rfl, rfl⟩ := e; exact ⟨rfl, rfl, rfl, rfl⟩
 | .dfr l x, ds, fr, h, ds', y, fr', h', e => by
  simp only [xrunD] at e
  obtain ⟨⟨o, f1, h1⟩, e1, e⟩ := xo_some e
  refine wops_mono (xops_sound hc hT l e1) ?_
  rintro q f k ⟨rfl, rfl, rfl⟩
  cases q with
  | none =>
   obtain ⟨g, e2, e⟩ := xo_some e
   show wv (x.ev G f) _
   rw [e2]
   simp only [wv_some]
   split at e
   ·obtain ⟨kk, e3, e⟩ := xo_some e
    simp only [Option.some.injEq, Prod.mk.injEq] at e; obtain ⟨rfl, rfl, rfl, rfl⟩ := e
    exact ⟨(hT _ _ e3).2, rfl, rfl, rfl, rfl⟩
   ·cases e
  | some p => simp only [Option.some.injEq, Prod.mk.injEq] at e; obtain ⟨rfl, rfl, rfl, rfl⟩ := e; exact ⟨rfl, rfl, rfl, rfl⟩
 | .bad, ds, fr, h, ds', x, fr', h', e => by cases e
 | .rcv _ _, ds, fr, h, ds', x, fr', h', e => by cases e
 | .skip, ds, fr, h, ds', x, fr', h', e => by
  obtain ⟨p, e1, e⟩ := xo_some e; cases e
  exact iwp_mono .skip (xrun_sound hc hT N .skip e1) fun q f k ⟨h1, h2, h3⟩ => ⟨rfl, h1, h2, h3⟩
 | .exit i, ds, fr, h, ds', x, fr', h', e => by
  obtain ⟨p, e1, e⟩ := xo_some e; cases e
  exact iwp_mono (.exit i) (xrun_sound hc hT N (.exit i) e1) fun q f k ⟨h1, h2, h3⟩ => ⟨rfl, h1, h2, h3⟩
 | .ret, ds, fr, h, ds', x, fr', h', e => by
  obtain ⟨p, e1, e⟩ := xo_some e; cases e
  exact iwp_mono .ret (xrun_sound hc hT N .ret e1) fun q f k ⟨h1, h2, h3⟩ => ⟨rfl, h1, h2, h3⟩
 | .reg l, ds, fr, h, ds', x, fr', h', e => by
  obtain ⟨p, e1, e⟩ := xo_some e; cases e
  exact iwp_mono (.reg l) (xrun_sound hc hT N (.reg l) e1) fun q f k ⟨h1, h2, h3⟩ => ⟨rfl, h1, h2, h3⟩
 | .draw l q, ds, fr, h, ds', x, fr', h', e => by
  obtain ⟨p, e1, e⟩ := xo_some e; cases e
  exact iwp_mono (.draw l q) (xrun_sound hc hT N (.draw l q) e1) fun q f k ⟨h1, h2, h3⟩ => ⟨rfl, h1, h2, h3⟩
 | .drawP l q i, ds, fr, h, ds', x, fr', h', e => by
  obtain ⟨p, e1, e⟩ := xo_some e; cases e
  exact iwp_mono (.drawP l q i) (xrun_sound hc hT N (.drawP l q i) e1) fun q f k ⟨h1, h2, h3⟩ => ⟨rfl, h1, h2, h3⟩
 | .cond c a b, ds, fr, h, ds', x, fr', h', e => by
  obtain ⟨p, e1, e⟩ := xo_some e; cases e
  exact iwp_mono (.cond c a b) (xrun_sound hc hT N (.cond c a b) e1) fun q f k ⟨h1, h2, h3⟩ => ⟨rfl, h1, h2, h3⟩
 | .block i a, ds, fr, h, ds', x, fr', h', e => by
  obtain ⟨p, e1, e⟩ := xo_some e; cases e
  exact iwp_mono (.block i a) (xrun_sound hc hT N (.block i a) e1) fun q f k ⟨h1, h2, h3⟩ => ⟨rfl, h1, h2, h3⟩
 | .loop a, ds, fr, h, ds', x, fr', h', e => by
  obtain ⟨p, e1, e⟩ := xo_some e; cases e
  exact iwp_mono (.loop a) (xrun_sound hc hT N (.loop a) e1) fun q f k ⟨h1, h2, h3⟩ => ⟨rfl, h1, h2, h3⟩
 | .rng y ps ca cb a b, ds, fr, h, ds', x, fr', h', e => by
  obtain ⟨p, e1, e⟩ := xo_some e; cases e
  exact iwp_mono (.rng y ps ca cb a b) (xrun_sound hc hT N (.rng y ps ca cb a b) e1) fun q f k ⟨h1, h2, h3⟩ => ⟨rfl, h1, h2, h3⟩
 | .orc a, ds, fr, h, ds', x, fr', h', e => by
  obtain ⟨p, e1, e⟩ := xo_some e; cases e1
def xdefer (P : Program) (G : Nat → Option (List AV)) (T : FuncId → Option IFn) (R : FuncId → Bool) (call : XC) (ys : XY) (N : Nat) (g : FuncId) (args : List AV) (m : Option AV) (h : AH) : Option AH :=
 xo (T g) fun k => if R g then match k.rs, k.ir with
  | [], .seq (.rcv d ms) b => if noRng b && decide (d < max args.length k.n) && ms.all (fun p => decide (p.1 < max args.length k.n)) then xo (xrun P G T call ys N b (setmv ((Fr.ofArgs k.n args).set d (rvOf m)) ms) h) fun p => match p.1 with
    | .norm | .ret => some p.2.2
    | _ => none
   else none
  | _, _ => none
  else none
def xleave (P : Program) (G : Nat → Option (List AV)) (T : FuncId → Option IFn) (R : FuncId → Bool) (call : XC) (ys : XY) (N : Nat) (rs : List IRes) (fr : Fr) : List AV → Option AV → AH → Option (AOut × AH)
 | [], none, h => xo (iress fr h rs) fun xs => if AV.low h.next h.tnext (aret xs) then some (.ret (aret xs), h) else none
 | [], some x, h => if AV.low h.next h.tnext x then some (.pan x, h) else none
 | .fn (.func g) [] cap :: ds, m, h => xo (T g) fun _ => xo (xdefer P G T R call ys N g cap m h) fun h' => xleave P G T R call ys N rs fr ds none h'
 | _ :: _, _, _ => none
def xcall1 (P : Program) (G : Nat → Option (List AV)) (T : FuncId → Option IFn) (R : FuncId → Bool) (S : FuncId → Option (List AV → AH → Option (AOut × AH))) (N : Nat) (call : XC) (ys : XY) (f : FuncId) (args : List AV) (h : AH) : Option (AOut × AH) :=
 match S f with
 | some s => s args h
 | none => xo (T f) fun k => xo (xrunD P G T call ys N k.ir [] (Fr.ofArgs k.n args) h) fun p => match p.2.1 with
  | .norm | .ret => xleave P G T R call ys N k.rs p.2.2.1 p.1 none p.2.2.2
  | .pan v => xleave P G T R call ys N k.rs p.2.2.1 p.1 (some v) p.2.2.2
  | _ => none
def xboth (P : Program) (G : Nat → Option (List AV)) (T : FuncId → Option IFn) (R : FuncId → Bool) (S : FuncId → Option (List AV → AH → Option (AOut × AH))) (N : Nat) : Nat → XC × XY
 | 0 => (fun _ _ _ => none, fun _ _ _ => none)
 | n + 1 => (fun f args h => xcall1 P G T R S N (xboth P G T R S N n).1 (xboth P G T R S N n).2 f args h, fun o args h => xround P G T (xboth P G T R S N n).1 (xboth P G T R S N n).2 N o args h)
def xcall (P : Program) (G : Nat → Option (List AV)) (T : FuncId → Option IFn) (R : FuncId → Bool) (S : FuncId → Option (List AV → AH → Option (AOut × AH))) (N n : Nat) : XC := (xboth P G T R S N n).1
def Sok (P : Program) (G : Nat → Option (List AV)) (S : FuncId → Option (List AV → AH → Option (AOut × AH))) : Prop := ∀ f s, S f = some s → ∀ args h o h', s args h = some (o, h') → CALL P G f args h fun q k => q = o ∧ k = h'
def Sk (S : FuncId → Option (List AV → AH → Option (AOut × AH))) : Prop := ∀ f s, S f = some s → ∀ args h o h', s args h = some (o, h') → KL h h'
def Rok (P : Program) (R : FuncId → Bool) : Prop := ∀ g, R g = true → recShape P g = true
theorem DropW.refl {a b : AH} : DropW a b b := .inr ⟨rfl, rfl, rfl, rfl⟩
theorem xdefer_sound (hmix : P.follows .mixedOrders = true) {Rv : FuncId → Bool} {call : XC} {ys : XY} (hc : XOk P G call ys) (hT : Tok' P T) (hR : Rok P Rv) {N : Nat} {g : FuncId} {args : List AV} {m : Option AV} {h h' : AH} (e : xdefer P G T Rv call ys N g args m h = some h') : CALLD P G g args m h fun m' k => m' = none ∧ k = h' := by
 unfold xdefer at e
 obtain ⟨k, e1, e⟩ := xo_some e
 split at e
 rotate_left
 ·cases e
 rename_i hrg
 split at e
 rotate_left
 ·cases e
 rename_i d ms b hrs hir
 split at e
 rotate_left
 ·cases e
 rename_i hcond
 simp only [Bool.and_eq_true, decide_eq_true_eq, List.all_eq_true] at hcond
 obtain ⟨⟨y, f2, h2⟩, e2, e⟩ := xo_some e
 have hk : k = ⟨k.n, [], .seq (.rcv d ms) b⟩ := by
  obtain ⟨n, rs, ir⟩ := k
  simp only at hrs hir
  rw [hrs, hir]
 refine CALLD.of_rec hmix (hR g hrg) ((hT g k e1).1.trans (congrArg some hk)) hcond.1.1 hcond.1.2 (fun p hp => hcond.2 p hp) (iwp_mono b (xrun_sound hc hT N b e2) ?_)
 rintro q f kk ⟨rfl, rfl, rfl⟩
 cases q with
 | norm => simp only [Option.some.injEq] at e; subst e; exact ⟨_, DropW.refl, rfl, rfl⟩
 | ret => simp only [Option.some.injEq] at e; subst e; exact ⟨_, DropW.refl, rfl, rfl⟩
 | _ => cases e
theorem xleave_sound (hmix : P.follows .mixedOrders = true) {Rv : FuncId → Bool} {call : XC} {ys : XY} (hc : XOk P G call ys) (hT : Tok' P T) (hR : Rok P Rv) {N : Nat} {rs : List IRes} {h0 : AH} {fr : Fr} : ∀ (ds : List AV) (m : Option AV) {h : AH} {o : AOut} {h' : AH}, xleave P G T Rv call ys N rs fr ds m h = some (o, h') → ileave P G rs h0 (fun q k => q = o ∧ k = h') fr ds m h
 | [], none, h, o, h', e => by
  simp only [xleave] at e
  obtain ⟨xs, e1, e⟩ := xo_some e
  split at e
  ·rename_i hl
   simp only [Option.some.injEq, Prod.mk.injEq] at e; obtain ⟨rfl, rfl⟩ := e
   show wv (iress fr h rs) _
   rw [e1]; exact ⟨_, _, DropW.refl, SubB.low hl, rfl, rfl⟩
  ·cases e
 | [], some x, h, o, h', e => by
  simp only [xleave] at e
  split at e
  ·rename_i hl
   simp only [Option.some.injEq, Prod.mk.injEq] at e; obtain ⟨rfl, rfl⟩ := e
   exact ⟨_, _, DropW.refl, SubB.low hl, rfl, rfl⟩
  ·cases e
 | d :: ds, m, h, o, h', e => by
  cases d with
  | fn g first cap =>
   cases g with
   | func g =>
    cases first with
    | nil =>
     simp only [xleave] at e
     obtain ⟨k, e1, e⟩ := xo_some e
     obtain ⟨h1, e2, e⟩ := xo_some e
     refine ⟨(hT g k e1).2, fun B0 μ w vs u r hv pm => (xdefer_sound hmix hc hT hR e2 B0 μ w vs u r hv pm).mono ?_⟩
     rintro e u' w' ⟨v, e1, m', k', ⟨rfl, rfl⟩, rest⟩
     exact ⟨v, e1, none, k', xleave_sound hmix hc hT hR ds none e, rest⟩
    | cons x xs => cases e
   | _ => cases e
  | _ => cases e
theorem xrunD_kl {call : XC} {ys : XY} (hc : ∀ f args h o h', call f args h = some (o, h') → KL h h') (hy : ∀ b args h o h', ys b args h = some (o, h') → KL h h') (N : Nat) : ∀ (ir : IR) {ds : List AV} {fr : Fr} {h : AH} {ds' : List AV} {x : AX} {fr' : Fr} {h' : AH}, xrunD P G T call ys N ir ds fr h = some (ds', x, fr', h') → KL h h'
 | .seq a b, ds, fr, h, ds', x, fr', h', e => by
  simp only [xrunD] at e
  obtain ⟨⟨d1, y, f1, h1⟩, e1, e⟩ := xo_some e
  have k := xrunD_kl hc hy N a e1
  cases y with
  | norm => exact k.trans (xrunD_kl hc hy N b e)
  | _ => simp only [Option.some.injEq, Prod.mk.injEq] at e; obtain ⟨rfl, rfl, rfl, rfl⟩ := e; exact k
 | .dfr l x, ds, fr, h, ds', y, fr', h', e => by
  simp only [xrunD] at e
  obtain ⟨⟨o, f1, h1⟩, e1, e⟩ := xo_some e
  have k := xops_kl hc hy l e1
  cases o with
  | none =>
   obtain ⟨g, e2, e⟩ := xo_some e
   split at e
   ·obtain ⟨kk, e3, e⟩ := xo_some e
    simp only [Option.some.injEq, Prod.mk.injEq] at e; obtain ⟨rfl, rfl, rfl, rfl⟩ := e; exact k
   ·cases e
  | some p => simp only [Option.some.injEq, Prod.mk.injEq] at e; obtain ⟨rfl, rfl, rfl, rfl⟩ := e; exact k
 | .bad, ds, fr, h, ds', x, fr', h', e => by cases e
 | .rcv _ _, ds, fr, h, ds', x, fr', h', e => by cases e
 | .skip, ds, fr, h, ds', x, fr', h', e => by obtain ⟨p, e1, e⟩ := xo_some e; cases e; exact xrun_kl hc hy N _ e1
 | .exit i, ds, fr, h, ds', x, fr', h', e => by obtain ⟨p, e1, e⟩ := xo_some e; cases e; exact xrun_kl hc hy N _ e1
 | .ret, ds, fr, h, ds', x, fr', h', e => by obtain ⟨p, e1, e⟩ := xo_some e; cases e; exact xrun_kl hc hy N _ e1
 | .reg l, ds, fr, h, ds', x, fr', h', e => by obtain ⟨p, e1, e⟩ := xo_some e; cases e; exact xrun_kl hc hy N _ e1
 | .draw l q, ds, fr, h, ds', x, fr', h', e => by obtain ⟨p, e1, e⟩ := xo_some e; cases e; exact xrun_kl hc hy N _ e1
 | .drawP l q i, ds, fr, h, ds', x, fr', h', e => by obtain ⟨p, e1, e⟩ := xo_some e; cases e; exact xrun_kl hc hy N _ e1
 | .cond c a b, ds, fr, h, ds', x, fr', h', e => by obtain ⟨p, e1, e⟩ := xo_some e; cases e; exact xrun_kl hc hy N _ e1
 | .block i a, ds, fr, h, ds', x, fr', h', e => by obtain ⟨p, e1, e⟩ := xo_some e; cases e; exact xrun_kl hc hy N _ e1
 | .loop a, ds, fr, h, ds', x, fr', h', e => by obtain ⟨p, e1, e⟩ := xo_some e; cases e; exact xrun_kl hc hy N _ e1
 | .rng y ps ca cb a b, ds, fr, h, ds', x, fr', h', e => by obtain ⟨p, e1, e⟩ := xo_some e; cases e; exact xrun_kl hc hy N _ e1
 | .orc a, ds, fr, h, ds', x, fr', h', e => by obtain ⟨p, e1, e⟩ := xo_some e; cases e1
theorem xdefer_kl {Rv : FuncId → Bool} {call : XC} {ys : XY} (hc : ∀ f args h o h', call f args h = some (o, h') → KL h h') (hy : ∀ b args h o h', ys b args h = some (o, h') → KL h h') {N : Nat} {g : FuncId} {args : List AV} {m : Option AV} {h h' : AH} (e : xdefer P G T Rv call ys N g args m h = some h') : KL h h' := by
 unfold xdefer at e
 obtain ⟨k, e1, e⟩ := xo_some e
 split at e
 ·split at e
  ·split at e
   ·obtain ⟨⟨y, f2, h2⟩, e2, e⟩ := xo_some e
    have k := xrun_kl hc hy N _ e2
    cases y with
    | norm => simp only [Option.some.injEq] at e; subst e; exact k
    | ret => simp only [Option.some.injEq] at e; subst e; exact k
    | _ => cases e
   ·cases e
  ·cases e
 ·cases e
theorem xleave_kl {Rv : FuncId → Bool} {call : XC} {ys : XY} (hc : ∀ f args h o h', call f args h = some (o, h') → KL h h') (hy : ∀ b args h o h', ys b args h = some (o, h') → KL h h') {N : Nat} {rs : List IRes} {fr : Fr} : ∀ (ds : List AV) (m : Option AV) {h : AH} {o : AOut} {h' : AH}, xleave P G T Rv call ys N rs fr ds m h = some (o, h') → KL h h'
 | [], none, h, o, h', e => by
  simp only [xleave] at e
  obtain ⟨xs, e1, e⟩ := xo_some e
  split at e
  ·simp only [Option.some.injEq, Prod.mk.injEq] at e; obtain ⟨rfl, rfl⟩ := e; exact KL.refl _
  ·cases e
 | [], some x, h, o, h', e => by
  simp only [xleave] at e
  split at e
  ·simp only [Option.some.injEq, Prod.mk.injEq] at e; obtain ⟨rfl, rfl⟩ := e; exact KL.refl _
  ·cases e
 | d :: ds, m, h, o, h', e => by
  cases d with
  | fn g first cap =>
   cases g with
   | func g =>
    cases first with
    | nil =>
     simp only [xleave] at e
     obtain ⟨k, e1, e⟩ := xo_some e
     obtain ⟨h1, e2, e⟩ := xo_some e
     exact (xdefer_kl hc hy e2).trans (xleave_kl hc hy ds none e)
    | cons x xs => cases e
   | _ => cases e
  | _ => cases e
theorem xboth_ok (hmix : P.follows .mixedOrders = true) (hT : Tok' P T) {Rv : FuncId → Bool} (hR : Rok P Rv) {S : FuncId → Option (List AV → AH → Option (AOut × AH))} (hS : Sok P G S) (hSk : Sk S) (N : Nat) : ∀ n, XOk P G (xboth P G T Rv S N n).1 (xboth P G T Rv S N n).2
 | 0 => ⟨fun f args h o h' e => (by cases e), fun f args h o h' e => (by cases e), fun f args h o h' e => (by cases e), fun f args h o h' e => (by cases e)⟩
 | n + 1 => by
  have hc := xboth_ok hmix hT hR hS hSk N n
  refine ⟨fun f args h o h' e => ?_, fun b args h o h' e => (xround_both hmix hc hT e).1, fun f args h o h' e => ?_, fun b args h o h' e => (xround_both hmix hc hT e).2⟩
  ·simp only [xboth, xcall1] at e
   cases hs : S f with
   | some s => rw [hs] at e; exact hS f s hs args h o h' e
   | none =>
    rw [hs] at e
    obtain ⟨k, e1, e⟩ := xo_some e
    obtain ⟨⟨ds, x, fr, h1⟩, e2, e⟩ := xo_some e
    refine CALL.of_irD hmix (hT f k e1).1 (iwpD_mono k.ir (xrunD_sound hc hT N k.ir e2) ?_)
    rintro d q f kk ⟨rfl, rfl, rfl, rfl⟩
    cases q with
    | norm => exact xleave_sound hmix hc hT hR d none e
    | ret => exact xleave_sound hmix hc hT hR d none e
    | pan v => exact xleave_sound hmix hc hT hR d (some v) e
    | exit i => cases e
  ·simp only [xboth, xcall1] at e
   cases hs : S f with
   | some s => rw [hs] at e; exact hSk f s hs args h o h' e
   | none =>
    rw [hs] at e
    obtain ⟨k, e1, e⟩ := xo_some e
    obtain ⟨⟨ds, x, fr, h1⟩, e2, e⟩ := xo_some e
    have k2 := xrunD_kl hc.ck hc.yk N _ e2
    cases x with
    | norm => exact k2.trans (xleave_kl hc.ck hc.yk ds none e)
    | ret => exact k2.trans (xleave_kl hc.ck hc.yk ds none e)
    | pan v => exact k2.trans (xleave_kl hc.ck hc.yk ds (some v) e)
    | exit i => cases e
theorem xcall_sound (hmix : P.follows .mixedOrders = true) (hT : Tok' P T) {Rv : FuncId → Bool} (hR : Rok P Rv) {S : FuncId → Option (List AV → AH → Option (AOut × AH))} (hS : Sok P G S) (hSk : Sk S) (N n : Nat) {f : FuncId} {args : List AV} {h : AH} {o : AOut} {h' : AH} (e : xcall P G T Rv S N n f args h = some (o, h')) : CALL P G f args h fun q k => q = o ∧ k = h' := (xboth_ok hmix hT hR hS hSk N n).c f args h o h' e
theorem CALL.closed (hG : ∀ g cs, G g = some cs → AV.pures cs = true) {f : FuncId} {v : Value} {h0 : AH} (hh : h0.next = 0) (c : CALL P G f [] AH.empty fun o k => o = .ret (.v v)) (h : AH) : CALL P G f [] h fun o k => o = .ret (.v v) ∧ k = h := by
 intro B0 μ w vs r hv
 simp only [Vs] at hv; subst hv
 have hr0 : Restr 0 0 μ { obj := fun _ => none, com := μ.com, tok := fun _ => none } := ⟨fun _ => rfl, fun _ => rfl, fun _ _ => Iff.rfl⟩
 have r0 : R B0 G { obj := fun _ => none, com := μ.com, tok := fun _ => none } AH.empty w :=
  ⟨r.base, fun _ _ e => (by cases e), fun _ _ _ e => (by cases e), fun b off e => ⟨fun _ => (by simp), fun _ _ e => (by cases e), (r.com b off e).2.2⟩, fun _ _ e => (by cases e), fun _ _ _ _ e => (by cases e), fun _ _ _ e => (by cases e), fun _ _ => rfl, fun _ _ => rfl, fun g cs e => Cells.restr hr0 cs g 0 (hG g cs e) (r.glob g cs e)⟩
 refine (c B0 _ w [] r0 (by simp [Vs])).mono ?_
 rintro e w' ⟨out, h', rfl, μ', st, hout⟩
 obtain ⟨u, rfl, hu⟩ := hout
 have hkeep : ∀ b, b < w.heap.size → w'.heap[b]? = w.heap[b]? := fun b hb => st.keep b hb (fun _ => by simp) (fun _ _ e => by cases e)
 refine ⟨_, h, ⟨rfl, rfl⟩, μ, ⟨Le.refl _, r.other st.size st.com (fun o b e => hkeep b (r.obj_lt e)) (fun t i e => hkeep i.b (r.tok_lt e)), st.size, fun b hb _ _ => hkeep b hb, st.com, Nat.le_refl _, Nat.le_refl _, fun _ _ e => .inl e, fun _ i e => .inl ⟨i, e, rfl⟩, fun _ _ e => .inl e, st.env⟩, u, rfl, ?_⟩
 simp only [V] at hu ⊢; exact hu
def outV (r : Option (AOut × AH)) (v : Value) : Bool :=
 match r with
 | some (.ret (.v u), _) => eqVal u v
 | _ => false
theorem JC.closed (hmix : P.follows .mixedOrders = true) (hG : ∀ g cs, G g = some cs → AV.pures cs = true) (hT : Tok' P T) {Rv : FuncId → Bool} (hR : Rok P Rv) {S : FuncId → Option (List AV → AH → Option (AOut × AH))} (hS : Sok P G S) (hSk : Sk S) {N n : Nat} {f : FuncId} {v : Value} (e : outV (xcall P G T Rv S N n f [] AH.empty) v = true) (j : JH) : JC P G f [] j (RET (.v v) j) := by
 unfold outV at e
 split at e
 ·rename_i u k hq
  have hu := eqVal_eq e
  subst hu
  rintro h rfl
  refine (CALL.closed hG (h0 := AH.empty) rfl ((xcall_sound hmix hT hR hS hSk N n hq).mono fun o k' ⟨h1, _⟩ => h1) h).mono fun o k' ⟨h1, h2⟩ => ⟨h1, by rw [h2]⟩
 ·cases e
end
end Go.Proofs.YtcjlpklgnknpgaaGreatDoor.Pg
