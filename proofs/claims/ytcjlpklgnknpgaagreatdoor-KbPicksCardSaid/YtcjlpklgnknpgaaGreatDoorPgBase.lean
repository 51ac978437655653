/-
  Pg, part 1: abstract values, the abstract heap, and what they say of the model's values and memory.
-/
import Derived.Calls
import Derived.Orders
namespace Go.Proofs.YtcjlpklgnknpgaaGreatDoor.Pg
open Go
section
inductive T (α : Type) where
 | nil : T α
 | node (v : Option α) (l r : T α) : T α
 | fn (f : Nat → Option α) : T α
namespace T
variable {α : Type}
def get : T α → Nat → Option α
 | .nil, _ => none
 | .node v l r, n => if n = 0 then v else if n % 2 = 1 then l.get (n / 2) else r.get (n / 2 - 1)
 | .fn f, n => f n
def val : T α → Option α
 | .nil => none
 | .node v _ _ => v
 | .fn f => f 0
def left : T α → T α
 | .nil => .nil
 | .node _ l _ => l
 | .fn f => .fn fun k => f (2 * k + 1)
def right : T α → T α
 | .nil => .nil
 | .node _ _ r => r
 | .fn f => .fn fun k => f (2 * k + 2)
theorem get_eq (t : T α) (n : Nat) : t.get n = if n = 0 then t.val else if n % 2 = 1 then t.left.get (n / 2) else t.right.get (n / 2 - 1) := by
 cases t with
 | nil => simp [get, val, left, right]
 | node v l r => rfl
 | fn f =>
  simp only [get, val, left, right]
  by_cases h0 : n = 0
  ·rw [if_pos h0, h0]
  ·rw [if_neg h0]
   by_cases h1 : n % 2 = 1
   ·rw [if_pos h1]; congr 1; omega
   ·rw [if_neg h1]; congr 1; omega
def setF : Nat → T α → Nat → α → T α
 | 0, t, _, _ => t
 | f + 1, t, n, x => if n = 0 then .node (some x) t.left t.right else if n % 2 = 1 then .node t.val (setF f t.left (n / 2) x) t.right else .node t.val t.left (setF f t.right (n / 2 - 1) x)
def set (t : T α) (n : Nat) (x : α) : T α := setF (n + 1) t n x
theorem get_setF (x : α) : ∀ (f : Nat) (t : T α) (n m : Nat), n < f → (setF f t n x).get m = if m = n then some x else t.get m
 | 0, _, _, _, h => by omega
 | f + 1, t, n, m, h => by
  rw [setF]
  by_cases h0 : n = 0
  ·subst h0
   rw [if_pos rfl, get]
   by_cases hm : m = 0
   ·simp [hm]
   ·rw [if_neg hm, if_neg hm, get_eq t m, if_neg hm]
  ·rw [if_neg h0]
   by_cases h1 : n % 2 = 1
   ·rw [if_pos h1, get]
    by_cases hm : m = 0
    ·rw [if_pos hm, if_neg (by omega), get_eq t m, if_pos hm]
    ·rw [if_neg hm]
     by_cases hm1 : m % 2 = 1
     ·rw [if_pos hm1, get_setF x f _ _ _ (by omega), get_eq t m, if_neg hm, if_pos hm1]
      by_cases e : m = n
      ·rw [if_pos e, if_pos (by omega)]
      ·rw [if_neg e, if_neg (by omega)]
     ·rw [if_neg hm1, if_neg (by omega), get_eq t m, if_neg hm, if_neg hm1]
   ·rw [if_neg h1, get]
    by_cases hm : m = 0
    ·rw [if_pos hm, if_neg (by omega), get_eq t m, if_pos hm]
    ·rw [if_neg hm]
     by_cases hm1 : m % 2 = 1
     ·rw [if_pos hm1, if_neg (by omega), get_eq t m, if_neg hm, if_pos hm1]
     ·rw [if_neg hm1, get_setF x f _ _ _ (by omega), get_eq t m, if_neg hm, if_neg hm1]
      by_cases e : m = n
      ·rw [if_pos e, if_pos (by omega)]
      ·rw [if_neg e, if_neg (by omega)]
theorem get_set (t : T α) (n m : Nat) (x : α) : (t.set n x).get m = if m = n then some x else t.get m := get_setF x (n + 1) t n m (by omega)
end T
inductive Tok where
 | nil
 | none
 | own (t k s : Nat)
inductive AV where
 | v (x : Value)
 | ptr (o off : Nat)
 | arr (o off n : Nat)
 | cptr (cs : List AV)
 | sl (tok : Tok) (n : Nat) (cs : List AV)
 | mp (o : Nat)
 | yld (o : Nat)
 | fn (f : Fn) (first cap : List AV)
 | ifc (t : TypeId) (x : AV)
 | agg (cs : List AV)
 | tup (vs : List AV)
 | any
instance : Inhabited AV := ⟨.v undef⟩
def plain : Value → Bool
 | .bool _ | .int _ _ | .string _ | .pointer _ | .nilFunc | .nilIface | .map none => true
 | .tuple a => a.isEmpty
 | _ => false
mutual
def ofV : Nat → Value → Option AV
 | 0, _ => none
 | k + 1, x => match x with
  | .slice none 0 0 => some (.sl .nil 0 [])
  | .agg cs => (ofVs k cs.toList).map .agg
  | .iface t y => (ofV k y).map (.ifc t)
  | .func f first cap => match ofVs k first.toList, ofVs k cap.toList with
   | some a, some b => some (.fn f a b)
   | _, _ => none
  | x => if plain x then some (.v x) else none
def ofVs : Nat → List Value → Option (List AV)
 | 0, _ => none
 | _ + 1, [] => some []
 | k + 1, x :: xs => match ofV k x, ofVs k xs with
  | some y, some ys => some (y :: ys)
  | _, _ => none
end
def AV.cells : AV → List AV
 | .agg cs => cs
 | x => [x]
def AV.one : AV → Bool
 | .agg _ | .tup _ | .any => false
 | .v (.tuple _) => false
 | _ => true
structure Fr where
 n : Nat
 t : T AV
def AV.known : AV → Bool
 | .any => false
 | _ => true
def Fr.get (fr : Fr) (i : Nat) : AV := (fr.t.get i).getD .any
def Fr.set (fr : Fr) (d : Nat) (x : AV) : Fr := { fr with t := fr.t.set d x }
def Fr.put (fr : Fr) : Option Tmp → AV → Option Fr
 | none, _ => some fr
 | some d, x => if d < fr.n then some (fr.set d x) else none
theorem Fr.get_set (fr : Fr) (d i : Nat) (x : AV) : (fr.set d x).get i = if i = d then x else fr.get i := by
 unfold Fr.get Fr.set
 rw [T.get_set]
 by_cases h : i = d <;> simp [h]
def Fr.ofArgs (n : Nat) (args : List AV) : Fr := { n := max args.length n, t := (args.zipIdx.foldl (fun t p => t.set p.2 p.1) T.nil) }
inductive AObj where
 | cells (e : TypeId) (cs : List AV)
 | map (es : List (Value × AV))
 | loop (fr : Fr) (st : LoopState) (pe : Option Code) (ps : Array Tmp) (ca cb : Code)
 | dead
structure AH where
 next : Nat
 objs : T AObj
 tnext : Nat
 toks : T Nat
def AH.empty : AH := { next := 0, objs := .nil, tnext := 0, toks := .nil }
def AH.get (h : AH) (o : Nat) : Option AObj := h.objs.get o
def AH.set (h : AH) (o : Nat) (x : AObj) : AH := { h with objs := h.objs.set o x }
def AH.push (h : AH) (x : AObj) : AH := { h with next := h.next + 1, objs := h.objs.set h.next x }
def AH.tok (h : AH) (t : Nat) : Option Nat := h.toks.get t
def AH.setTok (h : AH) (t : Nat) (F : Nat) : AH := { h with toks := h.toks.set t F }
def AH.pushTok (h : AH) (F : Nat) : AH := { h with tnext := h.tnext + 1, toks := h.toks.set h.tnext F }
structure TokI where
 (F b e sp sz : Nat)
structure Mu where
 obj : Nat → Option Nat
 com : Nat → Nat → Prop
 tok : Nat → Option TokI
mutual
def V (μ : Mu) (w : World) : AV → Value → Prop
 | .v x, u => plain x = true ∧ u = x
 | .ptr o off, u => ∃ b, μ.obj o = some b ∧ u = .pointer (some ⟨b, off, none⟩)
 | .arr o off n, u => ∃ b c, μ.obj o = some b ∧ u = .slice (some ⟨b, off, none⟩) n c ∧ n ≤ c
 | .cptr cs, u => ∃ b off, u = .pointer (some ⟨b, off, none⟩) ∧ Cells μ w cs b off
 | .sl .nil n cs, u => u = .slice none 0 0 ∧ n = 0 ∧ cs = []
 | .sl .none n cs, u => ∃ A c, u = .slice A n c ∧ n ≤ c ∧ (cs ≠ [] → ∃ b off, A = some ⟨b, off, none⟩ ∧ Cells μ w cs b off)
 | .sl (.own t k s) n cs, u => ∃ b off c i, u = .slice (some ⟨b, off, none⟩) n c ∧ n ≤ c ∧ Cells μ w cs b off ∧ μ.tok t = some i ∧ i.sz = s ∧ k + n ≤ i.F ∧
   (k + n = i.F → b = i.b ∧ off + n * i.sz = i.e ∧ c = n + i.sp)
 | .mp o, u => ∃ b, μ.obj o = some b ∧ u = .map (some b)
 | .yld o, u => ∃ b, μ.obj o = some b ∧ u = .func (.yield b) #[] #[]
 | .fn f first cap, u => ∃ a b, u = .func f a b ∧ Vs μ w first a.toList ∧ Vs μ w cap b.toList
 | .ifc t x, u => ∃ y, u = .iface t y ∧ V μ w x y
 | .agg cs, u => ∃ us, u = .agg us ∧ Vs μ w cs us.toList
 | .tup vs, u => ∃ us, u = .tuple us ∧ Vs μ w vs us.toList
 | .any, _ => True
def Vs (μ : Mu) (w : World) : List AV → List Value → Prop
 | [], us => us = []
 | x :: xs, us => ∃ u us', us = u :: us' ∧ V μ w x u ∧ Vs μ w xs us'
def Cells (μ : Mu) (w : World) : List AV → Nat → Nat → Prop
 | [], _, _ => True
 | x :: xs, b, off => μ.com b off ∧ (∃ u, w.cell? ⟨b, off, none⟩ = some u ∧ V μ w x u) ∧ Cells μ w xs b (off + 1)
end
structure Le (μ μ' : Mu) : Prop where
 obj : ∀ o b, μ.obj o = some b → μ'.obj o = some b
 com : ∀ b off, μ.com b off → μ'.com b off
 tok : ∀ t i, μ.tok t = some i → ∃ i', μ'.tok t = some i' ∧ i'.sz = i.sz ∧ i.F ≤ i'.F ∧ (i'.F = i.F → i' = i)
theorem Le.refl (μ : Mu) : Le μ μ := ⟨fun _ _ h => h, fun _ _ h => h, fun _ i h => ⟨i, h, rfl, Nat.le_refl _, fun _ => rfl⟩⟩
theorem Le.trans {a b c : Mu} (h : Le a b) (k : Le b c) : Le a c :=
 ⟨fun o x hx => k.obj o x (h.obj o x hx), fun x y hx => k.com x y (h.com x y hx), fun t i hi => by
  obtain ⟨i', hi', hz, hF, he⟩ := h.tok t i hi
  obtain ⟨i'', hi'', hz', hF', he'⟩ := k.tok t i' hi'
  exact ⟨i'', hi'', hz'.trans hz, by omega, fun e => by rw [he' (by omega)]; exact he (by omega)⟩⟩
def ComKeep (μ : Mu) (w w' : World) : Prop := ∀ b off, μ.com b off → w'.cell? ⟨b, off, none⟩ = w.cell? ⟨b, off, none⟩
section
variable {μ μ' : Mu} {w w' : World}
mutual
theorem V.mono (hl : Le μ μ') (hk : ComKeep μ w w') : ∀ (x : AV) (u : Value), V μ w x u → V μ' w' x u
 | .v _, _, h => by simp only [V] at h ⊢; exact h
 | .ptr o off, u, h => by simp only [V] at h ⊢; obtain ⟨b, hb, e⟩ := h; exact ⟨b, hl.obj _ _ hb, e⟩
 | .arr o off n, u, h => by simp only [V] at h ⊢; obtain ⟨b, c, hb, e⟩ := h; exact ⟨b, c, hl.obj _ _ hb, e⟩
 | .cptr cs, u, h => by simp only [V] at h ⊢; obtain ⟨b, off, e, hc⟩ := h; exact ⟨b, off, e, Cells.mono hl hk cs b off hc⟩
 | .sl .nil n cs, u, h => by simp only [V] at h ⊢; exact h
 | .sl .none n cs, u, h => by
  simp only [V] at h ⊢
  obtain ⟨A, c, e, hn, hc⟩ := h
  exact ⟨A, c, e, hn, fun hne => by obtain ⟨b, off, eA, hcs⟩ := hc hne; exact ⟨b, off, eA, Cells.mono hl hk cs b off hcs⟩⟩
 | .sl (.own t k s) n cs, u, h => by
  simp only [V] at h ⊢
  obtain ⟨b, off, c, i, e, hn, hc, ht, hz, hF, hf⟩ := h
  obtain ⟨i', ht', hz', hF', he⟩ := hl.tok t i ht
  exact ⟨b, off, c, i', e, hn, Cells.mono hl hk cs b off hc, ht', hz'.trans hz, by omega, fun q => by rw [he (by omega)]; exact hf (by omega)⟩
 | .mp o, u, h => by simp only [V] at h ⊢; obtain ⟨b, hb, e⟩ := h; exact ⟨b, hl.obj _ _ hb, e⟩
 | .yld o, u, h => by simp only [V] at h ⊢; obtain ⟨b, hb, e⟩ := h; exact ⟨b, hl.obj _ _ hb, e⟩
 | .fn f first cap, u, h => by
  simp only [V] at h ⊢; obtain ⟨a, b, e, h1, h2⟩ := h; exact ⟨a, b, e, Vs.mono hl hk first _ h1, Vs.mono hl hk cap _ h2⟩
 | .ifc t x, u, h => by simp only [V] at h ⊢; obtain ⟨y, e, hy⟩ := h; exact ⟨y, e, V.mono hl hk x y hy⟩
 | .agg cs, u, h => by simp only [V] at h ⊢; obtain ⟨us, e, hy⟩ := h; exact ⟨us, e, Vs.mono hl hk cs _ hy⟩
 | .tup cs, u, h => by simp only [V] at h ⊢; obtain ⟨us, e, hy⟩ := h; exact ⟨us, e, Vs.mono hl hk cs _ hy⟩
 | .any, _, _ => by simp only [V]
theorem Vs.mono (hl : Le μ μ') (hk : ComKeep μ w w') : ∀ (xs : List AV) (us : List Value), Vs μ w xs us → Vs μ' w' xs us
 | [], us, h => by simp only [Vs] at h ⊢; exact h
 | x :: xs, us, h => by
  simp only [Vs] at h ⊢
  obtain ⟨u, us', e, hx, hxs⟩ := h
  exact ⟨u, us', e, V.mono hl hk x u hx, Vs.mono hl hk xs us' hxs⟩
theorem Cells.mono (hl : Le μ μ') (hk : ComKeep μ w w') : ∀ (xs : List AV) (b off : Nat), Cells μ w xs b off → Cells μ' w' xs b off
 | [], _, _, _ => by simp only [Cells]
 | x :: xs, b, off, h => by
  simp only [Cells] at h ⊢
  obtain ⟨hc, ⟨u, hu, hx⟩, hxs⟩ := h
  exact ⟨hl.com _ _ hc, ⟨u, (hk _ _ hc).trans hu, V.mono hl hk x u hx⟩, Cells.mono hl hk xs b (off + 1) hxs⟩
end
end
theorem Vs.length {μ : Mu} {w : World} : ∀ {xs : List AV} {us : List Value}, Vs μ w xs us → us.length = xs.length
 | [], _, h => by simp only [Vs] at h; simp [h]
 | x :: xs, _, h => by
  simp only [Vs] at h
  obtain ⟨u, us', rfl, _, hxs⟩ := h
  simp [hxs.length]
theorem Vs.get {μ : Mu} {w : World} : ∀ {xs : List AV} {us : List Value}, Vs μ w xs us → ∀ (i : Nat) x, xs[i]? = some x → ∃ u, us[i]? = some u ∧ V μ w x u
 | [], _, _, i, x, hi => by simp at hi
 | y :: xs, _, h, i, x, hi => by
  simp only [Vs] at h
  obtain ⟨u, us', rfl, hy, hxs⟩ := h
  cases i with
  | zero => simp at hi; subst hi; exact ⟨u, by simp, hy⟩
  | succ i => simp at hi; obtain ⟨u', hu', hx⟩ := hxs.get i x hi; exact ⟨u', by simpa using hu', hx⟩
theorem Vs.mk {μ : Mu} {w : World} : ∀ {xs : List AV} {us : List Value}, us.length = xs.length → (∀ (i : Nat) x u, xs[i]? = some x → us[i]? = some u → V μ w x u) → Vs μ w xs us
 | [], us, hl, _ => by simp only [Vs]; simpa using hl
 | y :: xs, [], hl, _ => by simp at hl
 | y :: xs, u :: us, hl, h => by
  simp only [Vs]
  exact ⟨u, us, rfl, h 0 y u (by simp) (by simp), Vs.mk (by simpa using hl) fun i x u' hx hu => h (i + 1) x u' (by simpa using hx) (by simpa using hu)⟩
theorem Vs.append {μ : Mu} {w : World} : ∀ {xs ys : List AV} {us vs : List Value}, Vs μ w xs us → Vs μ w ys vs → Vs μ w (xs ++ ys) (us ++ vs)
 | [], ys, us, vs, h, k => by simp only [Vs] at h; subst h; simpa using k
 | x :: xs, ys, _, vs, h, k => by
  simp only [Vs] at h
  obtain ⟨u, us', rfl, hx, hxs⟩ := h
  simp only [List.cons_append, Vs]
  exact ⟨u, us' ++ vs, rfl, hx, hxs.append k⟩
theorem Vs.take {μ : Mu} {w : World} {xs : List AV} {us : List Value} (h : Vs μ w xs us) (n : Nat) : Vs μ w (xs.take n) (us.take n) := by
 refine Vs.mk (by simp [h.length]) fun i x u hx hu => ?_
 rw [List.getElem?_take] at hx hu
 by_cases hi : i < n
 ·rw [if_pos hi] at hx hu
  obtain ⟨u', hu', hv⟩ := h.get i x hx
  rw [hu'] at hu; cases hu; exact hv
 ·rw [if_neg hi] at hx; cases hx
theorem Vs.drop {μ : Mu} {w : World} {xs : List AV} {us : List Value} (h : Vs μ w xs us) (n : Nat) : Vs μ w (xs.drop n) (us.drop n) := by
 refine Vs.mk (by simp [h.length]) fun i x u hx hu => ?_
 rw [List.getElem?_drop] at hx hu
 obtain ⟨u', hu', hv⟩ := h.get _ x hx
 rw [hu'] at hu; cases hu; exact hv
theorem Vs.set {μ : Mu} {w : World} {xs : List AV} {us : List Value} (h : Vs μ w xs us) (n : Nat) {x : AV} {u : Value} (hx : V μ w x u) : Vs μ w (xs.set n x) (us.set n u) := by
 refine Vs.mk (by simp [h.length]) fun i y v hy hv => ?_
 rw [List.getElem?_set] at hy hv
 by_cases hi : n = i
 ·rw [if_pos hi] at hy hv
  by_cases hl : n < xs.length
  ·rw [if_pos hl] at hy; rw [if_pos (by rw [h.length]; exact hl)] at hv; cases hy; cases hv; exact hx
  ·rw [if_neg hl] at hy; cases hy
 ·rw [if_neg hi] at hy hv
  obtain ⟨u', hu', hv'⟩ := h.get _ y hy
  rw [hu'] at hv; cases hv; exact hv'
theorem Cells.get {μ : Mu} {w : World} : ∀ {xs : List AV} {b off : Nat}, Cells μ w xs b off → ∀ (i : Nat) x, xs[i]? = some x → μ.com b (off + i) ∧ ∃ u, w.cell? ⟨b, off + i, none⟩ = some u ∧ V μ w x u
 | [], _, _, _, i, x, hi => by simp at hi
 | y :: xs, b, off, h, i, x, hi => by
  simp only [Cells] at h
  obtain ⟨hc, hu, hxs⟩ := h
  cases i with
  | zero => simp at hi; subst hi; exact ⟨hc, hu⟩
  | succ i =>
   simp at hi
   have := hxs.get i x hi
   rw [show off + 1 + i = off + (i + 1) from by omega] at this
   exact this
theorem Cells.mk {μ : Mu} {w : World} : ∀ {xs : List AV} {b off : Nat}, (∀ (i : Nat) x, xs[i]? = some x → μ.com b (off + i) ∧ ∃ u, w.cell? ⟨b, off + i, none⟩ = some u ∧ V μ w x u) → Cells μ w xs b off
 | [], _, _, _ => by simp only [Cells]
 | y :: xs, b, off, h => by
  simp only [Cells]
  exact ⟨(h 0 y (by simp)).1, (h 0 y (by simp)).2, Cells.mk fun i x hx => by
   have := h (i + 1) x (by simpa using hx)
   rw [show off + (i + 1) = off + 1 + i from by omega] at this
   exact this⟩
theorem Cells.drop {μ : Mu} {w : World} {xs : List AV} {b off : Nat} (h : Cells μ w xs b off) (n : Nat) : Cells μ w (xs.drop n) b (off + n) :=
 Cells.mk fun i x hx => by
  rw [List.getElem?_drop] at hx
  have := h.get _ x hx
  rw [Nat.add_assoc]; exact this
theorem Cells.take {μ : Mu} {w : World} {xs : List AV} {b off : Nat} (h : Cells μ w xs b off) (n : Nat) : Cells μ w (xs.take n) b off :=
 Cells.mk fun i x hx => by
  rw [List.getElem?_take] at hx
  by_cases hi : i < n
  ·rw [if_pos hi] at hx; exact h.get _ x hx
  ·rw [if_neg hi] at hx; cases hx
theorem Cells.append {μ : Mu} {w : World} {xs ys : List AV} {b off : Nat} (h : Cells μ w xs b off) (k : Cells μ w ys b (off + xs.length)) : Cells μ w (xs ++ ys) b off :=
 Cells.mk fun i x hx => by
  by_cases hi : i < xs.length
  ·rw [List.getElem?_append_left hi] at hx; exact h.get _ x hx
  ·rw [List.getElem?_append_right (by omega)] at hx
   have := k.get _ x hx
   rw [show off + xs.length + (i - xs.length) = off + i from by omega] at this
   exact this
def Born (ents : Array MapEntry) (clock : Nat) : Prop := (∀ e ∈ ents.toList, e.born < clock) ∧ (ents.toList.map (·.born)).Nodup
theorem Born.nil (c : Nat) : Born #[] c := ⟨fun e h => by simp at h, by simp⟩
theorem Born.push {ents : Array MapEntry} {clock : Nat} (h : Born ents clock) (k v : Value) : Born (ents.push { key := k, val := v, born := clock }) (clock + 1) := by
 refine ⟨fun e he => ?_, ?_⟩
 ·simp only [Array.toList_push, List.mem_append, List.mem_singleton] at he
  rcases he with he | rfl
  ·exact Nat.lt_succ_of_lt (h.1 e he)
  ·exact Nat.lt_succ_self _
 ·simp only [Array.toList_push, List.map_append, List.map_cons, List.map_nil]
  refine List.nodup_append.2 ⟨h.2, by simp, fun a ha b hb => ?_⟩
  simp only [List.mem_singleton] at hb
  subst hb
  obtain ⟨e, he, rfl⟩ := List.mem_map.1 ha
  exact Nat.ne_of_lt (h.1 e he)
theorem Born.modify {ents : Array MapEntry} {clock : Nat} (h : Born ents clock) (j : Nat) (k v : Value) : Born (ents.modify j fun e => { e with key := k, val := v }) clock := by
 have e : (ents.modify j fun e => { e with key := k, val := v }).toList.map (·.born) = ents.toList.map (·.born) := by
  apply List.ext_getElem?
  intro q
  simp only [List.getElem?_map, Array.getElem?_toList, Array.getElem?_modify]
  by_cases hq : j = q
  ·subst hq; simp only [if_true]; cases ents[j]? <;> rfl
  ·rw [if_neg hq]
 refine ⟨fun x hx => ?_, by rw [e]; exact h.2⟩
 have : x.born ∈ ents.toList.map (·.born) := by rw [← e]; exact List.mem_map.2 ⟨x, hx, rfl⟩
 obtain ⟨y, hy, q⟩ := List.mem_map.1 this
 rw [← q]; exact h.1 y hy
def ORel (μ : Mu) (w : World) : AObj → Nat → Prop
 | .cells e cs, b => ∃ vs : Array Value, w.heap[b]? = some (.cells vs e (0, 0)) ∧ Vs μ w cs vs.toList
 | .map es, b => ∃ (ents : Array MapEntry) (clock : Nat), w.heap[b]? = some (.map ents clock) ∧ Born ents clock ∧ ents.toList.map (·.key) = es.map (·.1) ∧ Vs μ w (es.map (·.2)) (ents.toList.map (·.val))
 | .loop fr st pe ps ca cb, b => ∃ fn tm df, w.heap[b]? = some (.loop { state := st, pending := pe, fn := fn, tmps := tm, params := ps, assign := ca, body := cb, defers := df }) ∧ tm.size = fr.n ∧ ∀ i, V μ w (fr.get i) (tm.getD i undef)
 | .dead, b => b < w.heap.size
theorem ORel.lt {μ : Mu} {w : World} {ob : AObj} {b : Nat} (h : ORel μ w ob b) : b < w.heap.size := by
 cases ob with
 | cells e cs => obtain ⟨vs, hv, _⟩ := h; exact (Array.getElem?_eq_some_iff.1 hv).1
 | map es => obtain ⟨es, c, hv, _⟩ := h; exact (Array.getElem?_eq_some_iff.1 hv).1
 | loop fr st pe ps ca cb => obtain ⟨_, _, _, hv, _⟩ := h; exact (Array.getElem?_eq_some_iff.1 hv).1
 | dead => exact h
theorem ORel.mono {μ μ' : Mu} {w w' : World} (hl : Le μ μ') (hk : ComKeep μ w w') (hs : w.heap.size ≤ w'.heap.size) {ob : AObj} {b : Nat} (hb : w'.heap[b]? = w.heap[b]?) (h : ORel μ w ob b) : ORel μ' w' ob b := by
 cases ob with
 | cells e cs => obtain ⟨vs, hv, hc⟩ := h; exact ⟨vs, hb.trans hv, Vs.mono hl hk _ _ hc⟩
 | map es => obtain ⟨ents, c, hv, hB, hkk, hc⟩ := h; exact ⟨ents, c, hb.trans hv, hB, hkk, Vs.mono hl hk _ _ hc⟩
 | loop fr st pe ps ca cb => obtain ⟨fn, tm, df, hv, hn, hc⟩ := h; exact ⟨fn, tm, df, hb.trans hv, hn, fun i => V.mono hl hk _ _ (hc i)⟩
 | dead => exact Nat.lt_of_lt_of_le h hs
structure R (B0 : Nat) (G : Nat → Option (List AV)) (μ : Mu) (h : AH) (w : World) : Prop where
 base : B0 ≤ w.heap.size
 obj : ∀ o b, μ.obj o = some b → B0 ≤ b ∧ ∃ ob, h.get o = some ob ∧ ORel μ w ob b
 inj : ∀ o o' b, μ.obj o = some b → μ.obj o' = some b → o = o'
 com : ∀ b off, μ.com b off → (∀ o, μ.obj o ≠ some b) ∧ (∀ t i, μ.tok t = some i → i.b = b → off < i.e) ∧ b < w.heap.size
 tok : ∀ t i, μ.tok t = some i → B0 ≤ i.b ∧ h.tok t = some i.F ∧ ∃ vs ty, w.heap[i.b]? = some (.cells vs ty (0, 0)) ∧ i.e + i.sp * i.sz = vs.size
 tinj : ∀ t t' i i', μ.tok t = some i → μ.tok t' = some i' → i.b = i'.b → t = t'
 sep : ∀ t i o, μ.tok t = some i → μ.obj o ≠ some i.b
 next : ∀ o, h.next ≤ o → μ.obj o = none
 tnext : ∀ t, h.tnext ≤ t → μ.tok t = none
 glob : ∀ g cs, G g = some cs → Cells μ w cs g 0
def Env (w w' : World) : Prop := w'.os = w.os ∧ w'.tape = w.tape ∧ w'.output = w.output
theorem Env.refl (w : World) : Env w w := ⟨rfl, rfl, rfl⟩
theorem Env.trans {a b c : World} (h : Env a b) (k : Env b c) : Env a c := ⟨k.1.trans h.1, k.2.1.trans h.2.1, k.2.2.trans h.2.2⟩
def HPush (w w' : World) (o : Obj) : Prop := w'.heap = w.heap.push o ∧ Env w w'
structure Step (B0 : Nat) (G : Nat → Option (List AV)) (μ : Mu) (h : AH) (w : World) (μ' : Mu) (h' : AH) (w' : World) : Prop where
 le : Le μ μ'
 r : R B0 G μ' h' w'
 size : w.heap.size ≤ w'.heap.size
 keep : ∀ b, b < w.heap.size → (∀ o, μ.obj o ≠ some b) → (∀ t i, μ.tok t = some i → i.b ≠ b) → w'.heap[b]? = w.heap[b]?
 com : ComKeep μ w w'
 next : h.next ≤ h'.next
 tnext : h.tnext ≤ h'.tnext
 newo : ∀ o b, μ'.obj o = some b → μ.obj o = some b ∨ (h.next ≤ o ∧ w.heap.size ≤ b)
 newt : ∀ t i, μ'.tok t = some i → (∃ j, μ.tok t = some j ∧ j.b = i.b) ∨ ((h.tnext ≤ t ∨ ∃ j, μ.tok t = some j) ∧ w.heap.size ≤ i.b)
 newc : ∀ b off, μ'.com b off → μ.com b off ∨ w.heap.size ≤ b ∨ ∃ t i, μ.tok t = some i ∧ i.b = b
 env : Env w w'
theorem Step.refl {B0 : Nat} {G : Nat → Option (List AV)} {μ : Mu} {h : AH} {w : World} (r : R B0 G μ h w) : Step B0 G μ h w μ h w :=
 ⟨Le.refl _, r, Nat.le_refl _, fun _ _ _ _ => rfl, fun _ _ _ => rfl, Nat.le_refl _, Nat.le_refl _, fun _ _ h => .inl h, fun _ i h => .inl ⟨i, h, rfl⟩, fun _ _ h => .inl h, Env.refl _⟩
theorem Step.trans {B0 : Nat} {G : Nat → Option (List AV)} {μ μ1 μ2 : Mu} {h h1 h2 : AH} {w w1 w2 : World} (s : Step B0 G μ h w μ1 h1 w1) (t : Step B0 G μ1 h1 w1 μ2 h2 w2) : Step B0 G μ h w μ2 h2 w2 where
 le := s.le.trans t.le
 r := t.r
 size := Nat.le_trans s.size t.size
 keep := fun b hb ho ht => (t.keep b (Nat.lt_of_lt_of_le hb s.size)
  (fun o e => by rcases s.newo o b e with h | h; exact ho o h; omega)
  (fun q i hi e => by
   rcases s.newt q i hi with ⟨j, hj, he⟩ | h
   ·exact ht q j hj (he.trans e)
   ·omega)).trans (s.keep b hb ho ht)
 com := fun b off hc => (t.com b off (s.le.com b off hc)).trans (s.com b off hc)
 next := Nat.le_trans s.next t.next
 tnext := Nat.le_trans s.tnext t.tnext
 newo := fun o b e => by
  rcases t.newo o b e with h | h
  ·exact s.newo o b h
  ·exact .inr ⟨Nat.le_trans s.next h.1, Nat.le_trans s.size h.2⟩
 newt := fun q i e => by
  rcases t.newt q i e with ⟨j, hj, he⟩ | ⟨h, hb⟩
  ·rcases s.newt q j hj with ⟨k, hk, hke⟩ | ⟨h, hb⟩
   ·exact .inl ⟨k, hk, hke.trans he⟩
   ·exact .inr ⟨h, by omega⟩
  ·refine .inr ⟨?_, Nat.le_trans s.size hb⟩
   rcases h with h | ⟨j, hj⟩
   ·exact .inl (Nat.le_trans s.tnext h)
   ·rcases s.newt q j hj with ⟨k, hk, _⟩ | ⟨h, _⟩
    ·exact .inr ⟨k, hk⟩
    ·exact h
 newc := fun b off e => by
  rcases t.newc b off e with h | h | ⟨q, i, hi, hb⟩
  ·exact s.newc b off h
  ·exact .inr (.inl (Nat.le_trans s.size h))
  ·rcases s.newt q i hi with ⟨j, hj, he⟩ | ⟨_, h⟩
   ·exact .inr (.inr ⟨q, j, hj, he.trans hb⟩)
   ·exact .inr (.inl (by omega))
 env := s.env.trans t.env
structure FrRel (Δ : List Deferred) (μ : Mu) (w : World) (fr : Fr) (a : Act) : Prop where
 defers : a.defers = Δ
 size : a.tmps.size = fr.n
 val : ∀ i, V μ w (fr.get i) (a.tmps.getD i undef)
theorem FrRel.mono {Δ : List Deferred} {μ μ' : Mu} {w w' : World} (hl : Le μ μ') (hk : ComKeep μ w w') {fr : Fr} {a : Act} (h : FrRel Δ μ w fr a) : FrRel Δ μ' w' fr a :=
 ⟨h.defers, h.size, fun i => V.mono hl hk _ _ (h.val i)⟩
theorem FrRel.put {Δ : List Deferred} {μ : Mu} {w : World} {fr fr' : Fr} {a : Act} (h : FrRel Δ μ w fr a) {d : Option Tmp} {x : AV} {u : Value} (hp : fr.put d x = some fr') (hx : V μ w x u) : FrRel Δ μ w fr' (a.put d u) := by
 cases d with
 | none => simp [Fr.put] at hp; subst hp; exact h
 | some d =>
  simp only [Fr.put] at hp
  by_cases hd : d < fr.n
  ·rw [if_pos hd] at hp; cases hp
   refine ⟨h.defers, by simp [Act.put, Fr.set, h.size], fun i => ?_⟩
   rw [Fr.get_set]
   have hs := h.size
   by_cases hi : i = d
   ·subst hi
    rw [if_pos rfl]
    simp only [Act.put, Array.getD_eq_getD_getElem?]
    have hlt : i < a.tmps.size := by rw [hs]; exact hd
    rw [Array.getElem?_setIfInBounds_self_of_lt hlt]
    exact hx
   ·rw [if_neg hi]
    simp only [Act.put, Array.getD_eq_getD_getElem?]
    rw [Array.getElem?_setIfInBounds_ne (fun e => hi e.symm)]
    have := h.val i
    rw [Array.getD_eq_getD_getElem?] at this
    exact this
  ·rw [if_neg hd] at hp; cases hp
end
section
theorem cell_of_heap {w w' : World} {b : Nat} (h : w'.heap[b]? = w.heap[b]?) (off : Nat) : w'.cell? ⟨b, off, none⟩ = w.cell? ⟨b, off, none⟩ := by
 simp only [World.cell?, h]
theorem cell_row {w : World} {b : Nat} {vs : Array Value} {e : TypeId} {fz : Nat × Nat} (h : w.heap[b]? = some (.cells vs e fz)) (off : Nat) : w.cell? ⟨b, off, none⟩ = vs[off]? := by
 simp [World.cell?, h]
theorem push_lt {w w' : World} {o : Obj} (h : w'.heap = w.heap.push o) {b : Nat} (hb : b < w.heap.size) : w'.heap[b]? = w.heap[b]? := by
 rw [h, Array.getElem?_push_lt hb, Array.getElem?_eq_getElem hb]
theorem push_eq {w w' : World} {o : Obj} (h : w'.heap = w.heap.push o) : w'.heap[w.heap.size]? = some o := by
 rw [h]; simp
theorem push_size {w w' : World} {o : Obj} (h : w'.heap = w.heap.push o) : w'.heap.size = w.heap.size + 1 := by
 rw [h]; simp
theorem AH.get_push (h : AH) (x : AObj) (o : Nat) : (h.push x).get o = if o = h.next then some x else h.get o := T.get_set ..
theorem AH.get_set (h : AH) (x : AObj) (p o : Nat) : (h.set p x).get o = if o = p then some x else h.get o := T.get_set ..
theorem AH.tok_setTok (h : AH) (p F t : Nat) : (h.setTok p F).tok t = if t = p then some F else h.tok t := T.get_set ..
theorem AH.tok_pushTok (h : AH) (F t : Nat) : (h.pushTok F).tok t = if t = h.tnext then some F else h.tok t := T.get_set ..
section
variable {B0 : Nat} {G : Nat → Option (List AV)} {μ : Mu} {h : AH} {w w' : World}
theorem R.obj_lt (r : R B0 G μ h w) {o b : Nat} (e : μ.obj o = some b) : b < w.heap.size := by
 obtain ⟨_, _, _, hr⟩ := r.obj o b e
 exact hr.lt
theorem R.tok_lt (r : R B0 G μ h w) {t : Nat} {i : TokI} (e : μ.tok t = some i) : i.b < w.heap.size := by
 obtain ⟨_, _, vs, ty, hv, _⟩ := r.tok t i e
 exact (Array.getElem?_eq_some_iff.1 hv).1
theorem R.heap (r : R B0 G μ h w) (e : w'.heap = w.heap) (env : Env w w') : Step B0 G μ h w μ h w' := by
 have hk : ComKeep μ w w' := fun b off _ => cell_of_heap (by rw [e]) off
 have hb : ∀ b : Nat, w'.heap[b]? = w.heap[b]? := fun b => by rw [e]
 refine ⟨Le.refl _, ?_, by rw [e]; exact Nat.le_refl _, fun b _ _ _ => hb b, hk, Nat.le_refl _, Nat.le_refl _, fun _ _ h => .inl h, fun _ i h => .inl ⟨i, h, rfl⟩, fun _ _ h => .inl h, env⟩
 refine ⟨by rw [e]; exact r.base, fun o b ho => ?_, r.inj, fun b off hc => ?_, fun t i ht => ?_, r.tinj, r.sep, r.next, r.tnext, fun g cs hg => Cells.mono (Le.refl _) hk _ _ _ (r.glob g cs hg)⟩
 ·obtain ⟨h0, ob, h1, h2⟩ := r.obj o b ho
  exact ⟨h0, ob, h1, ORel.mono (Le.refl _) hk (by rw [e]; exact Nat.le_refl _) (hb b) h2⟩
 ·rw [e]; exact r.com b off hc
 ·rw [hb]; exact r.tok t i ht
def Mu.addObj (μ : Mu) (o b : Nat) : Mu := { μ with obj := fun x => if x = o then some b else μ.obj x }
def Mu.addTok (μ : Mu) (t : Nat) (i : TokI) (lo : Nat) : Mu :=
 { μ with tok := fun x => if x = t then some i else μ.tok x, com := fun b off => μ.com b off ∨ (b = i.b ∧ lo ≤ off ∧ off < i.e) }
theorem step_new_obj (r : R B0 G μ h w) {o : Obj} (hp : HPush w w' o) {ob : AObj}
  (hor : ∀ μ' w', Le μ μ' → ComKeep μ w w' → w'.heap[w.heap.size]? = some o → ORel μ' w' ob w.heap.size) :
  Step B0 G μ h w (μ.addObj h.next w.heap.size) (h.push ob) w' := by
 have env := hp.2
 replace hp := hp.1
 have hn : μ.obj h.next = none := r.next _ (Nat.le_refl _)
 have hl : Le μ (μ.addObj h.next w.heap.size) := ⟨fun o b e => by
   simp only [Mu.addObj]
   by_cases ho : o = h.next
   ·subst ho; rw [hn] at e; cases e
   ·rw [if_neg ho]; exact e, fun _ _ e => e, fun t i e => ⟨i, e, rfl, Nat.le_refl _, fun _ => rfl⟩⟩
 have hk : ComKeep μ w w' := fun b off hc => cell_of_heap (push_lt hp (r.com b off hc).2.2) off
 have hsz := push_size hp
 have hcase : ∀ o b, (μ.addObj h.next w.heap.size).obj o = some b → (o = h.next ∧ b = w.heap.size) ∨ (o ≠ h.next ∧ μ.obj o = some b) := fun o b e => by
  simp only [Mu.addObj] at e
  by_cases ho : o = h.next
  ·rw [if_pos ho] at e; cases e; exact .inl ⟨ho, rfl⟩
  ·rw [if_neg ho] at e; exact .inr ⟨ho, e⟩
 refine ⟨hl, ?_, by omega, fun b hb _ _ => push_lt hp hb, hk, by simp [AH.push], Nat.le_refl _, fun o b e => ?_, fun t i e => .inl ⟨i, e, rfl⟩, fun _ _ h => .inl h, env⟩
 ·refine ⟨by have := r.base; omega, fun o b e => ?_, fun o o' b e e' => ?_, fun b off hc => ?_, fun t i e => ?_, r.tinj, fun t i o e e' => ?_, fun o ho => ?_, r.tnext, fun g cs hg => Cells.mono hl hk _ _ _ (r.glob g cs hg)⟩
  ·rcases hcase o b e with ⟨rfl, rfl⟩ | ⟨ho, e⟩
   ·exact ⟨r.base, ob, by rw [AH.get_push, if_pos rfl], hor _ _ hl hk (push_eq hp)⟩
   ·obtain ⟨h0, ob', h1, h2⟩ := r.obj o b e
    exact ⟨h0, ob', by rw [AH.get_push, if_neg ho]; exact h1, ORel.mono hl hk (by omega) (push_lt hp h2.lt) h2⟩
  ·rcases hcase o b e with ⟨rfl, rfl⟩ | ⟨ho, e⟩ <;> rcases hcase o' _ e' with ⟨rfl, hb'⟩ | ⟨ho', e'⟩
   ·rfl
   ·exact absurd (r.obj_lt e') (by omega)
   ·subst hb'; exact absurd (r.obj_lt e) (by omega)
   ·exact r.inj o o' b e e'
  ·obtain ⟨h0, h1, h2⟩ := r.com b off hc
   refine ⟨fun o e => ?_, h1, by omega⟩
   rcases hcase o b e with ⟨rfl, rfl⟩ | ⟨ho, e⟩
   ·omega
   ·exact h0 o e
  ·obtain ⟨h0, h1, vs, ty, h2, h3⟩ := r.tok t i e
   exact ⟨h0, h1, vs, ty, (push_lt hp (r.tok_lt e)).trans h2, h3⟩
  ·rcases hcase o _ e' with ⟨rfl, hb⟩ | ⟨ho, e'⟩
   ·exact absurd (r.tok_lt e) (by omega)
   ·exact r.sep t i o e e'
  ·simp only [AH.push] at ho
   simp only [Mu.addObj]
   rw [if_neg (by omega)]
   exact r.next o (by omega)
 ·rcases hcase o b e with ⟨rfl, rfl⟩ | ⟨ho, e⟩
  ·exact .inr ⟨Nat.le_refl _, Nat.le_refl _⟩
  ·exact .inl e
theorem step_new_row (r : R B0 G μ h w) {vs : Array Value} {ty : TypeId} (hp : HPush w w' (.cells vs ty (0, 0))) {t F n sz sp : Nat} {cs : List AV} {h' : AH}
  (hcs : cs.length = n * sz) (hvs : vs.size = n * sz + sp * sz) (hV : Vs μ w cs (vs.toList.take (n * sz)))
  (hh' : h'.objs = h.objs ∧ h'.next = h.next ∧ (∀ x, h'.tok x = if x = t then some F else h.tok x) ∧ h.tnext ≤ h'.tnext ∧ t < h'.tnext)
  (ht : ∀ i, μ.tok t = some i → i.F < F ∧ i.sz = sz) (htn : h.tnext ≤ t ∨ ∃ j, μ.tok t = some j) :
  let μ' := μ.addTok t ⟨F, w.heap.size, n * sz, sp, sz⟩ 0
  Step B0 G μ h w μ' h' w' ∧ Cells μ' w' cs w.heap.size 0 ∧ μ'.tok t = some ⟨F, w.heap.size, n * sz, sp, sz⟩ := by
 have env := hp.2
 replace hp := hp.1
 intro μ'
 obtain ⟨hobjs, hnext, htoks, htn, htlt⟩ := hh'
 have htok : ∀ x i, μ'.tok x = some i → (x = t ∧ i = ⟨F, w.heap.size, n * sz, sp, sz⟩) ∨ (x ≠ t ∧ μ.tok x = some i) := fun x i e => by
  simp only [μ', Mu.addTok] at e
  by_cases hx : x = t
  ·rw [if_pos hx] at e; cases e; exact .inl ⟨hx, rfl⟩
  ·rw [if_neg hx] at e; exact .inr ⟨hx, e⟩
 have htt : μ'.tok t = some ⟨F, w.heap.size, n * sz, sp, sz⟩ := by simp [μ', Mu.addTok]
 have hl : Le μ μ' := ⟨fun o b e => e, fun b off e => .inl e, fun x i e => by
   by_cases hx : x = t
   ·subst hx; exact ⟨_, htt, (ht i e).2.symm, Nat.le_of_lt (ht i e).1, fun q => by have := (ht i e).1; simp at q; omega⟩
   ·exact ⟨i, by simp only [μ', Mu.addTok]; rw [if_neg hx]; exact e, rfl, Nat.le_refl _, fun _ => rfl⟩⟩
 have hk : ComKeep μ w w' := fun b off hc => cell_of_heap (push_lt hp (r.com b off hc).2.2) off
 have hsz := push_size hp
 have hcells : Cells μ' w' cs w.heap.size 0 := Cells.mk fun i x hx => by
  have hi : i < n * sz := by rw [← hcs]; exact (List.getElem?_eq_some_iff.1 hx).1
  refine ⟨.inr ⟨rfl, by omega, by simpa using hi⟩, ?_⟩
  obtain ⟨u, hu, hv⟩ := hV.get i x hx
  rw [List.getElem?_take, if_pos hi] at hu
  exact ⟨u, by rw [cell_row (push_eq hp), Nat.zero_add]; simpa using hu, V.mono hl hk _ _ hv⟩
 refine ⟨⟨hl, ?_, by omega, fun b hb _ _ => push_lt hp hb, hk, by omega, by omega, fun o b e => .inl e, fun x i e => ?_, fun b off hc => ?_, env⟩, hcells, htt⟩
 ·refine ⟨by have := r.base; omega, fun o b e => ?_, r.inj, fun b off hc => ?_, fun x i e => ?_, fun x x' i i' e e' hb => ?_, fun x i o e e' => ?_, fun o ho => r.next o (by omega), fun x hx => ?_, fun g cs hg => Cells.mono hl hk _ _ _ (r.glob g cs hg)⟩
  ·obtain ⟨h0, ob', h1, h2⟩ := r.obj o b e
   exact ⟨h0, ob', by simp only [AH.get] at h1 ⊢; rw [hobjs]; exact h1, ORel.mono hl hk (by omega) (push_lt hp h2.lt) h2⟩
  ·rcases hc with hc | ⟨hb, _, ho⟩
   ·obtain ⟨h0, h1, h2⟩ := r.com b off hc
    refine ⟨h0, fun x i e hb => ?_, by omega⟩
    rcases htok x i e with ⟨rfl, rfl⟩ | ⟨_, e⟩
    ·simp at hb; omega
    ·exact h1 x i e hb
   ·simp at hb ho
    refine ⟨fun o e => ?_, fun x i e hb' => ?_, by omega⟩
    ·have := r.obj_lt e; omega
    ·rcases htok x i e with ⟨rfl, rfl⟩ | ⟨_, e⟩
     ·exact ho
     ·have := r.tok_lt e; omega
  ·rcases htok x i e with ⟨rfl, rfl⟩ | ⟨hx, e⟩
   ·exact ⟨r.base, by rw [htoks, if_pos rfl], vs, ty, push_eq hp, by simp [hvs]⟩
   ·obtain ⟨h0, h1, vs', ty', h2, h3⟩ := r.tok x i e
    exact ⟨h0, by rw [htoks, if_neg hx]; exact h1, vs', ty', (push_lt hp (r.tok_lt e)).trans h2, h3⟩
  ·rcases htok x i e with ⟨rfl, rfl⟩ | ⟨hx, f⟩
   ·rcases htok x' i' e' with ⟨rfl, rfl⟩ | ⟨hx', f'⟩
    ·rfl
    ·have := r.tok_lt f'; simp at hb; omega
   ·rcases htok x' i' e' with ⟨rfl, rfl⟩ | ⟨hx', f'⟩
    ·have := r.tok_lt f; simp at hb; omega
    ·exact r.tinj x x' i i' f f' hb
  ·rcases htok x i e with ⟨rfl, rfl⟩ | ⟨hx, e⟩
   ·have := r.obj_lt e'; simp at this
   ·exact r.sep x i o e e'
  ·simp only [μ', Mu.addTok]
   rw [if_neg (by omega)]
   exact r.tnext x (by omega)
 ·rcases htok x i e with ⟨rfl, rfl⟩ | ⟨hx, e⟩
  ·exact .inr ⟨htn, Nat.le_refl _⟩
  ·exact .inl ⟨i, e, rfl⟩
 ·rcases hc with hc | ⟨hb, _⟩
  ·exact .inl hc
  ·simp at hb; exact .inr (.inl (by omega))
theorem step_row_more (r : R B0 G μ h w) {t n m : Nat} {i : TokI} (hi : μ.tok t = some i) {vs vs' : Array Value} {ty : TypeId} (hv : w.heap[i.b]? = some (.cells vs ty (0, 0)))
  (hw : w'.heap.size = w.heap.size ∧ w'.heap[i.b]? = some (.cells vs' ty (0, 0)) ∧ ∀ b, b ≠ i.b → w'.heap[b]? = w.heap[b]?) (env : Env w w')
  {cs : List AV} {us : List Value} (hcs : cs.length = m * i.sz) (hV : Vs μ w cs us) (hm : 0 < m) (hsp : m ≤ i.sp) (hn : n = i.F + m)
  (hvs : vs'.size = vs.size ∧ (∀ j, j < i.e → vs'[j]? = vs[j]?) ∧ ∀ j u, us[j]? = some u → vs'[i.e + j]? = some u) :
  let i' : TokI := ⟨n, i.b, i.e + m * i.sz, i.sp - m, i.sz⟩
  let μ' := μ.addTok t i' i.e
  Step B0 G μ h w μ' (h.setTok t n) w' ∧ Cells μ' w' cs i.b i.e ∧ μ'.tok t = some i' := by
 intro i' μ'
 obtain ⟨hsz, hb', hoth⟩ := hw
 obtain ⟨hvsz, hlow, hnew⟩ := hvs
 have htok : ∀ x j, μ'.tok x = some j → (x = t ∧ j = i') ∨ (x ≠ t ∧ μ.tok x = some j) := fun x j e => by
  simp only [μ', Mu.addTok] at e
  by_cases hx : x = t
  ·rw [if_pos hx] at e; cases e; exact .inl ⟨hx, rfl⟩
  ·rw [if_neg hx] at e; exact .inr ⟨hx, e⟩
 have htt : μ'.tok t = some i' := by simp [μ', Mu.addTok]
 have hl : Le μ μ' := ⟨fun o b e => e, fun b off e => .inl e, fun x j e => by
   by_cases hx : x = t
   ·subst hx; rw [hi] at e; cases e; exact ⟨_, htt, rfl, by simp only [i']; omega, fun q => by simp only [i'] at q; omega⟩
   ·exact ⟨j, by simp only [μ', Mu.addTok]; rw [if_neg hx]; exact e, rfl, Nat.le_refl _, fun _ => rfl⟩⟩
 have hk : ComKeep μ w w' := fun b off hc => by
  by_cases hbe : b = i.b
  ·subst hbe
   rw [cell_row hb', cell_row hv]
   exact hlow off ((r.com _ off hc).2.1 t i hi rfl)
  ·exact cell_of_heap (hoth b hbe) off
 obtain ⟨hB, htokF, vs0, ty0, hv0, hcap⟩ := r.tok t i hi
 rw [hv] at hv0; cases hv0
 have hlen := hV.length
 have hcells : Cells μ' w' cs i.b i.e := Cells.mk fun j x hx => by
  have hj : j < m * i.sz := by rw [← hcs]; exact (List.getElem?_eq_some_iff.1 hx).1
  refine ⟨.inr ⟨rfl, by omega, by simp only [i']; omega⟩, ?_⟩
  obtain ⟨u, hu, hxv⟩ := hV.get j x hx
  exact ⟨u, by rw [cell_row hb']; exact hnew j u hu, V.mono hl hk _ _ hxv⟩
 refine ⟨⟨hl, ?_, by omega, fun b _ _ hbt => hoth b fun e => hbt t i hi e.symm, hk, Nat.le_refl _, Nat.le_refl _, fun o b e => .inl e, fun x j e => ?_, fun b off hc => ?_, env⟩, hcells, htt⟩
 ·refine ⟨by have := r.base; omega, fun o b e => ?_, r.inj, fun b off hc => ?_, fun x j e => ?_, fun x x' j j' e e' hb => ?_, fun x j o e e' => ?_, r.next, fun x hx => ?_, fun g cs hg => Cells.mono hl hk _ _ _ (r.glob g cs hg)⟩
  ·obtain ⟨h0, ob', h1, h2⟩ := r.obj o b e
   exact ⟨h0, ob', h1, ORel.mono hl hk (by omega) (hoth b fun q => r.sep t i o hi (show μ.obj o = some i.b from q ▸ e)) h2⟩
  ·rcases hc with hc | ⟨hb, hlo, ho⟩
   ·obtain ⟨h0, h1, h2⟩ := r.com b off hc
    refine ⟨h0, fun x j e hb => ?_, by omega⟩
    rcases htok x j e with ⟨rfl, rfl⟩ | ⟨_, e⟩
    ·have := h1 x i hi hb; simp only [i']; omega
    ·exact h1 x j e hb
   ·simp only [i'] at hb ho
    subst hb
    have := r.tok_lt hi
    refine ⟨fun o e => r.sep t i o hi e, fun x j e hb' => ?_, by omega⟩
    rcases htok x j e with ⟨rfl, rfl⟩ | ⟨hx, e⟩
    ·exact ho
    ·exact absurd (r.tinj x t j i e hi hb') hx
  ·rcases htok x j e with ⟨rfl, rfl⟩ | ⟨hx, e⟩
   ·refine ⟨hB, by rw [AH.tok_setTok, if_pos rfl], vs', ty, hb', ?_⟩
    simp only [i']
    rw [hvsz, ← hcap, Nat.sub_mul]
    have : m * i.sz ≤ i.sp * i.sz := Nat.mul_le_mul_right _ hsp
    omega
   ·obtain ⟨h0, h1, vs2, ty2, h2, h3⟩ := r.tok x j e
    exact ⟨h0, by rw [AH.tok_setTok, if_neg hx]; exact h1, vs2, ty2, (hoth _ fun q => hx (r.tinj x t j i e hi q)).trans h2, h3⟩
  ·rcases htok x j e with ⟨rfl, rfl⟩ | ⟨hx, f⟩
   ·rcases htok x' j' e' with ⟨rfl, rfl⟩ | ⟨hx', f'⟩
    ·rfl
    ·exact r.tinj _ _ i j' hi f' hb
   ·rcases htok x' j' e' with ⟨rfl, rfl⟩ | ⟨hx', f'⟩
    ·exact r.tinj _ _ j i f hi hb
    ·exact r.tinj x x' j j' f f' hb
  ·rcases htok x j e with ⟨rfl, rfl⟩ | ⟨hx, e⟩
   ·exact r.sep x i o hi e'
   ·exact r.sep x j o e e'
  ·simp only [μ', Mu.addTok]
   have hx' : h.tnext ≤ x := hx
   have hne : x ≠ t := fun q => by subst q; have := r.tnext x hx'; rw [hi] at this; cases this
   rw [if_neg hne]
   exact r.tnext x hx'
 ·rcases htok x j e with ⟨rfl, rfl⟩ | ⟨hx, e⟩
  ·exact .inl ⟨i, hi, rfl⟩
  ·exact .inl ⟨j, e, rfl⟩
 ·rcases hc with hc | ⟨hb, _⟩
  ·exact .inl hc
  ·exact .inr (.inr ⟨t, i, hi, hb.symm⟩)
theorem step_set_obj (r : R B0 G μ h w) {o b : Nat} (ho : μ.obj o = some b) {ob : AObj} {x : Obj}
  (hw : w'.heap.size = w.heap.size ∧ w'.heap[b]? = some x ∧ ∀ b', b' ≠ b → w'.heap[b']? = w.heap[b']?) (env : Env w w')
  (hor : ∀ w', ComKeep μ w w' → w'.heap[b]? = some x → ORel μ w' ob b) : Step B0 G μ h w μ (h.set o ob) w' := by
 obtain ⟨hsz, hb', hoth⟩ := hw
 have hk : ComKeep μ w w' := fun b' off hc => cell_of_heap (hoth b' fun e => (r.com b' off hc).1 o (by rw [ho, e])) off
 refine ⟨Le.refl _, ?_, by omega, fun b' _ hbo _ => hoth b' fun e => hbo o (by rw [ho, e]), hk, Nat.le_refl _, Nat.le_refl _, fun _ _ e => .inl e, fun _ i e => .inl ⟨i, e, rfl⟩, fun _ _ e => .inl e, env⟩
 refine ⟨by have := r.base; omega, fun o' b' e => ?_, r.inj, fun b' off hc => ?_, fun t i e => ?_, r.tinj, r.sep, r.next, r.tnext, fun g cs hg => Cells.mono (Le.refl _) hk _ _ _ (r.glob g cs hg)⟩
 ·by_cases hoo : o' = o
  ·subst hoo
   rw [ho] at e; cases e
   exact ⟨(r.obj o' b ho).1, ob, by rw [AH.get_set, if_pos rfl], hor w' hk hb'⟩
  ·obtain ⟨h0, ob', h1, h2⟩ := r.obj o' b' e
   exact ⟨h0, ob', by rw [AH.get_set, if_neg hoo]; exact h1, ORel.mono (Le.refl _) hk (by omega) (hoth b' fun q => hoo (r.inj o' o b' e (by rw [ho, q]))) h2⟩
 ·obtain ⟨h0, h1, h2⟩ := r.com b' off hc
  exact ⟨h0, h1, by omega⟩
 ·obtain ⟨h0, h1, vs, ty, h2, h3⟩ := r.tok t i e
  exact ⟨h0, h1, vs, ty, (hoth _ fun q => r.sep t i o e (by rw [ho, q])).trans h2, h3⟩
structure RC (B0 : Nat) (G : Nat → Option (List AV)) (μ : Mu) (C : Nat → Option AObj) (D : Nat → Option Nat) (w : World) : Prop where
 base : B0 ≤ w.heap.size
 obj : ∀ o b, μ.obj o = some b → B0 ≤ b ∧ ∃ ob, C o = some ob ∧ ORel μ w ob b
 inj : ∀ o o' b, μ.obj o = some b → μ.obj o' = some b → o = o'
 com : ∀ b off, μ.com b off → (∀ o, μ.obj o ≠ some b) ∧ (∀ t i, μ.tok t = some i → i.b = b → off < i.e) ∧ b < w.heap.size
 tok : ∀ t i, μ.tok t = some i → B0 ≤ i.b ∧ D t = some i.F ∧ ∃ vs ty, w.heap[i.b]? = some (.cells vs ty (0, 0)) ∧ i.e + i.sp * i.sz = vs.size
 tinj : ∀ t t' i i', μ.tok t = some i → μ.tok t' = some i' → i.b = i'.b → t = t'
 sep : ∀ t i o, μ.tok t = some i → μ.obj o ≠ some i.b
 glob : ∀ g cs, G g = some cs → Cells μ w cs g 0
theorem R.rc (r : R B0 G μ h w) : RC B0 G μ h.get h.tok w := ⟨r.base, r.obj, r.inj, r.com, r.tok, r.tinj, r.sep, r.glob⟩
theorem RC.of {C : Nat → Option AObj} {D : Nat → Option Nat} (r : RC B0 G μ C D w) (hC : ∀ o b, μ.obj o = some b → h.get o = C o) (hD : ∀ t i, μ.tok t = some i → h.tok t = D t) (h1 : ∀ o, h.next ≤ o → μ.obj o = none) (h2 : ∀ t, h.tnext ≤ t → μ.tok t = none) : R B0 G μ h w :=
 ⟨r.base, fun o b e => by obtain ⟨q, ob, h3, h4⟩ := r.obj o b e; exact ⟨q, ob, (hC o b e).trans h3, h4⟩, r.inj, r.com, fun t i e => by obtain ⟨q, h3, h4⟩ := r.tok t i e; exact ⟨q, (hD t i e).trans h3, h4⟩, r.tinj, r.sep, h1, h2, r.glob⟩
structure SC (μ : Mu) (w : World) (μ' : Mu) (w' : World) : Prop where
 le : Le μ μ'
 size : w.heap.size ≤ w'.heap.size
 keep : ∀ b, b < w.heap.size → (∀ o, μ.obj o ≠ some b) → (∀ t i, μ.tok t = some i → i.b ≠ b) → w'.heap[b]? = w.heap[b]?
 com : ComKeep μ w w'
 newo : ∀ o b, μ'.obj o = some b → μ.obj o = some b ∨ w.heap.size ≤ b
 newt : ∀ t i, μ'.tok t = some i → (∃ j, μ.tok t = some j ∧ j.b = i.b) ∨ w.heap.size ≤ i.b
 newc : ∀ b off, μ'.com b off → μ.com b off ∨ w.heap.size ≤ b ∨ ∃ t i, μ.tok t = some i ∧ i.b = b
 env : Env w w'
theorem Step.sc {μ' : Mu} {h' : AH} (s : Step B0 G μ h w μ' h' w') : SC μ w μ' w' := ⟨s.le, s.size, s.keep, s.com, fun o b e => (s.newo o b e).imp id (·.2), fun t i e => (s.newt t i e).imp id (·.2), s.newc, s.env⟩
theorem SC.refl : SC μ w μ w := ⟨Le.refl _, Nat.le_refl _, fun _ _ _ _ => rfl, fun _ _ _ => rfl, fun _ _ h => .inl h, fun _ i h => .inl ⟨i, h, rfl⟩, fun _ _ h => .inl h, Env.refl _⟩
theorem SC.trans {μ1 μ2 : Mu} {w1 w2 : World} (s : SC μ w μ1 w1) (t : SC μ1 w1 μ2 w2) : SC μ w μ2 w2 where
 le := s.le.trans t.le
 size := Nat.le_trans s.size t.size
 keep := fun b hb ho ht => (t.keep b (Nat.lt_of_lt_of_le hb s.size)
  (fun o e => by rcases s.newo o b e with h | h; exact ho o h; omega)
  (fun q i hi e => by
   rcases s.newt q i hi with ⟨j, hj, he⟩ | h
   ·exact ht q j hj (he.trans e)
   ·omega)).trans (s.keep b hb ho ht)
 com := fun b off hc => (t.com b off (s.le.com b off hc)).trans (s.com b off hc)
 newo := fun o b e => by
  rcases t.newo o b e with h | h
  ·exact s.newo o b h
  ·exact .inr (Nat.le_trans s.size h)
 newt := fun q i e => by
  rcases t.newt q i e with ⟨j, hj, he⟩ | h
  ·rcases s.newt q j hj with ⟨k, hk, hke⟩ | h
   ·exact .inl ⟨k, hk, hke.trans he⟩
   ·exact .inr (by omega)
  ·exact .inr (Nat.le_trans s.size h)
 newc := fun b off e => by
  rcases t.newc b off e with h | h | ⟨q, i, hi, hb⟩
  ·exact s.newc b off h
  ·exact .inr (.inl (Nat.le_trans s.size h))
  ·rcases s.newt q i hi with ⟨j, hj, he⟩ | h
   ·exact .inr (.inr ⟨q, j, hj, he.trans hb⟩)
   ·exact .inr (.inl (by omega))
 env := s.env.trans t.env
theorem rc_new_obj {C C' : Nat → Option AObj} {D : Nat → Option Nat} (r : RC B0 G μ C D w) {o : Obj} (hp : HPush w w' o) {ob : AObj} {id : Nat} (hn : μ.obj id = none)
  (hC : C' id = some ob ∧ ∀ x b, μ.obj x = some b → C' x = C x)
  (hor : ∀ μ' w', Le μ μ' → ComKeep μ w w' → w'.heap[w.heap.size]? = some o → ORel μ' w' ob w.heap.size) :
  SC μ w (μ.addObj id w.heap.size) w' ∧ RC B0 G (μ.addObj id w.heap.size) C' D w' ∧ (μ.addObj id w.heap.size).obj id = some w.heap.size := by
 have env := hp.2
 replace hp := hp.1
 have objlt : ∀ {o b}, μ.obj o = some b → b < w.heap.size := fun e => by obtain ⟨_, _, _, hr⟩ := r.obj _ _ e; exact hr.lt
 have toklt : ∀ {t i}, μ.tok t = some i → i.b < w.heap.size := fun e => by obtain ⟨_, _, vs, ty, hv, _⟩ := r.tok _ _ e; exact (Array.getElem?_eq_some_iff.1 hv).1
 have hl : Le μ (μ.addObj id w.heap.size) := ⟨fun o b e => by
   simp only [Mu.addObj]
   by_cases ho : o = id
   ·subst ho; rw [hn] at e; cases e
   ·rw [if_neg ho]; exact e, fun _ _ e => e, fun t i e => ⟨i, e, rfl, Nat.le_refl _, fun _ => rfl⟩⟩
 have hk : ComKeep μ w w' := fun b off hc => cell_of_heap (push_lt hp (r.com b off hc).2.2) off
 have hsz := push_size hp
 have hcase : ∀ o b, (μ.addObj id w.heap.size).obj o = some b → (o = id ∧ b = w.heap.size) ∨ (o ≠ id ∧ μ.obj o = some b) := fun o b e => by
  simp only [Mu.addObj] at e
  by_cases ho : o = id
  ·rw [if_pos ho] at e; cases e; exact .inl ⟨ho, rfl⟩
  ·rw [if_neg ho] at e; exact .inr ⟨ho, e⟩
 refine ⟨⟨hl, by omega, fun b hb _ _ => push_lt hp hb, hk, fun o b e => ?_, fun t i e => .inl ⟨i, e, rfl⟩, fun _ _ e => .inl e, env⟩, ?_, by simp [Mu.addObj]⟩
 ·rcases hcase o b e with ⟨rfl, rfl⟩ | ⟨ho, e⟩
  ·exact .inr (Nat.le_refl _)
  ·exact .inl e
 ·refine ⟨by have := r.base; omega, fun o b e => ?_, fun o o' b e e' => ?_, fun b off hc => ?_, fun t i e => ?_, r.tinj, fun t i o e e' => ?_, fun g cs hg => Cells.mono hl hk _ _ _ (r.glob g cs hg)⟩
  ·rcases hcase o b e with ⟨rfl, rfl⟩ | ⟨ho, e⟩
   ·exact ⟨r.base, ob, hC.1, hor _ _ hl hk (push_eq hp)⟩
   ·obtain ⟨h0, ob', h1, h2⟩ := r.obj o b e
    exact ⟨h0, ob', (hC.2 o b e).trans h1, ORel.mono hl hk (by omega) (push_lt hp h2.lt) h2⟩
  ·rcases hcase o b e with ⟨rfl, rfl⟩ | ⟨ho, f⟩
   ·rcases hcase o' _ e' with ⟨rfl, hb'⟩ | ⟨ho', f'⟩
    ·rfl
    ·exact absurd (objlt f') (by omega)
   ·rcases hcase o' _ e' with ⟨rfl, hb'⟩ | ⟨ho', f'⟩
    ·subst hb'; exact absurd (objlt f) (by omega)
    ·exact r.inj o o' b f f'
  ·obtain ⟨h0, h1, h2⟩ := r.com b off hc
   refine ⟨fun o e => ?_, h1, by omega⟩
   rcases hcase o b e with ⟨rfl, rfl⟩ | ⟨ho, e⟩
   ·omega
   ·exact h0 o e
  ·obtain ⟨h0, h1, vs, ty, h2, h3⟩ := r.tok t i e
   exact ⟨h0, h1, vs, ty, (push_lt hp (toklt e)).trans h2, h3⟩
  ·rcases hcase o _ e' with ⟨rfl, hb⟩ | ⟨ho, e'⟩
   ·exact absurd (toklt e) (by omega)
   ·exact r.sep t i o e e'
theorem rc_new_row {C : Nat → Option AObj} {D D' : Nat → Option Nat} (r : RC B0 G μ C D w) {vs : Array Value} {ty : TypeId} (hp : HPush w w' (.cells vs ty (0, 0))) {t n sz sp : Nat} {cs : List AV}
  (hcs : cs.length = n * sz) (hvs : vs.size = n * sz + sp * sz) (hV : Vs μ w cs (vs.toList.take (n * sz)))
  (hD : D' t = some n ∧ ∀ x i, μ.tok x = some i → D' x = D x) (ht : μ.tok t = none) :
  let μ' := μ.addTok t ⟨n, w.heap.size, n * sz, sp, sz⟩ 0
  SC μ w μ' w' ∧ RC B0 G μ' C D' w' ∧ Cells μ' w' cs w.heap.size 0 ∧ μ'.tok t = some ⟨n, w.heap.size, n * sz, sp, sz⟩ := by
 have env := hp.2
 replace hp := hp.1
 intro μ'
 have objlt : ∀ {o b}, μ.obj o = some b → b < w.heap.size := fun e => by obtain ⟨_, _, _, hr⟩ := r.obj _ _ e; exact hr.lt
 have toklt : ∀ {t i}, μ.tok t = some i → i.b < w.heap.size := fun e => by obtain ⟨_, _, vs, ty, hv, _⟩ := r.tok _ _ e; exact (Array.getElem?_eq_some_iff.1 hv).1
 have htok : ∀ x i, μ'.tok x = some i → (x = t ∧ i = ⟨n, w.heap.size, n * sz, sp, sz⟩) ∨ (x ≠ t ∧ μ.tok x = some i) := fun x i e => by
  simp only [μ', Mu.addTok] at e
  by_cases hx : x = t
  ·rw [if_pos hx] at e; cases e; exact .inl ⟨hx, rfl⟩
  ·rw [if_neg hx] at e; exact .inr ⟨hx, e⟩
 have htt : μ'.tok t = some ⟨n, w.heap.size, n * sz, sp, sz⟩ := by simp [μ', Mu.addTok]
 have hl : Le μ μ' := ⟨fun o b e => e, fun b off e => .inl e, fun x i e => by
   by_cases hx : x = t
   ·subst hx; rw [ht] at e; cases e
   ·exact ⟨i, by simp only [μ', Mu.addTok]; rw [if_neg hx]; exact e, rfl, Nat.le_refl _, fun _ => rfl⟩⟩
 have hk : ComKeep μ w w' := fun b off hc => cell_of_heap (push_lt hp (r.com b off hc).2.2) off
 have hsz := push_size hp
 have hcells : Cells μ' w' cs w.heap.size 0 := Cells.mk fun i x hx => by
  have hi : i < n * sz := by rw [← hcs]; exact (List.getElem?_eq_some_iff.1 hx).1
  refine ⟨.inr ⟨rfl, by omega, by simpa using hi⟩, ?_⟩
  obtain ⟨u, hu, hv⟩ := hV.get i x hx
  rw [List.getElem?_take, if_pos hi] at hu
  exact ⟨u, by rw [cell_row (push_eq hp), Nat.zero_add]; simpa using hu, V.mono hl hk _ _ hv⟩
 refine ⟨⟨hl, by omega, fun b hb _ _ => push_lt hp hb, hk, fun o b e => .inl e, fun x i e => ?_, fun b off hc => ?_, env⟩, ?_, hcells, htt⟩
 ·rcases htok x i e with ⟨rfl, rfl⟩ | ⟨hx, e⟩
  ·exact .inr (Nat.le_refl _)
  ·exact .inl ⟨i, e, rfl⟩
 ·rcases hc with hc | ⟨hb, _⟩
  ·exact .inl hc
  ·simp at hb; exact .inr (.inl (by omega))
 ·refine ⟨by have := r.base; omega, fun o b e => ?_, r.inj, fun b off hc => ?_, fun x i e => ?_, fun x x' i i' e e' hb => ?_, fun x i o e e' => ?_, fun g cs hg => Cells.mono hl hk _ _ _ (r.glob g cs hg)⟩
  ·obtain ⟨h0, ob', h1, h2⟩ := r.obj o b e
   exact ⟨h0, ob', h1, ORel.mono hl hk (by omega) (push_lt hp h2.lt) h2⟩
  ·rcases hc with hc | ⟨hb, _, ho⟩
   ·obtain ⟨h0, h1, h2⟩ := r.com b off hc
    refine ⟨h0, fun x i e hb => ?_, by omega⟩
    rcases htok x i e with ⟨rfl, rfl⟩ | ⟨_, e⟩
    ·simp at hb; omega
    ·exact h1 x i e hb
   ·simp at hb ho
    refine ⟨fun o e => ?_, fun x i e hb' => ?_, by omega⟩
    ·have := objlt e; omega
    ·rcases htok x i e with ⟨rfl, rfl⟩ | ⟨_, e⟩
     ·exact ho
     ·have := toklt e; omega
  ·rcases htok x i e with ⟨rfl, rfl⟩ | ⟨hx, e⟩
   ·exact ⟨r.base, hD.1, vs, ty, push_eq hp, by simp [hvs]⟩
   ·obtain ⟨h0, h1, vs', ty', h2, h3⟩ := r.tok x i e
    exact ⟨h0, (hD.2 x i e).trans h1, vs', ty', (push_lt hp (toklt e)).trans h2, h3⟩
  ·rcases htok x i e with ⟨rfl, rfl⟩ | ⟨hx, f⟩
   ·rcases htok x' i' e' with ⟨rfl, rfl⟩ | ⟨hx', f'⟩
    ·rfl
    ·have := toklt f'; simp at hb; omega
   ·rcases htok x' i' e' with ⟨rfl, rfl⟩ | ⟨hx', f'⟩
    ·have := toklt f; simp at hb; omega
    ·exact r.tinj x x' i i' f f' hb
  ·rcases htok x i e with ⟨rfl, rfl⟩ | ⟨hx, e⟩
   ·have := objlt e'; simp at this
   ·exact r.sep x i o e e'
end
end
end Go.Proofs.YtcjlpklgnknpgaaGreatDoor.Pg
