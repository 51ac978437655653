/-
  Pg, part 1: abstract values, the abstract heap, and what they say of the model's values and memory.
-/
import Derived.Calls
import Derived.Orders
namespace Go.Proofs.YtkcbhebbjpiibaaDoor.Pg
open Go

/-! ### Tries -/
inductive T (α : Type) where
  | nil : T α
  | node (v : Option α) (l r : T α) : T α
  | fn (f : Nat → Option α) : T α
namespace T
variable {α : Type}
def get : T α → Nat → Option α
  | .nil, _ => none
  | .node v l r, n => if n = 0 then v else if n % 2 = 1 then l.get (n / 2) else r.get (n / 2 - 1)
  | .fn f, n => f n
def val : T α → Option α
  | .nil => none
  | .node v _ _ => v
  | .fn f => f 0
def left : T α → T α
  | .nil => .nil
  | .node _ l _ => l
  | .fn f => .fn fun k => f (2 * k + 1)
def right : T α → T α
  | .nil => .nil
  | .node _ _ r => r
  | .fn f => .fn fun k => f (2 * k + 2)
theorem get_eq (t : T α) (n : Nat) : t.get n = if n = 0 then t.val else if n % 2 = 1 then t.left.get (n / 2) else t.right.get (n / 2 - 1) := by
  cases t with
  | nil => simp [get, val, left, right]
  | node v l r => rfl
  | fn f =>
    simp only [get, val, left, right]
    by_cases h0 : n = 0
    · rw [if_pos h0, h0]
    · rw [if_neg h0]
      by_cases h1 : n % 2 = 1
      · rw [if_pos h1]; congr 1; omega
      · rw [if_neg h1]; congr 1; omega
def setF : Nat → T α → Nat → α → T α
  | 0, t, _, _ => t
  | f + 1, t, n, x => if n = 0 then .node (some x) t.left t.right else if n % 2 = 1 then .node t.val (setF f t.left (n / 2) x) t.right else .node t.val t.left (setF f t.right (n / 2 - 1) x)
def set (t : T α) (n : Nat) (x : α) : T α := setF (n + 1) t n x
theorem get_setF (x : α) : ∀ (f : Nat) (t : T α) (n m : Nat), n < f → (setF f t n x).get m = if m = n then some x else t.get m
  | 0, _, _, _, h => by omega
  | f + 1, t, n, m, h => by
    rw [setF]
    by_cases h0 : n = 0
    · subst h0
      rw [if_pos rfl, get]
      by_cases hm : m = 0
      · simp [hm]
      · rw [if_neg hm, if_neg hm, get_eq t m, if_neg hm]
    · rw [if_neg h0]
      by_cases h1 : n % 2 = 1
      · rw [if_pos h1, get]
        by_cases hm : m = 0
        · rw [if_pos hm, if_neg (by omega), get_eq t m, if_pos hm]
        · rw [if_neg hm]
          by_cases hm1 : m % 2 = 1
          · rw [if_pos hm1, get_setF x f _ _ _ (by omega), get_eq t m, if_neg hm, if_pos hm1]
            by_cases e : m = n
            · rw [if_pos e, if_pos (by omega)]
            · rw [if_neg e, if_neg (by omega)]
          · rw [if_neg hm1, if_neg (by omega), get_eq t m, if_neg hm, if_neg hm1]
      · rw [if_neg h1, get]
        by_cases hm : m = 0
        · rw [if_pos hm, if_neg (by omega), get_eq t m, if_pos hm]
        · rw [if_neg hm]
          by_cases hm1 : m % 2 = 1
          · rw [if_pos hm1, if_neg (by omega), get_eq t m, if_neg hm, if_pos hm1]
          · rw [if_neg hm1, get_setF x f _ _ _ (by omega), get_eq t m, if_neg hm, if_neg hm1]
            by_cases e : m = n
            · rw [if_pos e, if_pos (by omega)]
            · rw [if_neg e, if_neg (by omega)]
theorem get_set (t : T α) (n m : Nat) (x : α) : (t.set n x).get m = if m = n then some x else t.get m := get_setF x (n + 1) t n m (by omega)
theorem get_set_self (t : T α) (n : Nat) (x : α) : (t.set n x).get n = some x := by rw [get_set, if_pos rfl]
theorem get_set_ne (t : T α) {n m : Nat} (x : α) (h : m ≠ n) : (t.set n x).get m = t.get m := by rw [get_set, if_neg h]
theorem get_nil (n : Nat) : (T.nil : T α).get n = none := rfl
end T

/-! ### Abstract values -/
inductive Tok where
  | nil
  | none
  | own (t k s : Nat)

inductive AV where
  | v (x : Value)
  | ptr (o off : Nat)
  | arr (o off n : Nat)
  | cptr (cs : List AV)
  | sl (tok : Tok) (n : Nat) (cs : List AV)
  | mp (o : Nat)
  | fn (f : Fn) (first cap : List AV)
  | ifc (t : TypeId) (x : AV)
  | agg (cs : List AV)
  | tup (vs : List AV)
  | any

instance : Inhabited AV := ⟨.v undef⟩

def plain : Value → Bool
  | .bool _ | .int _ _ | .string _ | .pointer none | .nilFunc | .nilIface | .map none => true
  | .tuple a => a.isEmpty
  | _ => false

mutual
/-- A constant as an abstract value. -/
def ofV : Nat → Value → Option AV
  | 0, _ => none
  | k + 1, x => match x with
    | .slice none 0 0 => some (.sl .nil 0 [])
    | .agg cs => (ofVs k cs.toList).map .agg
    | .iface t y => (ofV k y).map (.ifc t)
    | .func f first cap => match ofVs k first.toList, ofVs k cap.toList with
      | some a, some b => some (.fn f a b)
      | _, _ => none
    | x => if plain x then some (.v x) else none
def ofVs : Nat → List Value → Option (List AV)
  | 0, _ => none
  | _ + 1, [] => some []
  | k + 1, x :: xs => match ofV k x, ofVs k xs with
    | some y, some ys => some (y :: ys)
    | _, _ => none
end

/-- The cells that a value fills. -/
def AV.cells : AV → List AV
  | .agg cs => cs
  | x => [x]
/-- May it stand in one cell? -/
def AV.one : AV → Bool
  | .agg _ | .tup _ | .any => false
  | .v (.tuple _) => false
  | _ => true

/-! ### Frames and heaps -/
structure Fr where
  n : Nat
  t : T AV
def AV.known : AV → Bool
  | .any => false
  | _ => true
def Fr.get (fr : Fr) (i : Nat) : AV := (fr.t.get i).getD .any
def Fr.set (fr : Fr) (d : Nat) (x : AV) : Fr := { fr with t := fr.t.set d x }
def Fr.put (fr : Fr) : Option Tmp → AV → Option Fr
  | none, _ => some fr
  | some d, x => if d < fr.n then some (fr.set d x) else none
theorem Fr.get_set (fr : Fr) (d i : Nat) (x : AV) : (fr.set d x).get i = if i = d then x else fr.get i := by
  unfold Fr.get Fr.set
  rw [T.get_set]
  by_cases h : i = d <;> simp [h]
theorem Fr.get_set_self (fr : Fr) (d : Nat) (x : AV) : (fr.set d x).get d = x := by rw [Fr.get_set, if_pos rfl]
theorem Fr.get_set_ne (fr : Fr) {d i : Nat} (x : AV) (h : i ≠ d) : (fr.set d x).get i = fr.get i := by rw [Fr.get_set, if_neg h]
def Fr.ofArgs (n : Nat) (args : List AV) : Fr := { n := max args.length n, t := (args.zipIdx.foldl (fun t p => t.set p.2 p.1) T.nil) }

inductive AObj where
  | cells (e : TypeId) (cs : List AV)
  | map (es : List (Value × AV))
  | dead

structure AH where
  next : Nat
  objs : T AObj
  tnext : Nat
  toks : T Nat
def AH.empty : AH := { next := 0, objs := .nil, tnext := 0, toks := .nil }
def AH.get (h : AH) (o : Nat) : Option AObj := h.objs.get o
def AH.set (h : AH) (o : Nat) (x : AObj) : AH := { h with objs := h.objs.set o x }
def AH.push (h : AH) (x : AObj) : AH := { h with next := h.next + 1, objs := h.objs.set h.next x }
def AH.tok (h : AH) (t : Nat) : Option Nat := h.toks.get t
def AH.setTok (h : AH) (t : Nat) (F : Nat) : AH := { h with toks := h.toks.set t F }
def AH.pushTok (h : AH) (F : Nat) : AH := { h with tnext := h.tnext + 1, toks := h.toks.set h.tnext F }

/-! ### What they say of memory -/
structure TokI where
  (F b e sp sz : Nat)
structure Mu where
  obj : Nat → Option Nat
  com : Nat → Nat → Prop
  tok : Nat → Option TokI

mutual
def V (μ : Mu) (w : World) : AV → Value → Prop
  | .v x, u => plain x = true ∧ u = x
  | .ptr o off, u => ∃ b, μ.obj o = some b ∧ u = .pointer (some ⟨b, off, none⟩)
  | .arr o off n, u => ∃ b c, μ.obj o = some b ∧ u = .slice (some ⟨b, off, none⟩) n c ∧ n ≤ c
  | .cptr cs, u => ∃ b off, u = .pointer (some ⟨b, off, none⟩) ∧ Cells μ w cs b off
  | .sl .nil n cs, u => u = .slice none 0 0 ∧ n = 0 ∧ cs = []
  | .sl .none n cs, u => ∃ A c, u = .slice A n c ∧ n ≤ c ∧ (cs ≠ [] → ∃ b off, A = some ⟨b, off, none⟩ ∧ Cells μ w cs b off)
  | .sl (.own t k s) n cs, u => ∃ b off c i, u = .slice (some ⟨b, off, none⟩) n c ∧ n ≤ c ∧ Cells μ w cs b off ∧ μ.tok t = some i ∧ i.sz = s ∧ k + n ≤ i.F ∧
      (k + n = i.F → b = i.b ∧ off + n * i.sz = i.e ∧ c = n + i.sp)
  | .mp o, u => ∃ b, μ.obj o = some b ∧ u = .map (some b)
  | .fn f first cap, u => ∃ a b, u = .func f a b ∧ Vs μ w first a.toList ∧ Vs μ w cap b.toList
  | .ifc t x, u => ∃ y, u = .iface t y ∧ V μ w x y
  | .agg cs, u => ∃ us, u = .agg us ∧ Vs μ w cs us.toList
  | .tup vs, u => ∃ us, u = .tuple us ∧ Vs μ w vs us.toList
  | .any, _ => True
def Vs (μ : Mu) (w : World) : List AV → List Value → Prop
  | [], us => us = []
  | x :: xs, us => ∃ u us', us = u :: us' ∧ V μ w x u ∧ Vs μ w xs us'
def Cells (μ : Mu) (w : World) : List AV → Nat → Nat → Prop
  | [], _, _ => True
  | x :: xs, b, off => μ.com b off ∧ (∃ u, w.cell? ⟨b, off, none⟩ = some u ∧ V μ w x u) ∧ Cells μ w xs b (off + 1)
end

structure Le (μ μ' : Mu) : Prop where
  obj : ∀ o b, μ.obj o = some b → μ'.obj o = some b
  com : ∀ b off, μ.com b off → μ'.com b off
  tok : ∀ t i, μ.tok t = some i → ∃ i', μ'.tok t = some i' ∧ i'.sz = i.sz ∧ i.F ≤ i'.F ∧ (i'.F = i.F → i' = i)
theorem Le.refl (μ : Mu) : Le μ μ := ⟨fun _ _ h => h, fun _ _ h => h, fun _ i h => ⟨i, h, rfl, Nat.le_refl _, fun _ => rfl⟩⟩
theorem Le.trans {a b c : Mu} (h : Le a b) (k : Le b c) : Le a c :=
  ⟨fun o x hx => k.obj o x (h.obj o x hx), fun x y hx => k.com x y (h.com x y hx), fun t i hi => by
    obtain ⟨i', hi', hz, hF, he⟩ := h.tok t i hi
    obtain ⟨i'', hi'', hz', hF', he'⟩ := k.tok t i' hi'
    exact ⟨i'', hi'', hz'.trans hz, by omega, fun e => by rw [he' (by omega)]; exact he (by omega)⟩⟩
def ComKeep (μ : Mu) (w w' : World) : Prop := ∀ b off, μ.com b off → w'.cell? ⟨b, off, none⟩ = w.cell? ⟨b, off, none⟩

section
variable {μ μ' : Mu} {w w' : World}
mutual
theorem V.mono (hl : Le μ μ') (hk : ComKeep μ w w') : ∀ (x : AV) (u : Value), V μ w x u → V μ' w' x u
  | .v _, _, h => by simp only [V] at h ⊢; exact h
  | .ptr o off, u, h => by simp only [V] at h ⊢; obtain ⟨b, hb, e⟩ := h; exact ⟨b, hl.obj _ _ hb, e⟩
  | .arr o off n, u, h => by simp only [V] at h ⊢; obtain ⟨b, c, hb, e⟩ := h; exact ⟨b, c, hl.obj _ _ hb, e⟩
  | .cptr cs, u, h => by simp only [V] at h ⊢; obtain ⟨b, off, e, hc⟩ := h; exact ⟨b, off, e, Cells.mono hl hk cs b off hc⟩
  | .sl .nil n cs, u, h => by simp only [V] at h ⊢; exact h
  | .sl .none n cs, u, h => by
    simp only [V] at h ⊢
    obtain ⟨A, c, e, hn, hc⟩ := h
    exact ⟨A, c, e, hn, fun hne => by obtain ⟨b, off, eA, hcs⟩ := hc hne; exact ⟨b, off, eA, Cells.mono hl hk cs b off hcs⟩⟩
  | .sl (.own t k s) n cs, u, h => by
    simp only [V] at h ⊢
    obtain ⟨b, off, c, i, e, hn, hc, ht, hz, hF, hf⟩ := h
    obtain ⟨i', ht', hz', hF', he⟩ := hl.tok t i ht
    exact ⟨b, off, c, i', e, hn, Cells.mono hl hk cs b off hc, ht', hz'.trans hz, by omega, fun q => by rw [he (by omega)]; exact hf (by omega)⟩
  | .mp o, u, h => by simp only [V] at h ⊢; obtain ⟨b, hb, e⟩ := h; exact ⟨b, hl.obj _ _ hb, e⟩
  | .fn f first cap, u, h => by
    simp only [V] at h ⊢; obtain ⟨a, b, e, h1, h2⟩ := h; exact ⟨a, b, e, Vs.mono hl hk first _ h1, Vs.mono hl hk cap _ h2⟩
  | .ifc t x, u, h => by simp only [V] at h ⊢; obtain ⟨y, e, hy⟩ := h; exact ⟨y, e, V.mono hl hk x y hy⟩
  | .agg cs, u, h => by simp only [V] at h ⊢; obtain ⟨us, e, hy⟩ := h; exact ⟨us, e, Vs.mono hl hk cs _ hy⟩
  | .tup cs, u, h => by simp only [V] at h ⊢; obtain ⟨us, e, hy⟩ := h; exact ⟨us, e, Vs.mono hl hk cs _ hy⟩
  | .any, _, _ => by simp only [V]
theorem Vs.mono (hl : Le μ μ') (hk : ComKeep μ w w') : ∀ (xs : List AV) (us : List Value), Vs μ w xs us → Vs μ' w' xs us
  | [], us, h => by simp only [Vs] at h ⊢; exact h
  | x :: xs, us, h => by
    simp only [Vs] at h ⊢
    obtain ⟨u, us', e, hx, hxs⟩ := h
    exact ⟨u, us', e, V.mono hl hk x u hx, Vs.mono hl hk xs us' hxs⟩
theorem Cells.mono (hl : Le μ μ') (hk : ComKeep μ w w') : ∀ (xs : List AV) (b off : Nat), Cells μ w xs b off → Cells μ' w' xs b off
  | [], _, _, _ => by simp only [Cells]
  | x :: xs, b, off, h => by
    simp only [Cells] at h ⊢
    obtain ⟨hc, ⟨u, hu, hx⟩, hxs⟩ := h
    exact ⟨hl.com _ _ hc, ⟨u, (hk _ _ hc).trans hu, V.mono hl hk x u hx⟩, Cells.mono hl hk xs b (off + 1) hxs⟩
end
end

theorem Vs.length {μ : Mu} {w : World} : ∀ {xs : List AV} {us : List Value}, Vs μ w xs us → us.length = xs.length
  | [], _, h => by simp only [Vs] at h; simp [h]
  | x :: xs, _, h => by
    simp only [Vs] at h
    obtain ⟨u, us', rfl, _, hxs⟩ := h
    simp [hxs.length]
theorem Vs.get {μ : Mu} {w : World} : ∀ {xs : List AV} {us : List Value}, Vs μ w xs us → ∀ (i : Nat) x, xs[i]? = some x → ∃ u, us[i]? = some u ∧ V μ w x u
  | [], _, _, i, x, hi => by simp at hi
  | y :: xs, _, h, i, x, hi => by
    simp only [Vs] at h
    obtain ⟨u, us', rfl, hy, hxs⟩ := h
    cases i with
    | zero => simp at hi; subst hi; exact ⟨u, by simp, hy⟩
    | succ i => simp at hi; obtain ⟨u', hu', hx⟩ := hxs.get i x hi; exact ⟨u', by simpa using hu', hx⟩
theorem Vs.mk {μ : Mu} {w : World} : ∀ {xs : List AV} {us : List Value}, us.length = xs.length → (∀ (i : Nat) x u, xs[i]? = some x → us[i]? = some u → V μ w x u) → Vs μ w xs us
  | [], us, hl, _ => by simp only [Vs]; simpa using hl
  | y :: xs, [], hl, _ => by simp at hl
  | y :: xs, u :: us, hl, h => by
    simp only [Vs]
    exact ⟨u, us, rfl, h 0 y u (by simp) (by simp), Vs.mk (by simpa using hl) fun i x u' hx hu => h (i + 1) x u' (by simpa using hx) (by simpa using hu)⟩
theorem Vs.append {μ : Mu} {w : World} : ∀ {xs ys : List AV} {us vs : List Value}, Vs μ w xs us → Vs μ w ys vs → Vs μ w (xs ++ ys) (us ++ vs)
  | [], ys, us, vs, h, k => by simp only [Vs] at h; subst h; simpa using k
  | x :: xs, ys, _, vs, h, k => by
    simp only [Vs] at h
    obtain ⟨u, us', rfl, hx, hxs⟩ := h
    simp only [List.cons_append, Vs]
    exact ⟨u, us' ++ vs, rfl, hx, hxs.append k⟩
theorem Vs.take {μ : Mu} {w : World} {xs : List AV} {us : List Value} (h : Vs μ w xs us) (n : Nat) : Vs μ w (xs.take n) (us.take n) := by
  refine Vs.mk (by simp [h.length]) fun i x u hx hu => ?_
  rw [List.getElem?_take] at hx hu
  by_cases hi : i < n
  · rw [if_pos hi] at hx hu
    obtain ⟨u', hu', hv⟩ := h.get i x hx
    rw [hu'] at hu; cases hu; exact hv
  · rw [if_neg hi] at hx; cases hx
theorem Vs.drop {μ : Mu} {w : World} {xs : List AV} {us : List Value} (h : Vs μ w xs us) (n : Nat) : Vs μ w (xs.drop n) (us.drop n) := by
  refine Vs.mk (by simp [h.length]) fun i x u hx hu => ?_
  rw [List.getElem?_drop] at hx hu
  obtain ⟨u', hu', hv⟩ := h.get _ x hx
  rw [hu'] at hu; cases hu; exact hv
theorem Vs.set {μ : Mu} {w : World} {xs : List AV} {us : List Value} (h : Vs μ w xs us) (n : Nat) {x : AV} {u : Value} (hx : V μ w x u) : Vs μ w (xs.set n x) (us.set n u) := by
  refine Vs.mk (by simp [h.length]) fun i y v hy hv => ?_
  rw [List.getElem?_set] at hy hv
  by_cases hi : n = i
  · rw [if_pos hi] at hy hv
    by_cases hl : n < xs.length
    · rw [if_pos hl] at hy; rw [if_pos (by rw [h.length]; exact hl)] at hv; cases hy; cases hv; exact hx
    · rw [if_neg hl] at hy; cases hy
  · rw [if_neg hi] at hy hv
    obtain ⟨u', hu', hv'⟩ := h.get _ y hy
    rw [hu'] at hv; cases hv; exact hv'

theorem Cells.get {μ : Mu} {w : World} : ∀ {xs : List AV} {b off : Nat}, Cells μ w xs b off → ∀ (i : Nat) x, xs[i]? = some x → μ.com b (off + i) ∧ ∃ u, w.cell? ⟨b, off + i, none⟩ = some u ∧ V μ w x u
  | [], _, _, _, i, x, hi => by simp at hi
  | y :: xs, b, off, h, i, x, hi => by
    simp only [Cells] at h
    obtain ⟨hc, hu, hxs⟩ := h
    cases i with
    | zero => simp at hi; subst hi; exact ⟨hc, hu⟩
    | succ i =>
      simp at hi
      have := hxs.get i x hi
      rw [show off + 1 + i = off + (i + 1) from by omega] at this
      exact this
theorem Cells.mk {μ : Mu} {w : World} : ∀ {xs : List AV} {b off : Nat}, (∀ (i : Nat) x, xs[i]? = some x → μ.com b (off + i) ∧ ∃ u, w.cell? ⟨b, off + i, none⟩ = some u ∧ V μ w x u) → Cells μ w xs b off
  | [], _, _, _ => by simp only [Cells]
  | y :: xs, b, off, h => by
    simp only [Cells]
    exact ⟨(h 0 y (by simp)).1, (h 0 y (by simp)).2, Cells.mk fun i x hx => by
      have := h (i + 1) x (by simpa using hx)
      rw [show off + (i + 1) = off + 1 + i from by omega] at this
      exact this⟩
theorem Cells.drop {μ : Mu} {w : World} {xs : List AV} {b off : Nat} (h : Cells μ w xs b off) (n : Nat) : Cells μ w (xs.drop n) b (off + n) :=
  Cells.mk fun i x hx => by
    rw [List.getElem?_drop] at hx
    have := h.get _ x hx
    rw [Nat.add_assoc]; exact this
theorem Cells.take {μ : Mu} {w : World} {xs : List AV} {b off : Nat} (h : Cells μ w xs b off) (n : Nat) : Cells μ w (xs.take n) b off :=
  Cells.mk fun i x hx => by
    rw [List.getElem?_take] at hx
    by_cases hi : i < n
    · rw [if_pos hi] at hx; exact h.get _ x hx
    · rw [if_neg hi] at hx; cases hx
theorem Cells.append {μ : Mu} {w : World} {xs ys : List AV} {b off : Nat} (h : Cells μ w xs b off) (k : Cells μ w ys b (off + xs.length)) : Cells μ w (xs ++ ys) b off :=
  Cells.mk fun i x hx => by
    by_cases hi : i < xs.length
    · rw [List.getElem?_append_left hi] at hx; exact h.get _ x hx
    · rw [List.getElem?_append_right (by omega)] at hx
      have := k.get _ x hx
      rw [show off + xs.length + (i - xs.length) = off + i from by omega] at this
      exact this

/-- What an abstract object says of a block. -/
def ORel (μ : Mu) (w : World) : AObj → Nat → Prop
  | .cells e cs, b => ∃ vs : Array Value, w.heap[b]? = some (.cells vs e (0, 0)) ∧ Vs μ w cs vs.toList
  | .map es, b => ∃ (ents : Array MapEntry) (clock : Nat), w.heap[b]? = some (.map ents clock) ∧ ents.toList.map (·.key) = es.map (·.1) ∧ Vs μ w (es.map (·.2)) (ents.toList.map (·.val))
  | .dead, b => b < w.heap.size
theorem ORel.lt {μ : Mu} {w : World} {ob : AObj} {b : Nat} (h : ORel μ w ob b) : b < w.heap.size := by
  cases ob with
  | cells e cs => obtain ⟨vs, hv, _⟩ := h; exact (Array.getElem?_eq_some_iff.1 hv).1
  | map es => obtain ⟨es, c, hv, _⟩ := h; exact (Array.getElem?_eq_some_iff.1 hv).1
  | dead => exact h
theorem ORel.mono {μ μ' : Mu} {w w' : World} (hl : Le μ μ') (hk : ComKeep μ w w') (hs : w.heap.size ≤ w'.heap.size) {ob : AObj} {b : Nat} (hb : w'.heap[b]? = w.heap[b]?) (h : ORel μ w ob b) : ORel μ' w' ob b := by
  cases ob with
  | cells e cs => obtain ⟨vs, hv, hc⟩ := h; exact ⟨vs, hb.trans hv, Vs.mono hl hk _ _ hc⟩
  | map es => obtain ⟨ents, c, hv, hkk, hc⟩ := h; exact ⟨ents, c, hb.trans hv, hkk, Vs.mono hl hk _ _ hc⟩
  | dead => exact Nat.lt_of_lt_of_le h hs

structure R (B0 : Nat) (G : Nat → Option (List AV)) (μ : Mu) (h : AH) (w : World) : Prop where
  base : B0 ≤ w.heap.size
  obj : ∀ o b, μ.obj o = some b → B0 ≤ b ∧ ∃ ob, h.get o = some ob ∧ ORel μ w ob b
  inj : ∀ o o' b, μ.obj o = some b → μ.obj o' = some b → o = o'
  com : ∀ b off, μ.com b off → (∀ o, μ.obj o ≠ some b) ∧ (∀ t i, μ.tok t = some i → i.b = b → off < i.e) ∧ b < w.heap.size
  tok : ∀ t i, μ.tok t = some i → B0 ≤ i.b ∧ h.tok t = some i.F ∧ ∃ vs ty, w.heap[i.b]? = some (.cells vs ty (0, 0)) ∧ i.e + i.sp * i.sz = vs.size
  tinj : ∀ t t' i i', μ.tok t = some i → μ.tok t' = some i' → i.b = i'.b → t = t'
  sep : ∀ t i o, μ.tok t = some i → μ.obj o ≠ some i.b
  next : ∀ o, h.next ≤ o → μ.obj o = none
  tnext : ∀ t, h.tnext ≤ t → μ.tok t = none
  glob : ∀ g cs, G g = some cs → Cells μ w cs g 0

def Env (w w' : World) : Prop := w'.os = w.os ∧ w'.tape = w.tape ∧ w'.output = w.output
theorem Env.refl (w : World) : Env w w := ⟨rfl, rfl, rfl⟩
theorem Env.trans {a b c : World} (h : Env a b) (k : Env b c) : Env a c := ⟨k.1.trans h.1, k.2.1.trans h.2.1, k.2.2.trans h.2.2⟩
def HPush (w w' : World) (o : Obj) : Prop := w'.heap = w.heap.push o ∧ Env w w'
structure Step (B0 : Nat) (G : Nat → Option (List AV)) (μ : Mu) (h : AH) (w : World) (μ' : Mu) (h' : AH) (w' : World) : Prop where
  le : Le μ μ'
  r : R B0 G μ' h' w'
  size : w.heap.size ≤ w'.heap.size
  keep : ∀ b, b < w.heap.size → (∀ o, μ.obj o ≠ some b) → (∀ t i, μ.tok t = some i → i.b ≠ b) → w'.heap[b]? = w.heap[b]?
  com : ComKeep μ w w'
  next : h.next ≤ h'.next
  tnext : h.tnext ≤ h'.tnext
  newo : ∀ o b, μ'.obj o = some b → μ.obj o = some b ∨ (h.next ≤ o ∧ w.heap.size ≤ b)
  newt : ∀ t i, μ'.tok t = some i → (∃ j, μ.tok t = some j ∧ j.b = i.b) ∨ ((h.tnext ≤ t ∨ ∃ j, μ.tok t = some j) ∧ w.heap.size ≤ i.b)
  newc : ∀ b off, μ'.com b off → μ.com b off ∨ w.heap.size ≤ b ∨ ∃ t i, μ.tok t = some i ∧ i.b = b
  env : Env w w'

theorem Step.refl {B0 : Nat} {G : Nat → Option (List AV)} {μ : Mu} {h : AH} {w : World} (r : R B0 G μ h w) : Step B0 G μ h w μ h w :=
  ⟨Le.refl _, r, Nat.le_refl _, fun _ _ _ _ => rfl, fun _ _ _ => rfl, Nat.le_refl _, Nat.le_refl _, fun _ _ h => .inl h, fun _ i h => .inl ⟨i, h, rfl⟩, fun _ _ h => .inl h, Env.refl _⟩
theorem Step.trans {B0 : Nat} {G : Nat → Option (List AV)} {μ μ1 μ2 : Mu} {h h1 h2 : AH} {w w1 w2 : World} (s : Step B0 G μ h w μ1 h1 w1) (t : Step B0 G μ1 h1 w1 μ2 h2 w2) : Step B0 G μ h w μ2 h2 w2 where
  le := s.le.trans t.le
  r := t.r
  size := Nat.le_trans s.size t.size
  keep := fun b hb ho ht => (t.keep b (Nat.lt_of_lt_of_le hb s.size)
    (fun o e => by rcases s.newo o b e with h | h; exact ho o h; omega)
    (fun q i hi e => by
      rcases s.newt q i hi with ⟨j, hj, he⟩ | h
      · exact ht q j hj (he.trans e)
      · omega)).trans (s.keep b hb ho ht)
  com := fun b off hc => (t.com b off (s.le.com b off hc)).trans (s.com b off hc)
  next := Nat.le_trans s.next t.next
  tnext := Nat.le_trans s.tnext t.tnext
  newo := fun o b e => by
    rcases t.newo o b e with h | h
    · exact s.newo o b h
    · exact .inr ⟨Nat.le_trans s.next h.1, Nat.le_trans s.size h.2⟩
  newt := fun q i e => by
    rcases t.newt q i e with ⟨j, hj, he⟩ | ⟨h, hb⟩
    · rcases s.newt q j hj with ⟨k, hk, hke⟩ | ⟨h, hb⟩
      · exact .inl ⟨k, hk, hke.trans he⟩
      · exact .inr ⟨h, by omega⟩
    · refine .inr ⟨?_, Nat.le_trans s.size hb⟩
      rcases h with h | ⟨j, hj⟩
      · exact .inl (Nat.le_trans s.tnext h)
      · rcases s.newt q j hj with ⟨k, hk, _⟩ | ⟨h, _⟩
        · exact .inr ⟨k, hk⟩
        · exact h
  newc := fun b off e => by
    rcases t.newc b off e with h | h | ⟨q, i, hi, hb⟩
    · exact s.newc b off h
    · exact .inr (.inl (Nat.le_trans s.size h))
    · rcases s.newt q i hi with ⟨j, hj, he⟩ | ⟨_, h⟩
      · exact .inr (.inr ⟨q, j, hj, he.trans hb⟩)
      · exact .inr (.inl (by omega))
  env := s.env.trans t.env

/-- The frame's temporaries. -/
structure FrRel (μ : Mu) (w : World) (fr : Fr) (a : Act) : Prop where
  defers : a.defers = []
  size : a.tmps.size = fr.n
  val : ∀ i, V μ w (fr.get i) (a.tmps.getD i undef)
theorem FrRel.mono {μ μ' : Mu} {w w' : World} (hl : Le μ μ') (hk : ComKeep μ w w') {fr : Fr} {a : Act} (h : FrRel μ w fr a) : FrRel μ' w' fr a :=
  ⟨h.defers, h.size, fun i => V.mono hl hk _ _ (h.val i)⟩
theorem FrRel.put {μ : Mu} {w : World} {fr fr' : Fr} {a : Act} (h : FrRel μ w fr a) {d : Option Tmp} {x : AV} {u : Value} (hp : fr.put d x = some fr') (hx : V μ w x u) : FrRel μ w fr' (a.put d u) := by
  cases d with
  | none => simp [Fr.put] at hp; subst hp; exact h
  | some d =>
    simp only [Fr.put] at hp
    by_cases hd : d < fr.n
    · rw [if_pos hd] at hp; cases hp
      refine ⟨h.defers, by simp [Act.put, Fr.set, h.size], fun i => ?_⟩
      rw [Fr.get_set]
      have hs := h.size
      by_cases hi : i = d
      · subst hi
        rw [if_pos rfl]
        simp only [Act.put, Array.getD_eq_getD_getElem?]
        have hlt : i < a.tmps.size := by rw [hs]; exact hd
        rw [Array.getElem?_setIfInBounds_self_of_lt hlt]
        exact hx
      · rw [if_neg hi]
        simp only [Act.put, Array.getD_eq_getD_getElem?]
        rw [Array.getElem?_setIfInBounds_ne (fun e => hi e.symm)]
        have := h.val i
        rw [Array.getD_eq_getD_getElem?] at this
        exact this
    · rw [if_neg hd] at hp; cases hp
end Go.Proofs.YtkcbhebbjpiibaaDoor.Pg
