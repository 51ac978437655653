/-
  Pg, part 10: a plainer form of the code, whose tables are looked up once, and its predicates.
-/
import Derived.Test.YtkcbhebbjpiibaaDoorPgWp
set_option linter.unusedVariables false
set_option linter.unusedSimpArgs false
set_option linter.unusedSectionVars false
namespace Go.Proofs.YtkcbhebbjpiibaaDoor.Pg
open Go

inductive X where
  | r (t : Nat)
  | k (x : AV)
  | g (i : Nat)
def X.of : Operand → Option X
  | .tmp t => some (.r t)
  | .const x => (ofV 64 x).map .k
  | .global i => some (.g i)
  | .func f => some (.k (.fn (.func f) [] []))
def X.ev (G : Nat → Option (List AV)) (fr : Fr) : X → Option AV
  | .r t => some (fr.get t)
  | .k x => some x
  | .g i => (G i).map .cptr
def X.evs (G : Nat → Option (List AV)) (fr : Fr) : List X → Option (List AV)
  | [] => some []
  | x :: xs => match x.ev G fr, X.evs G fr xs with
    | some y, some ys => some (y :: ys)
    | _, _ => none
def X.ofs : List Operand → Option (List X)
  | [] => some []
  | x :: xs => match X.of x, X.ofs xs with
    | some y, some ys => some (y :: ys)
    | _, _ => none
def X.opt : Option Operand → Option (Option X)
  | none => some none
  | some x => (X.of x).map some
def X.evo (G : Nat → Option (List AV)) (fr : Fr) : Option X → Option (Option AV)
  | none => some none
  | some x => (x.ev G fr).map some
theorem X.of_ev {G : Nat → Option (List AV)} {fr : Fr} {o : Operand} {x : X} (e : X.of o = some x) : aev G fr o = x.ev G fr := by
  cases o with
  | tmp t => simp only [X.of, Option.some.injEq] at e; subst e; rfl
  | const v =>
    simp only [X.of] at e
    cases h : ofV 64 v with
    | none => rw [h] at e; simp at e
    | some y => rw [h] at e; simp only [Option.map_some, Option.some.injEq] at e; subst e; simp only [aev, h, X.ev]
  | global i => simp only [X.of, Option.some.injEq] at e; subst e; rfl
  | func f => simp only [X.of, Option.some.injEq] at e; subst e; rfl
theorem X.ofs_evs {G : Nat → Option (List AV)} {fr : Fr} : ∀ {os : List Operand} {xs : List X}, X.ofs os = some xs → aevs G fr os = X.evs G fr xs
  | [], xs, e => by simp only [X.ofs, Option.some.injEq] at e; subst e; rfl
  | o :: os, xs, e => by
    simp only [X.ofs] at e
    cases h1 : X.of o with
    | none => rw [h1] at e; simp at e
    | some y =>
      cases h2 : X.ofs os with
      | none => rw [h1, h2] at e; simp at e
      | some ys =>
        rw [h1, h2] at e; simp only [Option.some.injEq] at e; subst e
        simp only [aevs, X.evs, X.of_ev h1, X.ofs_evs h2]
        rfl
theorem X.opt_ev {G : Nat → Option (List AV)} {fr : Fr} {o : Option Operand} {x : Option X} (e : X.opt o = some x) : aopt G fr o = X.evo G fr x := by
  cases o with
  | none => simp only [X.opt, Option.some.injEq] at e; subst e; rfl
  | some o =>
    simp only [X.opt] at e
    cases h : X.of o with
    | none => rw [h] at e; simp at e
    | some y => rw [h] at e; simp only [Option.map_some, Option.some.injEq] at e; subst e; simp only [aopt, X.evo, X.of_ev h]
/-- The parts of a struct or a slice that is built: where, of which size, what. -/
def X.parts (place : Nat → Option (Nat × Nat)) : List (Nat × Operand) → Option (List (Nat × Nat × X))
  | [] => some []
  | (i, x) :: xs => match place i, X.of x, X.parts place xs with
    | some (off, size), some y, some ys => some ((off, size, y) :: ys)
    | _, _, _ => none
def ifill (G : Nat → Option (List AV)) (fr : Fr) (cells : List AV) : List (Nat × Nat × X) → Option (List AV)
  | [] => some cells
  | (off, size, x) :: r => match x.ev G fr with
    | some y => if y.known = true ∧ y.cells.length = size ∧ off + y.cells.length ≤ cells.length then ifill G fr (splice cells off y.cells) r else none
    | none => none
theorem ifill_eq {G : Nat → Option (List AV)} {fr : Fr} {place : Nat → Option (Nat × Nat)} : ∀ {ps : List (Nat × Operand)} {qs : List (Nat × Nat × X)} {cells cs : List AV}, X.parts place ps = some qs → ifill G fr cells qs = some cs →
    ∃ rs, aparts G fr ps = some rs ∧ afill place cells rs = some cs
  | [], qs, cells, cs, e, h => by simp only [X.parts, Option.some.injEq] at e; subst e; simp only [ifill, Option.some.injEq] at h; subst h; exact ⟨[], rfl, rfl⟩
  | (i, x) :: ps, qs, cells, cs, e, h => by
    simp only [X.parts] at e
    cases h1 : place i with
    | none => rw [h1] at e; simp at e
    | some os =>
      obtain ⟨off, size⟩ := os
      cases h2 : X.of x with
      | none => rw [h1, h2] at e; simp at e
      | some y =>
        cases h3 : X.parts place ps with
        | none => rw [h1, h2, h3] at e; simp at e
        | some ys =>
          rw [h1, h2, h3] at e; simp only [Option.some.injEq] at e; subst e
          simp only [ifill] at h
          cases h4 : y.ev G fr with
          | none => rw [h4] at h; simp at h
          | some v =>
            rw [h4] at h
            simp only at h
            split at h
            · rename_i hc
              obtain ⟨rs, hr, hf⟩ := ifill_eq h3 h
              refine ⟨(i, v) :: rs, by simp only [aparts, X.of_ev h2, h4, hr], ?_⟩
              simp only [afill, h1]
              rw [if_pos hc]; exact hf
            · cases h

inductive I where
  | gen (o : Oper)
  | mov (x : X)
  | pick (c a b : X)
  | bin (op : BinOp) (x y : X)
  | not (x : X)
  | cvt (k : IntKind) (x : X)
  | fadr (off : Nat) (x : X)
  | fld (row : Option Nat) (off : Nat) (x : X)
  | iasl (es : Nat) (x i : X)
  | iaar (n es : Nat) (x i : X)
  | idxs (x i : X)
  | slc (es : Nat) (x : X) (lo hi : Option X)
  | slcs (x : X) (lo hi : Option X)
  | ext (x : X) (i : Nat)
  | mki (t : TypeId) (x : X)
  | mkf (f : Fn) (first cap : List X)
  | load (row : Option Nat) (x : X)
  | lenl (x : X)
  | lens (x : X)
  | box (t : TypeId) (x : X)
  | alloc (t : TypeId) (cs : List AV)
  | build (z : List AV) (ps : List (Nat × Nat × X))
  | bsl (n es : Nat) (z : List AV) (ps : List (Nat × Nat × X))
  | mkmap
  | lookup (kind : TypeDesc) (zero : AV) (ok : Bool) (m k : X)
  | mapup (kind : TypeDesc) (m k x : X)
  | store (size : Nat) (p x : X)
  | app (es bytes : Nat) (a b : X)
  | call (f : FuncId) (xs : List X)
  | callv (f : X) (xs : List X)
  | nchk (x : X)
  | beq (ne : Bool) (x y : X)
  | mx (mn : Bool) (x y : X)
  | mks (e : TypeId) (es bytes : Nat) (z : List AV) (l c : X)
  | pan (x : X)
  | aidx (row : Option Nat) (n es : Nat) (x i : X)
  | slcp (n es : Nat) (x : X) (lo hi : Option X)

def wv {α : Type} (o : Option α) (k : α → Prop) : Prop :=
  match o with
  | some y => k y
  | none => False
@[simp] theorem wv_some {α : Type} (y : α) (k : α → Prop) : wv (some y) k = k y := rfl
@[simp] theorem wv_none {α : Type} (k : α → Prop) : wv none k = False := rfl
theorem wv_ex {α : Type} {o : Option α} {k : α → Prop} (h : wv o k) : ∃ y, o = some y ∧ k y := by
  cases o with
  | none => exact h.elim
  | some y => exact ⟨y, rfl, h⟩
/-- Two ways, by a bool. -/
def wb (t : Bool) (A B : Prop) : Prop := (t = true → A) ∧ (t = false → B)
@[simp] theorem wb_true (A B : Prop) : wb true A B = A := by simp [wb]
@[simp] theorem wb_false (A B : Prop) : wb false A B = B := by simp [wb]

def ibool : AV → Option Bool
  | .v (.bool t) => some t
  | _ => none
def ibin (op : BinOp) : AV → AV → Option AV
  | .v (.int k a), .v (.int k' b) => match op with
    | .shl | .shr => if 0 ≤ b then some (.v (.int k (match op with | .shl => k.wrap (a * 2 ^ min b.toNat k.bits) | _ => a.fdiv (2 ^ min b.toNat k.bits)))) else none
    | _ => if k = k' then match op with
      | .add => some (.v (.int k (k.wrap (a + b))))
      | .sub => some (.v (.int k (k.wrap (a - b))))
      | .mul => some (.v (.int k (k.wrap (a * b))))
      | .quo => if b = 0 then none else some (.v (.int k (k.wrap (a.tdiv b))))
      | .rem => if b = 0 then none else some (.v (.int k (a.tmod b)))
      | .and => some (.v (.int k (k.wrap (BitVec.ofInt k.bits a &&& BitVec.ofInt k.bits b).toNat)))
      | .or => some (.v (.int k (k.wrap (BitVec.ofInt k.bits a ||| BitVec.ofInt k.bits b).toNat)))
      | .xor => some (.v (.int k (k.wrap (BitVec.ofInt k.bits a ^^^ BitVec.ofInt k.bits b).toNat)))
      | .andNot => some (.v (.int k (k.wrap (BitVec.ofInt k.bits a &&& ~~~BitVec.ofInt k.bits b).toNat)))
      | .eql => some (.v (.bool (a == b)))
      | .neq => some (.v (.bool (a != b)))
      | .lss => some (.v (.bool (decide (a < b))))
      | .leq => some (.v (.bool (decide (a ≤ b))))
      | .gtr => some (.v (.bool (decide (a > b))))
      | .geq => some (.v (.bool (decide (a ≥ b))))
      | _ => none
      else none
  | .v (.string a), .v (.string b) => match op with
    | .add => if a.size + b.size ≤ 9223372036854775807 then some (.v (.string (a ++ b))) else none
    | .eql => some (.v (.bool (decide (a = b))))
    | .neq => some (.v (.bool (!decide (a = b))))
    | _ => none
  | _, _ => none
def icut (row : Option Nat) (cs : List AV) (off : Nat) : Option AV :=
  match row with
  | some n => if ((cs.drop off).take n).length = n then some (.agg ((cs.drop off).take n)) else none
  | none => cs[off]?
def iload (C : Nat → Option AObj) (row : Option Nat) : AV → Option AV
  | .ptr o off => match C o with
    | some (.cells _ cs) => icut row cs off
    | _ => none
  | .cptr cs => icut row cs 0
  | _ => none
def ifadr (off : Nat) : AV → Option AV
  | .ptr o o1 => some (.ptr o (o1 + off))
  | .cptr cs => some (.cptr (cs.drop off))
  | _ => none
def ifld (row : Option Nat) (off : Nat) : AV → Option AV
  | .agg cs => icut row cs off
  | _ => none
def iiasl (es : Nat) : AV → AV → Option AV
  | .sl _ n cs, .v (.int _ i) => if 0 ≤ i ∧ i < n ∧ i.toNat * es < cs.length then some (.cptr (cs.drop (i.toNat * es))) else none
  | .arr o off n, .v (.int _ i) => if 0 ≤ i ∧ i < n then some (.ptr o (off + i.toNat * es)) else none
  | _, _ => none
def iiaar (n es : Nat) : AV → AV → Option AV
  | .ptr o off, .v (.int _ i) => if 0 ≤ i ∧ i < n then some (.ptr o (off + i.toNat * es)) else none
  | .cptr cs, .v (.int _ i) => if 0 ≤ i ∧ i < n then some (.cptr (cs.drop (i.toNat * es))) else none
  | _, _ => none
def iidxs : AV → AV → Option AV
  | .v (.string s), .v (.int _ i) => if 0 ≤ i then (s[i.toNat]?).map fun b => .v (.int .u8 b.toNat) else none
  | _, _ => none
def islc (es : Nat) (lo hi : Option AV) : AV → Option AV
  | .sl tok n cs => match abound n hi n with
    | some h1 => match abound h1 lo 0 with
      | some l => if cs.length = n * es then match tok with
          | .nil => some (.sl .nil 0 [])
          | .none => some (.sl .none (h1 - l) ((cs.drop (l * es)).take ((h1 - l) * es)))
          | .own t k s => if h1 = n ∧ l < n ∧ s = es then some (.sl (.own t (k + l) s) (n - l) (cs.drop (l * es))) else some (.sl .none (h1 - l) ((cs.drop (l * es)).take ((h1 - l) * es)))
        else none
      | none => none
    | none => none
  | .arr o off n => match abound n hi n with
    | some h1 => match abound h1 lo 0 with
      | some l => if l < h1 then some (.arr o (off + l * es) (h1 - l)) else some (.sl .none 0 [])
      | none => none
    | none => none
  | _ => none
def islcs (lo hi : Option AV) : AV → Option AV
  | .v (.string s) => match abound s.size hi s.size with
    | some h1 => match abound h1 lo 0 with
      | some l => some (.v (.string (s.extract l h1)))
      | none => none
    | none => none
  | _ => none
def ilenl : AV → Option AV
  | .sl _ n _ => some (.v (.int .i64 n))
  | .arr _ _ n => some (.v (.int .i64 n))
  | _ => none
def ilens : AV → Option AV
  | .v (.string s) => some (.v (.int .i64 s.size))
  | _ => none
def ilookup (C : Nat → Option AObj) (kind : TypeDesc) (zero : AV) (ok : Bool) (m k : AV) : Option AV :=
  match mapOf C m, lit k with
  | some es, some kv => match afind kind kv es 0 with
    | some (some (_, x)) => some (if ok then .tup [x, .v (.bool true)] else x)
    | some none => some (if ok then .tup [zero, .v (.bool false)] else zero)
    | none => none
  | _, _ => none
def imapup (h : AH) (kind : TypeDesc) (m k x : AV) : Option AH :=
  match m, lit k with
  | .mp o, some kv => match h.get o with
    | some (.map es) => match afind kind kv es 0 with
      | some (some (j, _)) => some (h.set o (.map (es.set j (kv, x))))
      | some none => some (h.set o (.map (es ++ [(kv, x)])))
      | none => none
    | _ => none
  | _, _ => none
def istore (h : AH) (size : Nat) : AV → AV → Option AH
  | .ptr o off, x => match h.get o with
    | some (.cells e cs) => if x.cells.length = size ∧ off + x.cells.length ≤ cs.length ∧ x.cells.all AV.one = true then some (h.set o (.cells e (splice cs off x.cells))) else none
    | _ => none
  | _, _ => none
def iapp (h : AH) (es bytes : Nat) : AV → AV → Option (AV × AH)
  | .sl tok n cs, .sl tok' m cs' =>
    if cs.length = n * es ∧ cs'.length = m * es ∧ cs'.all AV.one = true ∧ (n + m) * bytes ≤ 140737488355328 ∧ n + m ≤ 9223372036854775807 then
      if m = 0 then some (.sl tok n cs, h)
      else match tok with
        | .nil => some (.sl (.own h.tnext 0 es) m cs', h.pushTok m)
        | .own tk k s => if h.tok tk = some (k + n) ∧ s = es then some (.sl (.own tk k s) (n + m) (cs ++ cs'), h.setTok tk (k + n + m)) else none
        | .none => none
    else none
  | _, _ => none

def iaidx (row : Option Nat) (n es : Nat) : AV → AV → Option AV
  | .agg cs, .v (.int _ i) => if 0 ≤ i ∧ i < n then icut row cs (i.toNat * es) else none
  | _, _ => none
def islcp (n es : Nat) (lo hi : Option AV) : AV → Option AV
  | .ptr o off => match abound n hi n with
    | some h1 => match abound h1 lo 0 with
      | some l => if l < h1 then some (.arr o (off + l * es) (h1 - l)) else some (.sl .none 0 [])
      | none => none
    | none => none
  | _ => none
def imks (h : AH) (e : TypeId) (es bytes : Nat) (z : List AV) (l c : Int) : Option (AV × AH) :=
  if 0 ≤ l ∧ l ≤ c ∧ (bytes : Int) * c ≤ 281474976710656 ∧ c ≤ 9223372036854775807 then
    if l = c then some (.arr h.next 0 l.toNat, h.push (.cells e (acycle z (l.toNat * es))))
    else if l = 0 then some (.sl (.own h.tnext 0 es) 0 [], h.pushTok 0) else none
  else none
/-- What an instruction does. -/
def istep (P : Program) (G : Nat → Option (List AV)) (fr : Fr) (h : AH) : I → (AOut → AH → Prop) → Prop
  | .gen o, K => wv (astep P G (fun _ _ _ => none) fr h o) fun p => K p.1 p.2
  | .mov x, K => wv (x.ev G fr) fun y => K (.ret y) h
  | .pick c a b, K => wv (c.ev G fr) fun c => wv (ibool c) fun t => wb t (wv (a.ev G fr) fun y => K (.ret y) h) (wv (b.ev G fr) fun y => K (.ret y) h)
  | .bin op x y, K => wv (x.ev G fr) fun x => wv (y.ev G fr) fun y => wv (ibin op x y) fun z => K (.ret z) h
  | .not x, K => wv (x.ev G fr) fun x => wv (ibool x) fun t => K (.ret (.v (.bool !t))) h
  | .cvt k x, K => wv (x.ev G fr) fun x => wv (aint x) fun p => K (.ret (.v (.int k (k.wrap p.2)))) h
  | .fadr off x, K => wv (x.ev G fr) fun x => wv (ifadr off x) fun z => K (.ret z) h
  | .fld row off x, K => wv (x.ev G fr) fun x => wv (ifld row off x) fun z => K (.ret z) h
  | .iasl es x i, K => wv (x.ev G fr) fun x => wv (i.ev G fr) fun i => wv (iiasl es x i) fun z => K (.ret z) h
  | .iaar n es x i, K => wv (x.ev G fr) fun x => wv (i.ev G fr) fun i => wv (iiaar n es x i) fun z => K (.ret z) h
  | .idxs x i, K => wv (x.ev G fr) fun x => wv (i.ev G fr) fun i => wv (iidxs x i) fun z => K (.ret z) h
  | .slc es x lo hi, K => wv (x.ev G fr) fun x => wv (X.evo G fr lo) fun lo => wv (X.evo G fr hi) fun hi => wv (islc es lo hi x) fun z => K (.ret z) h
  | .slcs x lo hi, K => wv (x.ev G fr) fun x => wv (X.evo G fr lo) fun lo => wv (X.evo G fr hi) fun hi => wv (islcs lo hi x) fun z => K (.ret z) h
  | .ext x i, K => wv (x.ev G fr) fun x => match x with
    | .tup vs => wv (vs[i]?) fun z => K (.ret z) h
    | _ => False
  | .mki t x, K => wv (x.ev G fr) fun x => K (.ret (.ifc t x)) h
  | .mkf f first cap, K => wv (X.evs G fr first) fun a => wv (X.evs G fr cap) fun b => K (.ret (.fn f a b)) h
  | .load row x, K => wv (x.ev G fr) fun x => wv (iload h.get row x) fun z => K (.ret z) h
  | .lenl x, K => wv (x.ev G fr) fun x => wv (ilenl x) fun z => K (.ret z) h
  | .lens x, K => wv (x.ev G fr) fun x => wv (ilens x) fun z => K (.ret z) h
  | .box t x, K => wv (x.ev G fr) fun x => x.known = true ∧ K (.ret (.ptr h.next 0)) (h.push (.cells t x.cells))
  | .alloc t cs, K => K (.ret (.ptr h.next 0)) (h.push (.cells t cs))
  | .build z ps, K => wv (ifill G fr z ps) fun cs => K (.ret (.agg cs)) h
  | .bsl n es z ps, K => wv (ifill G fr (acycle z (n * es)) ps) fun cs => cs.length = n * es ∧ K (.ret (.sl (.own h.tnext 0 es) n cs)) (h.pushTok n)
  | .mkmap, K => K (.ret (.mp h.next)) (h.push (.map []))
  | .lookup kind zero ok m k, K => wv (m.ev G fr) fun m => wv (k.ev G fr) fun k => wv (ilookup h.get kind zero ok m k) fun z => K (.ret z) h
  | .mapup kind m k x, K => wv (m.ev G fr) fun m => wv (k.ev G fr) fun k => wv (x.ev G fr) fun x => wv (imapup h kind m k x) fun h' => K (.ret (.v undef)) h'
  | .store size p x, K => wv (p.ev G fr) fun p => wv (x.ev G fr) fun x => wv (istore h size p x) fun h' => K (.ret (.v undef)) h'
  | .app es bytes a b, K => wv (a.ev G fr) fun a => wv (b.ev G fr) fun b => wv (iapp h es bytes a b) fun p => K (.ret p.1) p.2
  | .call f xs, K => wv (X.evs G fr xs) fun xs => CALL P G f xs h K
  | .callv f xs, K => wv (f.ev G fr) fun f => wv (X.evs G fr xs) fun xs => match f with
    | .fn (.func g) first cap => hasBody P g = true ∧ CALL P G g (first ++ xs ++ cap) h K
    | _ => False
  | .nchk x, K => wv (x.ev G fr) fun p => callable p = true ∧ K (.ret p) h
  | .beq ne x y, K => wv (x.ev G fr) fun x => wv (ibool x) fun a => wv (y.ev G fr) fun y => wv (ibool y) fun b => K (.ret (.v (.bool (if ne then !(a == b) else a == b)))) h
  | .mx mn x y, K => wv (x.ev G fr) fun x => wv (aint x) fun p => wv (y.ev G fr) fun y => wv (aint y) fun q => K (.ret (.v (.int p.1 (if mn then (if q.2 < p.2 then q.2 else p.2) else if q.2 > p.2 then q.2 else p.2)))) h
  | .mks e es bytes z l c, K => wv (l.ev G fr) fun l => wv (aint l) fun l => wv (c.ev G fr) fun c => wv (aint c) fun c => wv (imks h e es bytes z l.2 c.2) fun p => K (.ret p.1) p.2
  | .pan x, K => wv (x.ev G fr) fun x => match x with
    | .ifc t y => K (.pan (.ifc t y)) h
    | _ => False
  | .aidx row n es x i, K => wv (x.ev G fr) fun x => wv (i.ev G fr) fun i => wv (iaidx row n es x i) fun z => K (.ret z) h
  | .slcp n es x lo hi, K => wv (x.ev G fr) fun x => wv (X.evo G fr lo) fun lo => wv (X.evo G fr hi) fun hi => wv (islcp n es lo hi x) fun z => K (.ret z) h

/-! ### From the code -/
def rowOf (P : Program) (t : TypeId) : Option (Option Nat) :=
  match isRow P t, P.info? t with
  | some true, some i => some (some i.size)
  | some false, some _ => some none
  | _, _ => none
theorem acut_row {P : Program} {t : TypeId} {row : Option Nat} (e : rowOf P t = some row) (cs : List AV) (off : Nat) : acut P t cs off = icut row cs off := by
  unfold rowOf at e
  unfold acut
  split at e
  · rename_i i h1 h2; cases e; rw [h1, h2]; rfl
  · rename_i i h1 h2; cases e; rw [h1, h2]; rfl
  · cases e
def isSlice (P : Program) (t : TypeId) : Option TypeId :=
  match P.underlying t with
  | some (.slice e) => some e
  | _ => none
def cop (P : Program) (o : Oper) : Option I :=
  match o.op with
  | .move x | .assign x => do pure (.mov (← X.of x))
  | .pick c a b => do pure (.pick (← X.of c) (← X.of a) (← X.of b))
  | .binOp op t x y _ => match P.underlying t with
    | some (.int _) | some .string => do pure (.bin op (← X.of x) (← X.of y))
    | some .bool => match op with
      | .eql => do pure (.beq false (← X.of x) (← X.of y))
      | .neq => do pure (.beq true (← X.of x) (← X.of y))
      | _ => none
    | _ => none
  | .unOp .not _ x => do pure (.not (← X.of x))
  | .convert s d x => match P.underlying s, P.underlying d with
    | some (.int _), some (.int k) => do pure (.cvt k (← X.of x))
    | _, _ => none
  | .fieldAddr s x f => match P.underlying s with
    | some (.struct fields) => match fields[f]? with
      | some fd => match P.info? fd.type with
        | some i => if i.size = 0 then none else do pure (.fadr fd.offset (← X.of x))
        | none => none
      | none => none
    | _ => none
  | .field t x f => match P.underlying t with
    | some (.struct fields) => match fields[f]? with
      | some fd => do pure (.fld (← rowOf P fd.type) fd.offset (← X.of x))
      | none => none
    | _ => none
  | .indexAddr t x i => match P.underlying t with
    | some (.slice e) => match P.info? e with
      | some ie => do pure (.iasl ie.size (← X.of x) (← X.of i))
      | none => none
    | some (.array n e) => match P.info? e with
      | some ie => do pure (.iaar n ie.size (← X.of x) (← X.of i))
      | none => none
    | _ => none
  | .index t x i => match P.underlying t with
    | some .string => do pure (.idxs (← X.of x) (← X.of i))
    | some (.array n e) => match P.info? e with
      | some ie => do pure (.aidx (← rowOf P e) n ie.size (← X.of x) (← X.of i))
      | none => none
    | _ => none
  | .slice t x lo hi none => match P.underlying t with
    | some (.slice e) => match P.info? e with
      | some ie => do pure (.slc ie.size (← X.of x) (← X.opt lo) (← X.opt hi))
      | none => none
    | some .string => do pure (.slcs (← X.of x) (← X.opt lo) (← X.opt hi))
    | some (.array n e) => match P.info? e with
      | some ie => do pure (.slcp n ie.size (← X.of x) (← X.opt lo) (← X.opt hi))
      | none => none
    | _ => none
  | .extract x i => do pure (.ext (← X.of x) i)
  | .makeInterface t x => if P.concrete t then do pure (.mki t (← X.of x)) else none
  | .makeFunc f first cap => do pure (.mkf f (← X.ofs first.toList) (← X.ofs cap.toList))
  | .load t x => do pure (.load (← rowOf P t) (← X.of x))
  | .box t x => do pure (.box t (← X.of x))
  | .alloc t => do pure (.alloc t (← azero P t))
  | .build t ps => match azero P t, P.underlying t with
    | some z, some (.struct fields) => match fields.toList.mapM (fun f => (P.info? f.type).map fun i => (f.offset, i.size)) with
      | some places => do pure (.build z (← X.parts (fun i => places[i]?) ps.toList))
      | none => none
    | _, _ => none
  | .buildSlice t n ps => match P.underlying t with
    | some (.slice e) => match P.info? e, azero P e with
      | some i, some z => if n * i.size ≤ 16777216 ∧ z.length = i.size ∧ 0 < i.size then do pure (.bsl n i.size z (← X.parts (fun k => some (k * i.size, i.size)) ps.toList)) else none
      | _, _ => none
    | _ => none
  | .makeMap _ none => some .mkmap
  | .lookup t m k ok => match P.underlying t with
    | some (.map key elem) => do pure (.lookup (← simpleKey P key) (← azeroV P elem) ok (← X.of m) (← X.of k))
    | _ => none
  | .mapUpdate t m k x | .insert t m k x => match P.underlying t with
    | some (.map key _) => do pure (.mapup (← simpleKey P key) (← X.of m) (← X.of k) (← X.of x))
    | _ => none
  | .store t p x => match P.info? t with
    | some i => do pure (.store i.size (← X.of p) (← X.of x))
    | none => none
  | .call c => match c.callee with
    | .builtin .len => match c.args.toList, c.argTypes.toList with
      | [x], [t] => match P.underlying t with
        | some (.slice _) => do pure (.lenl (← X.of x))
        | some .string => do pure (.lens (← X.of x))
        | _ => none
      | _, _ => none
    | .builtin .append => match c.args.toList, c.argTypes.toList with
      | [a, b], [t, t'] => if t = t' then match P.underlying t with
          | some (.slice e) => match P.info? e, azero P e with
            | some i, some z => if z.length = i.size ∧ 0 < i.size then do pure (.app i.size i.bytes (← X.of a) (← X.of b)) else none
            | _, _ => none
          | _ => none
        else none
      | _, _ => none
    | .value (.func f) => if hasBody P f then do pure (.call f (← X.ofs c.args.toList)) else none
    | .value f => do pure (.callv (← X.of f) (← X.ofs c.args.toList))
    | .builtin .max => match c.args.toList with
      | [a, b] => do pure (.mx false (← X.of a) (← X.of b))
      | _ => none
    | .builtin .min => match c.args.toList with
      | [a, b] => do pure (.mx true (← X.of a) (← X.of b))
      | _ => none
    | _ => none
  | .nilCheck x => do pure (.nchk (← X.of x))
  | .makeSlice t l c => match P.underlying t with
    | some (.slice e) => match P.info? e, azero P e with
      | some i, some z => if z.length = i.size ∧ 0 < i.size then do pure (.mks e i.size i.bytes z (← X.of l) (← X.of c)) else none
      | _, _ => none
    | _ => none
  | .panic x => do pure (.pan (← X.of x))
  | _ => none
def cop' (P : Program) (o : Oper) : I := (cop P o).getD (.gen o)

section
variable {P : Program} {G : Nat → Option (List AV)} {fr : Fr} {h : AH} {o : Oper}
/-- The two ways in which an instruction is understood. -/
def Sim (P : Program) (G : Nat → Option (List AV)) (fr : Fr) (h : AH) (o : Oper) (K : AOut → AH → Prop) : Prop :=
  (∃ out h', astep P G (fun _ _ _ => none) fr h o = some (out, h') ∧ K out h') ∨
  ∃ c g g' first cap xs, o.op = .call c ∧ c.callee = .value g ∧ aev G fr g = some (.fn (.func g') first cap) ∧ aevs G fr c.args.toList = some xs ∧ hasBody P g' = true ∧ CALL P G g' (first ++ xs ++ cap) h K
theorem Sim.p {K : AOut → AH → Prop} {y : AV} (hk : kindOf o = .p) (e : pop P G fr o = some y) (k : K (.ret y) h) : Sim P G fr h o K :=
  .inl ⟨.ret y, h, by unfold astep; rw [hk]; simp only [e, Option.map_some], k⟩
theorem Sim.l {K : AOut → AH → Prop} {y : AV} (hk : kindOf o = .l) (e : lop P G fr h.get o = some y) (k : K (.ret y) h) : Sim P G fr h o K :=
  .inl ⟨.ret y, h, by unfold astep; rw [hk]; simp only [e, Option.map_some], k⟩
theorem Sim.a {K : AOut → AH → Prop} {p : Ev × (Nat → AV)} (hk : kindOf o = .a) (e : mkop P G fr o = some p) (k : K (.ret (mkput h p).1) (mkput h p).2) : Sim P G fr h o K :=
  .inl ⟨.ret (mkput h p).1, (mkput h p).2, by unfold astep; rw [hk]; simp only [e, Option.map_some], k⟩
theorem Sim.e {K : AOut → AH → Prop} {out : AOut} {h' : AH} (hk : kindOf o = .e) (e : eop P G (fun _ _ _ => none) fr h o = some (out, h')) (k : K out h') : Sim P G fr h o K :=
  .inl ⟨out, h', by unfold astep; rw [hk]; simp only [e], k⟩
end
end Go.Proofs.YtkcbhebbjpiibaaDoor.Pg
